/- Merged texts: Mem, Open, Pur, Copy, Agg, FldA, FldB, FldC, FldL. -/
import Derived.Test.YtkmnhlhpmfkloaaWMore
import Derived.WalkKit
import Derived.BigRegion
import Derived.BigQuiet
import Derived.Deep.RegionHeld3
import Derived.Deep.AppendLies
import Derived.Deep.QuietTactic
import Derived.Deep.LoopGhost
import Derived.Deep.MidRow
import Derived.Test.YtkmnhlhpmfkloaaRows
import Derived.ProofKit
import Derived.SizedLaws
import Derived.OpenShut
import Derived.Deep.Slices
import Derived.IntWalk
import Derived.Laws.CopyRow
import Derived.Laws.IdiomCopy
import Derived.Laws.Rows
import Derived.Test.YtkmnhlhpmfkloaaProg
import Derived.KernelRfl
import Derived.OwnWalk
import Derived.Deep.Cut
import Derived.Deep.RegionLaw
import Derived.Lib.AppendStr
/- Memory: what a call leaves as it was; blocks and rows of one's own. -/
namespace Go.Proofs.Ytkmnhlhpmfkloaa.Mem
open Go.RowKit Go.Proofs.YtkmnhlhpmfkloaaW.PrintWords Go.Proofs.YtkmnhlhpmfkloaaW.PrintLast Go.Proofs.YtkmnhlhpmfkloaaW.PrintMore
set_option linter.unusedVariables false

/-- What a call may have changed: the blocks in S, and what is new. -/
structure Frm (S : Nat → Prop) (w w' : World) : Prop where
  os : w'.os = w.os
  tape : w'.tape = w.tape
  output : w'.output = w.output
  size : w.heap.size ≤ w'.heap.size
  block : ∀ k, k < w.heap.size → ¬ S k → w'.heap[k]? = w.heap[k]?

section
variable {S S1 S2 : Nat → Prop} {w w1 w2 : World}
theorem Frm.refl (S : Nat → Prop) (w : World) : Frm S w w := ⟨rfl, rfl, rfl, Nat.le_refl _, fun _ _ _ => rfl⟩
theorem Frm.trans (h : Frm S w w1) (h2 : Frm S2 w1 w2) (hs : ∀ k, S2 k → S k ∨ w.heap.size ≤ k) : Frm S w w2 :=
  ⟨h2.os.trans h.os, h2.tape.trans h.tape, h2.output.trans h.output, Nat.le_trans h.size h2.size, fun k hk hn => (h2.block k (Nat.lt_of_lt_of_le hk h.size) (fun h2 => (hs k h2).elim hn (fun h3 => by omega))).trans (h.block k hk hn)⟩
theorem Frm.mono (h : Frm S w w1) (hs : ∀ k, S k → S1 k) : Frm S1 w w1 := ⟨h.os, h.tape, h.output, h.size, fun k hk hn => h.block k hk (fun h2 => hn (hs k h2))⟩
theorem Frm.of_below (h : Below w.heap.size w w1) (S : Nat → Prop) : Frm S w w1 := ⟨h.os, h.tape, h.output, h.size, fun k hk _ => h.block k hk⟩
theorem Frm.to_below {B : Nat} (h : Frm S w w1) (hB : B ≤ w.heap.size) (hs : ∀ k, S k → B ≤ k) : Below B w w1 := ⟨h.os, h.tape, h.output, h.size, fun k hk => h.block k (by omega) (fun h2 => by have := hs k h2; omega)⟩
theorem Frm.then_below {B : Nat} (h0 : Below B w w1) (h : Frm S w1 w2) (hB : B ≤ w1.heap.size) (hs : ∀ k, S k → B ≤ k) : Below B w w2 := h0.trans (h.to_below hB hs)
theorem Frm.of_grown {row : Option Nat} (h : w.grownBy w1 row) (hs : ∀ k, row = some k → S k) : Frm S w w1 := ⟨h.os, h.tape, h.output, h.size, fun k hk hn => h.block k hk (fun e => hn (hs k e.symm))⟩
theorem Frm.drew (h : Frm S w w1) : Frm S w w1.drew := ⟨h.os, h.tape, h.output, h.size, h.block⟩
theorem Frm.drewN (h : Frm S w w1) (n : Nat) : Frm S w (w1.drewN n) := ⟨h.os, h.tape, h.output, h.size, h.block⟩
theorem Frm.alloc (h : Frm S w w1) (o : Obj) : Frm S w (w1.alloc o) := ⟨h.os, h.tape, h.output, by simp; have := h.size; omega, fun k hk hn => (Below.heap_alloc w1 o k (Nat.lt_of_lt_of_le hk h.size)).trans (h.block k hk hn)⟩
theorem Frm.setCell (h : Frm S w w1) {p : Addr} (hp : S p.block ∨ w.heap.size ≤ p.block) (u : Value) : Frm S w (w1.setCell p u) :=
  ⟨h.os, h.tape, h.output, by simpa using h.size, fun k hk hn => (Below.heap_setCell w1 p u k (fun e => hp.elim (fun h2 => hn (e ▸ h2)) (fun h2 => by omega))).trans (h.block k hk hn)⟩
theorem Frm.blk {g : Nat} {o : Obj} (h : Frm S w w1) (hb : w.heap[g]? = some o) (hn : ¬ S g) : w1.heap[g]? = some o := (h.block g (blk_lt hb) hn).trans hb
theorem Frm.row {base e size n : Nat} {v : Value} {xs : List Value} (h : Frm S w w1) (ho : w.ownsRow base e size v n xs) (hn : ∀ k, v.ownBlock = some k → ¬ S k) : w1.ownsRow base e size v n xs := by
  refine ⟨ho.1, ho.2.imp id ?_⟩
  rintro ⟨g, cap, cur, rfl, h1, h2, h3⟩
  exact ⟨g, cap, cur, rfl, h1, h.blk h2 (hn g rfl), h3⟩
theorem Frm.kept (h : Frm S w w1) : Kept w w1 S := ⟨h.size, h.block⟩
end

/-- The blocks of a variable at g and of the row v. -/
def foot (g : Nat) (v : Value) : Nat → Prop := fun k => k = g ∨ v.ownBlock = some k

section
variable {α : Type} {enc : α → List Value} {sz : Nat}
theorem flat_length (hsz : ∀ x, (enc x).length = sz) : ∀ (l : List α), (l.flatMap enc).length = l.length * sz
  | [] => by simp
  | x :: l => by rw [List.flatMap_cons, List.length_append, hsz, flat_length hsz l, List.length_cons, Nat.succ_mul]; omega
theorem flat_get (hsz : ∀ x, (enc x).length = sz) : ∀ (l : List α) (i j : Nat) (x : α), l[i]? = some x → j < sz → (l.flatMap enc)[i * sz + j]? = (enc x)[j]?
  | [], i, j, x, h, _ => by simp at h
  | y :: l, 0, j, x, h, hj => by
    simp only [List.getElem?_cons_zero, Option.some.injEq] at h
    subst h
    rw [List.flatMap_cons, Nat.zero_mul, Nat.zero_add, List.getElem?_append_left (by rw [hsz]; exact hj)]
  | y :: l, i + 1, j, x, h, hj => by
    rw [List.flatMap_cons, List.getElem?_append_right (by rw [hsz, Nat.succ_mul]; omega), hsz, show (i + 1) * sz + j - sz = i * sz + j by rw [Nat.succ_mul]; omega]
    exact flat_get hsz l i j x (by simpa using h) hj
theorem flat_set (hsz : ∀ x, (enc x).length = sz) : ∀ (l : List α) (i : Nat) (x : α), i < l.length → (l.set i x).flatMap enc = (l.flatMap enc).take (i * sz) ++ enc x ++ (l.flatMap enc).drop (i * sz + sz)
  | [], i, x, h => by simp at h
  | y :: l, 0, x, h => by
    simp only [List.set_cons_zero, List.flatMap_cons, Nat.zero_mul, List.take_zero, List.nil_append, Nat.zero_add]
    rw [List.drop_append, List.drop_eq_nil_of_le (by rw [hsz]; omega), hsz]
    simp
  | y :: l, i + 1, x, h => by
    simp only [List.set_cons_succ, List.flatMap_cons]
    have e1 : (enc y).take ((i + 1) * sz) = enc y := List.take_of_length_le (by rw [hsz, Nat.succ_mul]; omega)
    have e2 : (enc y).drop ((i + 1) * sz + sz) = [] := List.drop_eq_nil_of_le (by rw [hsz, Nat.succ_mul]; omega)
    rw [flat_set hsz l i x (by simpa using h), List.take_append, e1, List.drop_append, e2, hsz, List.nil_append,
      show (i + 1) * sz - sz = i * sz by rw [Nat.succ_mul]; omega, show (i + 1) * sz + sz - sz = i * sz + sz by rw [Nat.succ_mul]; omega]
    simp
end
end Go.Proofs.Ytkmnhlhpmfkloaa.Mem

/- How the arguments of a law are read: for each kind of the printed words, what a reading of the form gives: a value of the kind, with its sizes and its bulk. Holds for every program and world. -/
namespace Go.Proofs.Ytkmnhlhpmfkloaa.Opn
open Go.RowKit Go.ChangeShapes Go.WideShapes Go.Proofs.YtkmnhlhpmfkloaaW.PrintWords

structure Opens {α : Type} (P : Program) (t : TypeId) (d : Kd α) (wf : α → Prop) (bulk : α → Nat) : Prop where
  sz : P.cellsOf t = d.sz
  go : ∀ {H : Type} {enc : TypeId × Value → H} {w : World} {fuel : Nat} {cs : List Value} {x : DataW H × List MemPlace},
    DataW.trod enc P w 0 (fun _ => true) true fuel t cs = some x → (∀ n ∈ x.1.weights P t, n ≤ 140737488351232) →
    ∃ y : α, d.K w y cs ∧ wf y ∧ bulk y ≤ Rows.uptoBulk x.1

theorem int {P : Program} {t : TypeId} {k : IntKind} (ht : P.underlying t = some (.int k)) (hs : P.cellsOf t = 1) :
    Opens P t (Kd.int k) (fun y => (Lit.int k y).wf = true) (fun _ => 1) where
  sz := hs
  go := by
    intro H enc w fuel cs x h _
    obtain ⟨n, rfl, rfl, hw⟩ := DataW.trod_int ht h
    exact ⟨n, rfl, hw, by simp [Rows.uptoBulk]⟩

theorem bool {P : Program} {t : TypeId} (ht : P.underlying t = some .bool) (hs : P.cellsOf t = 1) :
    Opens P t Kd.bool (fun _ => True) (fun _ => 1) where
  sz := hs
  go := by
    intro H enc w fuel cs x h _
    obtain ⟨n, rfl, rfl⟩ := DataW.trod_bool ht h
    exact ⟨n, rfl, trivial, by simp [Rows.uptoBulk]⟩

theorem string {P : Program} {t : TypeId} (ht : P.underlying t = some .string) (hs : P.cellsOf t = 1) :
    Opens P t Kd.string (fun y => y.size ≤ 140737488351232) (fun y => y.size + 1) where
  sz := hs
  go := by
    intro H enc w fuel cs x h hz
    obtain ⟨s, rfl, rfl, _⟩ := DataW.trod_string ht h
    refine ⟨s, rfl, ?_, by simp [Rows.uptoBulk]⟩
    have := hz s.data.toList.length (by simp [DataW.weights])
    simpa using this

/-- The elements of a slice, one by one. -/
theorem rows {α : Type} {P : Program} {e : TypeId} {d : Kd α} {wf : α → Prop} {bulk : α → Nat} (he : Opens P e d wf bulk)
    {H : Type} {enc : TypeId × Value → H} {w : World} {n : Nat} {a : Addr} :
    ∀ (elems : List (DataW H × List MemPlace)) (s : Nat),
      (∀ i, i < elems.length → (w.cells? 0 (a.add ((s + i) * P.cellsOf e)) (P.cellsOf e)).bind (DataW.trod enc P w 0 (fun _ => true) true n e) = elems[i]?) →
      (∀ m ∈ DataW.weightsAll P e (elems.map (·.1)), m ≤ 140737488351232) →
      ∃ xs : List α, xs.length = elems.length ∧ (∀ j p, xs[j]? = some p → ∃ c, c.length = d.sz ∧ d.K w p c ∧ ∀ i u, c[i]? = some u → w.cell? (a.add ((s + j) * d.sz + i)) = some u) ∧
        (∀ x ∈ xs, wf x) ∧ (xs.map bulk).sum ≤ Rows.uptoBulkAll (elems.map (·.1)) := by
  intro elems
  induction elems with
  | nil => exact fun s _ _ => ⟨[], rfl, by simp, by simp, by simp⟩
  | cons y ys ih =>
    intro s hel hw
    have hwy : ∀ m ∈ y.1.weights P e, m ≤ 140737488351232 := fun m hm => hw m (by simp only [List.map_cons, DataW.weightsAll, List.mem_append]; exact .inl hm)
    have hwr : ∀ m ∈ DataW.weightsAll P e (ys.map (·.1)), m ≤ 140737488351232 := fun m hm => hw m (by simp only [List.map_cons, DataW.weightsAll, List.mem_append]; exact .inr hm)
    obtain ⟨xs, hl, hcs, hwf, hb⟩ := ih (s + 1) (fun i hi => by
      have := hel (i + 1) (by simp; omega)
      rw [show s + (i + 1) = s + 1 + i by omega] at this
      simpa using this) hwr
    have h0 := hel 0 (by simp)
    simp only [List.getElem?_cons_zero, Option.bind_eq_some_iff, Nat.add_zero] at h0
    obtain ⟨c, hc, ht⟩ := h0
    obtain ⟨z, hK, hz, hzb⟩ := he.go ht hwy
    refine ⟨z :: xs, by simp [hl], ?_, ?_, ?_⟩
    · intro j p hp
      cases j with
      | zero =>
        simp only [List.getElem?_cons_zero, Option.some.injEq] at hp
        subst hp
        refine ⟨c, d.K_len hK, hK, fun i u hu => ?_⟩
        have h1 := World.cells?_some hc
        have hi : i < P.cellsOf e := by
          have := (List.getElem?_eq_some_iff.1 hu).1
          rw [d.K_len hK, ← he.sz] at this
          exact this
        have h2 := h1.2.2 i hi
        rw [hu] at h2
        rw [Deep.add_add, he.sz] at h2
        simpa using h2
      | succ j =>
        simp only [List.getElem?_cons_succ] at hp
        have := hcs j p hp
        rw [show s + 1 + j = s + (j + 1) by omega] at this
        exact this
    · intro x hx
      rcases List.mem_cons.1 hx with rfl | hx
      · exact hz
      · exact hwf x hx
    · simp only [List.map_cons, List.sum_cons, Rows.uptoBulkAll]
      omega

theorem slice {α : Type} {P : Program} {t e : TypeId} {d : Kd α} {wf : α → Prop} {bulk : α → Nat} {B : Nat} (ht : P.underlying t = some (.slice e)) (hs : P.cellsOf t = 1) (hB : P.bytesOf e = B) (he : Opens P e d wf bulk) :
    Opens P t (Kd.slice e d) (fun xs => xs.length * B ≤ 140737488351232 ∧ ∀ x ∈ xs, wf x) (fun xs => (xs.map bulk).sum + 1) where
  sz := hs
  go := by
    intro H enc w fuel cs x h hz
    rcases DataW.trod_slice ht h with ⟨rfl, rfl⟩ | ⟨a, len, cap, elems, rest, n, _, rfl, rfl, hb, hl, hm, hlen, hel, hsp, hns⟩
    · exact ⟨[], ⟨none, 0, rfl, by simp, ⟨rfl, by simp, fun h => absurd h (by simp)⟩⟩, ⟨by simp, by simp⟩, by simp [Rows.uptoBulk]⟩
    · have hw : ∀ m ∈ DataW.weightsAll P e (elems.map (·.1)), m ≤ 140737488351232 := fun m hm => hz m (by simp only [DataW.weights, ht, List.mem_cons, List.mem_append]; exact .inr (.inl hm))
      have hsize := hz ((elems.map (·.1)).length + (rest.map (·.1)).length * 1 |> fun _ => ((elems.map (·.1)).length + (rest.map (·.1)).length) * P.bytesOf e) (by simp [DataW.weights, ht])
      obtain ⟨xs, hxl, hcell, hwf, hbulk⟩ := rows he elems 0 (a := a) (w := w) (n := n) (enc := enc) (fun i hi => by
        have := hel i (by omega)
        simpa using this) hw
      have hlx : xs.length = len := by omega
      refine ⟨xs, ⟨some a, cap, by rw [hlx], by omega, ⟨rfl, ?_, fun _ => ⟨a, rfl, fun j p hp => ?_⟩⟩⟩, ⟨?_, hwf⟩, ?_⟩
      · unfold maxLen at hm
        omega
      · have := hcell j p hp
        simpa using this
      · rw [hxl]
        have h1 : elems.length * B ≤ (elems.length + rest.length) * B := Nat.mul_le_mul_right _ (by omega)
        simp only [List.length_map, hB] at hsize
        omega
      · simp only [Rows.uptoBulk]
        omega

structure OpensF {α : Type} (P : Program) (fs : List Field) (o : Nat) (d : Kd α) (wf : α → Prop) (bulk : α → Nat) : Prop where
  go : ∀ {H : Type} {enc : TypeId × Value → H} {w : World} {n : Nat} {cs : List Value} {xs : List (DataW H × List MemPlace)},
    cs.length = o + d.sz → xs.length = fs.length →
    (∀ (i : Nat) (f : Field), fs[i]? = some f → DataW.trod enc P w 0 (fun _ => true) true n f.type ((cs.drop f.offset).take (P.cellsOf f.type)) = xs[i]?) →
    (∀ m ∈ DataW.weightsEach P (fs.map (·.type)) (xs.map (·.1)), m ≤ 140737488351232) →
    ∃ y : α, d.K w y (cs.drop o) ∧ wf y ∧ bulk y ≤ Rows.uptoBulkAll (xs.map (·.1))

theorem fone {α : Type} {P : Program} {f : Field} {o : Nat} {d : Kd α} {wf : α → Prop} {bulk : α → Nat} (ho : f.offset = o) (h : Opens P f.type d wf bulk) : OpensF P [f] o d wf bulk where
  go := by
    intro H enc w n cs xs hl hx hr hz
    obtain ⟨x, rfl⟩ : ∃ x, xs = [x] := by
      match xs, hx with
      | [x], _ => exact ⟨x, rfl⟩
    have h0 := hr 0 f rfl
    rw [ho, h.sz, List.take_of_length_le (by simp; omega)] at h0
    obtain ⟨y, hK, hw, hb⟩ := h.go h0 (fun m hm => hz m (by simpa [DataW.weightsEach] using hm))
    exact ⟨y, hK, hw, by simp only [List.map_cons, List.map_nil, Rows.uptoBulkAll]; omega⟩

theorem fcons {α β : Type} {P : Program} {f : Field} {fs : List Field} {o o' : Nat} {a : Kd α} {b : Kd β} {wa : α → Prop} {wb : β → Prop} {ba : α → Nat} {bb : β → Nat}
    (ho : f.offset = o) (ha : Opens P f.type a wa ba) (ho' : o + a.sz = o') (hb : OpensF P fs o' b wb bb) :
    OpensF P (f :: fs) o (Kd.pair a b) (fun y => wa y.1 ∧ wb y.2) (fun y => ba y.1 + bb y.2) where
  go := by
    intro H enc w n cs xs hl hx hr hz
    obtain ⟨x, xr, rfl⟩ : ∃ x xr, xs = x :: xr := by
      match xs, hx with
      | x :: xr, _ => exact ⟨x, xr, rfl⟩
    have hl' : cs.length = o + (a.sz + b.sz) := hl
    have h0 := hr 0 f rfl
    rw [ho, ha.sz] at h0
    obtain ⟨y, hK, hw, hbk⟩ := ha.go h0 (fun m hm => hz m (by simp only [List.map_cons, DataW.weightsEach, List.mem_append]; exact .inl hm))
    obtain ⟨z, hK2, hw2, hbk2⟩ := hb.go (cs := cs) (n := n) (w := w) (enc := enc) (xs := xr) (by omega) (by simpa using hx) (fun i g hg => by
      have := hr (i + 1) g (by simpa using hg)
      simpa using this) (fun m hm => hz m (by simp only [List.map_cons, DataW.weightsEach, List.mem_append]; exact .inr hm))
    refine ⟨(y, z), ⟨(cs.drop o).take a.sz, cs.drop o', ?_, hK, hK2⟩, ⟨hw, hw2⟩, ?_⟩
    · rw [← ho', ← List.drop_drop, List.take_append_drop]
    · simp only [List.map_cons, Rows.uptoBulkAll]
      omega

theorem struct {α β : Type} {P : Program} {t : TypeId} {fs : Array Field} {d : Kd α} {wf : α → Prop} {bulk : α → Nat} (f : β → α) (g : α → β) (hfg : ∀ y, f (g y) = y)
    (ht : P.underlying t = some (.struct fs)) (hs : P.cellsOf t = d.sz) (h : OpensF P fs.toList 0 d wf bulk) :
    Opens P t (Kd.iso d f) (fun y => wf (f y)) (fun y => bulk (f y) + 1) where
  sz := hs
  go := by
    intro H enc w fuel cs x hx hz
    obtain ⟨xs, n, rfl, rfl, hl, hxl, hr⟩ := DataW.trod_struct ht hx
    obtain ⟨y, hK, hw, hb⟩ := h.go (cs := cs) (n := n) (w := w) (enc := enc) (xs := xs) (by omega) (by simpa using hxl) (fun i f hf => hr i f (by simpa using hf)) (fun m hm => hz m (by simp only [DataW.weights, ht]; exact hm))
    refine ⟨g y, ?_, by rw [hfg]; exact hw, ?_⟩
    · show d.K w (f (g y)) cs
      rw [hfg]
      simpa using hK
    · rw [hfg]
      simp only [Rows.uptoBulk]
      omega

/-- An argument that is a slice. -/
theorem arg_slice {α : Type} {P : Program} {t e : TypeId} {d : Kd α} {wf : List α → Prop} {bulk : List α → Nat} (h : Opens P t (Kd.slice e d) wf bulk)
    {H : Type} {enc : TypeId × Value → H} {w : World} {v : Value} {x : DataW H} {ps : List MemPlace} (hv : ∃ a len cap, v = .slice a len cap)
    (ht : DataW.Trod enc P w 0 (fun _ => true) true t v x ps) (hz : ∀ n ∈ x.weights P t, n ≤ 140737488351232) :
    ∃ A c xs, v = .slice A xs.length c ∧ xs.length ≤ c ∧ Kd.C d w A xs.length xs ∧ wf xs ∧ bulk xs ≤ Rows.uptoBulk x := by
  obtain ⟨a, len, cap, rfl⟩ := hv
  obtain ⟨fuel, hf⟩ := ht
  obtain ⟨xs, ⟨A, c, he, hl, hC⟩, hw, hb⟩ := h.go hf hz
  simp [Value.cells] at he
  obtain ⟨rfl, rfl, rfl⟩ := he
  exact ⟨_, _, xs, rfl, hl, hC, hw, hb⟩
/-- An argument that is a struct. -/
theorem arg_struct {α : Type} {P : Program} {t : TypeId} {d : Kd α} {wf : α → Prop} {bulk : α → Nat} (h : Opens P t d wf bulk)
    {H : Type} {enc : TypeId × Value → H} {w : World} {v : Value} {x : DataW H} {ps : List MemPlace} (hv : ∃ cs, v = .agg cs ∧ cs.size = P.cellsOf t)
    (ht : DataW.Trod enc P w 0 (fun _ => true) true t v x ps) (hz : ∀ n ∈ x.weights P t, n ≤ 140737488351232) :
    ∃ cs y, v = .agg cs ∧ d.K w y cs.toList ∧ wf y ∧ bulk y ≤ Rows.uptoBulk x := by
  obtain ⟨cs, rfl, _⟩ := hv
  obtain ⟨fuel, hf⟩ := ht
  obtain ⟨y, hK, hw, hb⟩ := h.go hf hz
  exact ⟨cs, y, rfl, hK, hw, hb⟩
theorem weights_of {H : Type} {P : Program} {ts : List TypeId} {ds : List (DataW H)} (h : (DataW.weightsEach P ts ds).all (· ≤ reachBytes) = true) {j : Nat} {t : TypeId} {d : DataW H} (ht : ts[j]? = some t) (hd : ds[j]? = some d) :
    ∀ n ∈ d.weights P t, n ≤ 140737488351232 := fun n hn => by
  have := List.all_eq_true.1 h _ (DataW.weights_mem_each ht hd n hn)
  have h2 := of_decide_eq_true this
  simpa [reachBytes] using h2
end Go.Proofs.Ytkmnhlhpmfkloaa.Opn

/- Small plain lemmas for pure statements: rounds from some number on, tests, wraps, reads of lists. -/
namespace Go.Proofs.Ytkmnhlhpmfkloaa.Pur
open Go.RowKit Go.Proofs.YtkmnhlhpmfkloaaW.PrintWords Go.Proofs.YtkmnhlhpmfkloaaW.PrintMore
variable {α β : Type} {r : α}

theorem pos {c : Prop} [Decidable c] {A B : Nat → Option α} (hc : c) (h : Ev A r) : Ev (fun k => if c then A k else B k) r := by
  simpa only [if_pos hc] using h
theorem neg {c : Prop} [Decidable c] {A B : Nat → Option α} (hc : ¬ c) (h : Ev B r) : Ev (fun k => if c then A k else B k) r := by
  simpa only [if_neg hc] using h
theorem bnd {f : Nat → β → Option α} {o : Option β} {a : β} (ho : o = some a) (h : Ev (fun k => f k a) r) : Ev (fun k => o.bind (f k)) r := by
  subst ho
  simpa only [Option.bind_some] using h
theorem done {a : α} (h : a = r) : Ev (fun _ => some a) r := by
  subst h
  exact Ev.now _
theorem w64 {x : Int} (h : -9223372036854775808 ≤ x) (h2 : x ≤ 9223372036854775807) : wrap64 x = x := by
  unfold wrap64
  omega
theorem i64b {x : Int} (h : (Lit.int .i64 x).wf = true) : -9223372036854775808 ≤ x ∧ x ≤ 9223372036854775807 := by
  simpa [Lit.wf, IntKind.min, IntKind.max, IntKind.signed, IntKind.bits] using h
theorem u8b {x : Int} (h : (Lit.int .u8 x).wf = true) : 0 ≤ x ∧ x ≤ 255 := by
  simpa [Lit.wf, IntKind.min, IntKind.max, IntKind.signed, IntKind.bits] using h
theorem u32b {x : Int} (h : (Lit.int .u32 x).wf = true) : 0 ≤ x ∧ x ≤ 4294967295 := by
  simpa [Lit.wf, IntKind.min, IntKind.max, IntKind.signed, IntKind.bits] using h
theorem rd_nat (xs : List Int) (i : Nat) (h : i < xs.length) : rd xs (i : Int) = xs[i] := by
  simp [rd, List.getD_eq_getElem?_getD, h]
theorem rd_of {xs : List Int} {i : Int} {n : Nat} (hn : i = n) (h : n < xs.length) : rd xs i = xs[n] := by
  subst hn
  exact rd_nat xs n h
theorem rd_app_left (xs ys : List Int) (i : Int) (h0 : 0 ≤ i) (h : i < xs.length) : rd (xs ++ ys) i = rd xs i := by
  simp only [rd, List.getD_eq_getElem?_getD]
  rw [List.getElem?_append_left (by omega)]
theorem rd_take (xs : List Int) (n : Nat) (i : Int) (h0 : 0 ≤ i) (h : i < n) : rd (xs.take n) i = rd xs i := by
  simp only [rd, List.getD_eq_getElem?_getD]
  rw [List.getElem?_take_of_lt (by omega)]
theorem rd_snoc (xs : List Int) (y : Int) : rd (xs ++ [y]) xs.length = y := by
  simp [rd]
/-- Two lists that read alike are one. -/
theorem ext_rd {xs ys : List Int} (hl : xs.length = ys.length) (h : ∀ i : Nat, i < xs.length → rd xs i = rd ys i) : xs = ys := by
  apply List.ext_getElem hl
  intro i h1 h2
  have := h i h1
  rwa [rd_nat _ _ h1, rd_nat _ _ h2] at this
theorem take_rd (xs : List Int) (n : Nat) (h : n < xs.length) : xs.take (n + 1) = xs.take n ++ [rd xs n] := by
  rw [List.take_succ_eq_append_getElem h, rd_nat _ _ h]
end Go.Proofs.Ytkmnhlhpmfkloaa.Pur

/- The builtin copy onto a row of the call's own: elements of any number of cells; what is copied leads to no rows of its own. -/
namespace Go.Proofs.YtkmnhlhpmfkloaaW.PrintMore
open Go.RowKit Go.Proofs.YtkmnhlhpmfkloaaW.PrintWords
set_option linter.unusedVariables false

/-- What a row holds behind copy. -/
def cpy {α : Type} (xs ys : List α) : List α := ys.take xs.length ++ xs.drop ys.length
theorem cpy_length {α : Type} (xs ys : List α) : (cpy xs ys).length = xs.length := by simp [cpy]; omega
theorem cpy_same {α : Type} {xs ys : List α} (h : xs.length = ys.length) : cpy xs ys = ys := by
  unfold cpy
  rw [List.take_of_length_le (by omega), List.drop_eq_nil_of_le (by omega), List.append_nil]

section
variable {P : Program} {ops : Array Oper} {rest : List Oper} {o : Oper} {a : Act} {Q : Exit → Act → World → Prop}
theorem reps_part {α : Type} {R R' : α → List Value → Prop} {size : Nat} {xs ys : List α} {cs ds : List Value} (hx : Reps R size xs cs) (hy : Reps R' size ys ds)
    {S : α → List Value → Prop} (h1 : ∀ p c, R p c → S p c) (h2 : ∀ p c, R' p c → S p c) :
    Reps S size (cpy xs ys) (ds.take (xs.length * size) ++ cs.drop (ys.length * size)) := by
  have hlx := hx.1
  have hly := hy.1
  refine ⟨?_, fun j p hj => ?_⟩
  · rw [cpy_length]
    rw [List.length_append, List.length_take, List.length_drop, hlx, hly]
    rcases Nat.le_total xs.length ys.length with h | h
    · have := Nat.mul_le_mul_right size h
      omega
    · have := Nat.mul_le_mul_right size h
      omega
  · unfold cpy at hj
    rcases Nat.lt_or_ge j (min xs.length ys.length) with hlt | hge
    · rw [List.getElem?_append_left (by simp; omega), List.getElem?_take_of_lt (by omega)] at hj
      have hp := h2 _ _ (hy.2 j p hj)
      have hb1 : j * size + size ≤ xs.length * size := by rw [← Nat.succ_mul]; exact Nat.mul_le_mul_right _ (by omega)
      have hb2 : j * size + size ≤ ys.length * size := by rw [← Nat.succ_mul]; exact Nat.mul_le_mul_right _ (by omega)
      rw [List.drop_append_of_le_length (by rw [List.length_take]; omega), List.take_append_of_le_length (by rw [List.length_drop, List.length_take]; omega), List.drop_take, List.take_take, Nat.min_eq_left (by omega)]
      exact hp
    · have hjl := (List.getElem?_eq_some_iff.1 hj).1
      rw [List.length_append, List.length_take, List.length_drop] at hjl
      have hly' : ys.length ≤ xs.length := by omega
      have hmin : min xs.length ys.length = ys.length := by omega
      rw [List.getElem?_append_right (by rw [List.length_take]; omega), List.getElem?_drop, List.length_take, hmin, show ys.length + (j - ys.length) = j by omega] at hj
      have hp := h1 _ _ (hx.2 j p hj)
      have hb2 : ys.length * size ≤ j * size := Nat.mul_le_mul_right _ (by omega)
      have hb3 : ds.length ≤ xs.length * size := by rw [hly]; exact Nat.mul_le_mul_right _ (by omega)
      rw [List.take_of_length_le hb3, List.drop_append, List.drop_eq_nil_of_le (by omega), List.nil_append, List.drop_drop, hly, show ys.length * size + (j * size - ys.length * size) = j * size by omega]
      exact hp

theorem R_copy {α : Type} (d : Kd α) {w0 W : World} (base : Nat) (hgd : o.guard = none) (s x : Operand) (t sT e : TypeId)
    (ho : o.op = .call { callee := .builtin .copy, args := #[s, x], argTypes := #[t, sT] })
    (ht : P.underlying t = some (.slice e)) {z : Value} {bytes : Nat} (hinfo : (P.info? e).map (fun i => (i.zero, i.size, i.bytes)) = some (some z, d.sz, bytes)) (hs0 : 0 < d.sz)
    (v : Value) (xs ys : List α) (A : Option Addr) (m c : Nat) (ok okp : Nat → Prop) (hs : a.eval s = v) (hx : a.eval x = .slice A m c)
    (HO : d.R e W base ok v xs) (HR : d.C W A m ys) (hKM : ∀ x cs W', d.K W x cs → d.M W' base okp x cs) (hokp : ∀ k, okp k → ok k ∧ some k ≠ v.ownBlock)
    (HB : Below base w0 W)
    (h : ∀ w1, d.R e w1 base ok v (cpy xs ys) → Below base w0 w1 → W.grownBy w1 v.ownBlock → (v.ownBlock = v.ownBlock ∨ ∃ b, v.ownBlock = some b ∧ W.heap.size ≤ b) → wpList P ops Q rest (a.put o.dst (.int .i64 (mn (xs.length : Int) (ys.length : Int)))) w1) :
    wpList P ops Q (o :: rest) a W := by
  obtain ⟨i0, hi, hzz⟩ := Option.map_eq_some_iff.1 hinfo
  simp only [Prod.mk.injEq] at hzz
  obtain ⟨_, hz1, _⟩ := hzz
  have hm : ys.length = m := HR.1
  obtain ⟨hok, inner, hown, hr⟩ := HO
  have hmn : ((Nat.min m xs.length : Nat) : Int) = mn (xs.length : Int) (ys.length : Int) := by
    unfold mn
    rw [← hm]
    show ((min ys.length xs.length : Nat) : Int) = _
    split <;> omega
  have hrun : ∃ w1, (Builtin.copy_ #[t, sT] o.type #[v, .slice A m c]).run P W = .ok (.int .i64 (mn (xs.length : Int) (ys.length : Int))) w1 ∧ d.R e w1 base ok v (cpy xs ys) ∧ Below base w0 w1 ∧ W.grownBy w1 v.ownBlock := by
    rw [← hmn]
    have none_ : Nat.min m xs.length = 0 → (∀ (q : Option Addr) (l c' : Nat), v = .slice q l c' → l = xs.length → (Builtin.copy_ #[t, sT] o.type #[v, .slice A m c]).run P W = .ok (.int .i64 ((Nat.min m xs.length : Nat) : Int)) W) := by
      intro h0 q l c' hv hl
      subst hv
      subst hl
      have hld : ∀ (x : Addr), (loadCells x 0).run P W = .ok #[] W := fun x => by simpa using run_loadCells_list (P := P) W x [] (by simp)
      cases q <;> cases A <;> simp [Builtin.copy_, run_underlying ht, Builtin.lenOf, Builtin.firstCells, sizeOf, typeInfo, hi, h0, storeCells, hld, goInt]
    by_cases h0 : Nat.min m xs.length = 0
    · have hv : ∃ q c', v = .slice q xs.length c' := by
        rcases hown.2 with ⟨rfl, h1⟩ | ⟨g, cap, cur, rfl, _⟩
        · exact ⟨none, 0, by rw [h1]⟩
        · exact ⟨_, cap, rfl⟩
      obtain ⟨q, c', hv⟩ := hv
      refine ⟨W, none_ h0 q _ c' hv rfl, ?_, HB, World.grownBy.refl W _⟩
      have hc : cpy xs ys = xs := by
        have h0' : min m xs.length = 0 := h0
        unfold cpy
        rcases Nat.eq_zero_or_pos xs.length with hz | hz
        · obtain rfl := List.eq_nil_of_length_eq_zero hz
          simp
        · obtain rfl : ys = [] := List.eq_nil_of_length_eq_zero (by omega)
          simp
      rw [hc]
      exact ⟨hok, inner, hown, hr⟩
    · have h0' : min m xs.length ≠ 0 := h0
      rcases hown.2 with ⟨rfl, h1⟩ | ⟨g, cap, cur, rfl, hbg, hh, hnc, hcm, hcs, htk⟩
      · omega
      · rcases A with _ | ad
        · exfalso
          obtain ⟨ad, h, _⟩ := HR.2.2 (by omega)
          cases h
        · obtain ⟨news, hnr, hnc2⟩ := ReadsRow.inner_ HR
          have hnl : news.length = m * d.sz := by rw [hnr.1, hm]
          have hone : ∀ u ∈ news, u.oneCell' = true := by
            intro u hu
            obtain ⟨q, hq, rfl⟩ := List.mem_iff_getElem.1 hu
            have hql : q / d.sz < ys.length := by
              rw [Nat.div_lt_iff_lt_mul hs0, ← hnr.1]
              exact hq
            have hc := hnr.2 (q / d.sz) _ (List.getElem?_eq_getElem hql)
            refine d.K_one hc _ ?_
            rw [List.mem_iff_getElem?]
            refine ⟨q % d.sz, ?_⟩
            rw [List.getElem?_take, if_pos (Nat.mod_lt _ hs0), List.getElem?_drop, Nat.mul_comm, Nat.div_add_mod, List.getElem?_eq_getElem hq]
          have hcsl : (news.take (xs.length * d.sz)).length = Nat.min m xs.length * d.sz := by
            rw [List.length_take, hnl]
            show min (xs.length * d.sz) (m * d.sz) = min m xs.length * d.sz
            rcases Nat.le_total m xs.length with hq | hq
            · have := Nat.mul_le_mul_right d.sz hq
              rw [Nat.min_eq_right this, Nat.min_eq_left hq]
            · have := Nat.mul_le_mul_right d.sz hq
              rw [Nat.min_eq_left this, Nat.min_eq_right hq]
          have hb1 : Nat.min m xs.length * d.sz ≤ cap * d.sz := Nat.mul_le_mul_right _ (show min m xs.length ≤ cap by omega)
          have hl := run_loadCells_list (P := P) W ad (news.take (xs.length * d.sz)) (fun j u hu => hnc2 j u (by
            have hj := (List.getElem?_eq_some_iff.1 hu).1
            rw [List.length_take] at hj
            rwa [List.getElem?_take_of_lt (by omega)] at hu))
          have hst := run_storeCells_at P g 0 e (news.take (xs.length * d.sz)) 0 cur W hh (by rw [hcsl, hcs]; omega) (fun u hu => hone u (List.mem_of_mem_take hu))
          rw [hcsl] at hl
          have hgl : g < W.heap.size := (Array.getElem?_eq_some_iff.1 hh).1
          refine ⟨W.setRow g (cur.toList.take (0 + 0) ++ news.take (xs.length * d.sz) ++ cur.toList.drop (0 + 0 + (news.take (xs.length * d.sz)).length)).toArray, ?_, ?_, ?_, ?_⟩
          · have hsz : d.sz = i0.size := hz1.symm
            rw [hsz] at hl hst ⊢
            simp [Builtin.copy_, run_underlying ht, Builtin.lenOf, Builtin.firstCells, sizeOf, typeInfo, hi, hl, hst, goInt]
          · have hkeep : ∀ k, k ≠ g → (W.setRow g (cur.toList.take (0 + 0) ++ news.take (xs.length * d.sz) ++ cur.toList.drop (0 + 0 + (news.take (xs.length * d.sz)).length)).toArray).heap[k]? = W.heap[k]? := fun k hk => setRow_other W g k _ (by omega)
            have hnew := setRow_heap W g cur (cur.toList.take (0 + 0) ++ news.take (xs.length * d.sz) ++ cur.toList.drop (0 + 0 + (news.take (xs.length * d.sz)).length)).toArray e (0, 0) hh
            refine ⟨hok, news.take (xs.length * d.sz) ++ inner.drop (ys.length * d.sz), ⟨?_, .inr ⟨g, cap, _, by rw [cpy_length], hbg, hnew, by rw [cpy_length]; exact hnc, hcm, ?_, ?_⟩⟩, ?_⟩
            · rw [cpy_length, List.length_append, hcsl, List.length_drop, hown.1, hm]
              show min m xs.length * d.sz + (xs.length * d.sz - m * d.sz) = _
              rcases Nat.le_total m xs.length with hq | hq
              · have := Nat.mul_le_mul_right d.sz hq
                rw [Nat.min_eq_left hq]; omega
              · have := Nat.mul_le_mul_right d.sz hq
                rw [Nat.min_eq_right hq]; omega
            · simp only [Nat.add_zero, List.take_zero, List.nil_append, Nat.zero_add, List.size_toArray, List.length_append, List.length_drop, Array.length_toList]
              rw [hcsl, hcs]
              omega
            · rw [cpy_length]
              simp only [Nat.add_zero, List.take_zero, List.nil_append, Nat.zero_add]
              rw [← htk]
              have hb2 : (news.take (xs.length * d.sz)).length ≤ xs.length * d.sz := by rw [List.length_take]; omega
              rw [List.take_append, List.take_of_length_le hb2]
              congr 1
              rw [hcsl, hm, List.drop_take]
              show List.take (xs.length * d.sz - min m xs.length * d.sz) (List.drop (min m xs.length * d.sz) cur.toList) = _
              rcases Nat.le_total m xs.length with hq | hq
              · rw [Nat.min_eq_left hq]
              · have := Nat.mul_le_mul_right d.sz hq
                rw [Nat.min_eq_right hq, Nat.sub_self, List.take_zero, Nat.sub_eq_zero_of_le this, List.take_zero]
            · refine reps_part hr hnr (fun p cs hp => ?_) (fun p cs hp => ?_)
              · refine d.M_move (fun k hk => hkeep k ?_) hp
                rintro rfl
                exact hk.2 rfl
              · exact d.M_mono (fun k hk => hokp k hk) (hKM p cs _ hp)
          · refine HB.trans ⟨rfl, rfl, rfl, by simp [World.setRow], fun k hk => setRow_other W g k _ (by omega)⟩
          · refine ⟨rfl, rfl, rfl, by simp [World.setRow], fun k hk hne => setRow_other W g k _ (fun he => hne (by subst he; rfl))⟩
  obtain ⟨w1, hr1, hR, hB, hG⟩ := hrun
  refine wpList_plain hgd fun K hK => ?_
  unfold Oper.wp
  simp [execOp, ho, resolve, invoke, builtin, hs, hx, hr1, Result.andThen]
  exact hK _ _ (h w1 hR hB hG (.inl rfl))
end
end Go.Proofs.YtkmnhlhpmfkloaaW.PrintMore

/- A whole struct loaded from a row's place, and stored into the variable that was just made: one step each. -/
namespace Go.Proofs.YtkmnhlhpmfkloaaW.PrintMore
open Go.RowKit Go.Proofs.YtkmnhlhpmfkloaaW.PrintWords
set_option linter.unusedVariables false
variable {P : Program} {ops : Array Oper} {rest : List Oper} {o : Oper} {a : Act} {Q : Exit → Act → World → Prop} {W : World}
theorem agg_load (ty : TypeId) (x : Operand) (hgd : o.guard = none) (ho : o.op = .load ty x) (ad : Addr) (hx : a.eval x = .pointer (some ad)) (cs : List Value) {d : TypeDesc}
    (hu : P.underlying ty = some d) (hd : (match d with | .struct _ | .array _ _ => true | _ => false) = true) {z : Option Value} {bytes : Nat} (hinfo : (P.info? ty).map (fun i => (i.zero, i.size, i.bytes)) = some (z, cs.length, bytes))
    (hc : ∀ j v, cs[j]? = some v → W.cell? (ad.add j) = some v)
    (h : wpList P ops Q rest (a.put o.dst (.agg cs.toArray)) W) : wpList P ops Q (o :: rest) a W := by
  refine wpList_plain hgd fun K hK => ?_
  have hl := run_loadCells_list (P := P) W ad cs hc
  have hagg : (isAgg ty).run P W = .ok true W := by
    unfold isAgg
    rw [Sem.run_bind, run_underlying hu W]
    cases d <;> simp_all
  have hr : (loadVar ty ad).run P W = .ok (.agg cs.toArray) W := by
    cases hq : P.info? ty with
    | none => simp [hq] at hinfo
    | some i =>
      have hs : i.size = cs.length := by
        simp only [hq, Option.map_some, Option.some.injEq, Prod.mk.injEq] at hinfo
        exact hinfo.2.1
      simp [loadVar, Sem.run_bind, hagg, sizeOf, typeInfo, hq, hs, hl]
  unfold Oper.wp execOp
  simp only [ho, hx, Instr.loadAt, Instr.sureAddr, Sem.run_bind, Sem.run_pure, Result.andThen_ok, hr]
  exact hK _ _ h
theorem setRow_alloc_new (W : World) (old cs : Array Value) (t : TypeId) : (W.alloc (.cells old t)).setRow W.heap.size cs = W.alloc (.cells cs t) := by
  unfold World.setRow World.alloc
  congr 1
  apply Array.ext
  · simp
  · intro k h1 h2
    simp only [Array.getElem_modify, Array.getElem_push]
    by_cases hk : k < W.heap.size
    · simp [hk, Nat.ne_of_gt hk]
    · have : k = W.heap.size := by simp at h1; omega
      subst this
      simp
theorem agg_store_new (ty : TypeId) (x y : Operand) (hgd : o.guard = none) (ho : o.op = .store ty x y) (old cells : Array Value) (t : TypeId)
    (hx : a.eval x = .pointer (some ⟨W.heap.size, 0, none⟩)) (hy : a.eval y = .agg cells) (hi : (P.info? ty).map (·.size) = some cells.size)
    (hold : old.size = cells.size) (h1 : cells.all (·.oneCell') = true)
    (h : wpList P ops Q rest (a.put o.dst undef) (W.alloc (.cells cells t))) : wpList P ops Q (o :: rest) a (W.alloc (.cells old t)) := by
  refine wpList_plain hgd fun K hK => ?_
  refine wp_store_row ty x y ho W.heap.size cells hx hy t old (heap_alloc_new W _) hi hold h1 ?_
  rw [setRow_alloc_new]
  exact hK _ _ h
theorem gate_load {ty : TypeId} {x : Operand} (_ho : o.op = .load ty x) (h : wpList P ops Q (o :: rest) a W) : wpList P ops Q (o :: rest) a W := h
theorem agg_at {cs : List Value} {ad : Addr} {m : Nat} (h : ∀ j u, cs[j]? = some u → W.cell? (ad.add (m + j)) = some u) : ∀ j u, cs[j]? = some u → W.cell? ((ad.add m).add j) = some u := by
  intro j u hj
  have e : (ad.add m).add j = ad.add (m + j) := by
    unfold Addr.add
    by_cases hm : m = 0
    · subst hm
      simp
    · by_cases hjz : j = 0
      · subst hjz
        simp [hm]
      · simp [hm, hjz, Nat.add_assoc]
  rw [e]
  exact h j u hj
/-- A variable made and at once written whole: one event. -/
theorem box2_event {o2 : Oper} (hgd : o.guard = none) {N : Tmp} (_hd : o.dst = some N) (hgd2 : o2.guard = none) {zs : Array Value} {cs : List Value} {t ty : TypeId} (y : Operand) (ho2 : o2.op = .store ty (.tmp N) y)
    (hrun : (execOp a.eval o).run P W = .ok (.value (.pointer (some ⟨W.heap.size, 0, none⟩))) (W.alloc (.cells zs t (0, 0))))
    (hx : (a.put o.dst (.pointer (some ⟨W.heap.size, 0, none⟩))).eval (.tmp N) = .pointer (some ⟨W.heap.size, 0, none⟩))
    (hy : (a.put o.dst (.pointer (some ⟨W.heap.size, 0, none⟩))).eval y = .agg cs.toArray) {z : Option Value} {bytes n : Nat} (hinfo : (P.info? ty).map (fun i => (i.zero, i.size, i.bytes)) = some (z, n, bytes)) (hn : n = cs.length)
    (hold : zs.size = cs.length) (h1 : cs.all (·.oneCell') = true)
    (h : ∀ g, g = W.heap.size → ∀ w1, w1.heap[g]? = some (.cells cs.toArray t (0, 0)) → Below W.heap.size W w1 → wpList P ops Q rest ((a.put o.dst (.pointer (some ⟨g, 0, none⟩))).put o2.dst undef) w1) :
    wpList P ops Q (o :: o2 :: rest) a W := by
  have h1' : cs.toArray.all (·.oneCell') = true := by simpa using h1
  have hi : (P.info? ty).map (·.size) = some cs.toArray.size := by
    cases hq : P.info? ty with
    | none => simp [hq] at hinfo
    | some i =>
      simp only [hq, Option.map_some, Option.some.injEq, Prod.mk.injEq] at hinfo
      simp [hinfo.2.1, hn]
  refine wpList_plain hgd fun K hK => ?_
  unfold Oper.wp
  rw [hrun]
  refine hK _ _ ?_
  refine wpList_plain hgd2 fun K2 hK2 => ?_
  refine wp_store_row ty (.tmp N) y ho2 W.heap.size cs.toArray hx hy t zs (heap_alloc_new W _) hi (by simpa using hold) h1' ?_
  rw [setRow_alloc_new]
  exact hK2 _ _ (h _ rfl _ (blk_new W _) (below_alloc (Below.refl _ _) _))

/-- The same in a region that draws its order and only reads. -/
theorem agg_quiet {C : World → Prop} {Qa : Act → Prop} (ty : TypeId) (x : Operand) (hgd : o.guard = none) {D : Tmp} (hd' : o.dst = some D) (ho : o.op = .load ty x) (ad : Addr) (hx : a.eval x = .pointer (some ad)) (cs : List Value) {d : TypeDesc}
    (hu : P.underlying ty = some d) (hd : (match d with | .struct _ | .array _ _ => true | _ => false) = true) {z : Option Value} {bytes : Nat} (hinfo : (P.info? ty).map (fun i => (i.zero, i.size, i.bytes)) = some (z, cs.length, bytes))
    (hC : ∀ W', C W' → ∃ n, W' = W.drewN n) (hc : ∀ j v, cs[j]? = some v → W.cell? (ad.add j) = some v)
    (h : wpQuiet P ops C Qa rest { tmps := a.tmps.setIfInBounds D (.agg cs.toArray), defers := a.defers }) : wpQuiet P ops C Qa (o :: rest) a := by
  have hw : Region.wanted o (yielded ops a.tmps) = true := by simp [Region.wanted, hgd]
  unfold wpQuiet
  rw [if_pos hw]
  refine ⟨.agg cs.toArray, fun W' hW' => ?_, ?_⟩
  · obtain ⟨n, rfl⟩ := hC W' hW'
    have hc' : ∀ j v, cs[j]? = some v → (W.drewN n).cell? (ad.add j) = some v := hc
    have hl := run_loadCells_list (P := P) (W.drewN n) ad cs hc'
    have hagg : (isAgg ty).run P (W.drewN n) = .ok true (W.drewN n) := by
      unfold isAgg
      rw [Sem.run_bind, run_underlying hu (W.drewN n)]
      cases d <;> simp_all
    have hr : (loadVar ty ad).run P (W.drewN n) = .ok (.agg cs.toArray) (W.drewN n) := by
      cases hq : P.info? ty with
      | none => simp [hq] at hinfo
      | some i =>
        have hs : i.size = cs.length := by
          simp only [hq, Option.map_some, Option.some.injEq, Prod.mk.injEq] at hinfo
          exact hinfo.2.1
        simp [loadVar, Sem.run_bind, hagg, sizeOf, typeInfo, hq, hs, hl]
    have he : (execOp a.eval o).run P (W.drewN n) = .ok (.value (.agg cs.toArray)) (W.drewN n) := by
      unfold execOp
      simp only [ho, hx, Instr.loadAt, Instr.sureAddr, Sem.run_bind, Sem.run_pure, Result.andThen_ok, hr]
    unfold Oper.quietAt
    rw [he]
    exact ⟨rfl, rfl⟩
  · rw [hd']
    exact h
theorem agg_quiet_g {C : World → Prop} {Qa : Act → Prop} (ty : TypeId) (x : Operand) (hw : Region.wanted o (yielded ops a.tmps) = true) {D : Tmp} (hd' : o.dst = some D) (ho : o.op = .load ty x) (ad : Addr) (hx : a.eval x = .pointer (some ad)) (cs : List Value) {d : TypeDesc}
    (hu : P.underlying ty = some d) (hd : (match d with | .struct _ | .array _ _ => true | _ => false) = true) {z : Option Value} {bytes : Nat} (hinfo : (P.info? ty).map (fun i => (i.zero, i.size, i.bytes)) = some (z, cs.length, bytes))
    (hC : ∀ W', C W' → ∃ n, W' = W.drewN n) (hc : ∀ j v, cs[j]? = some v → W.cell? (ad.add j) = some v)
    (h : wpQuiet P ops C Qa rest { tmps := a.tmps.setIfInBounds D (.agg cs.toArray), defers := a.defers }) : wpQuiet P ops C Qa (o :: rest) a := by
  unfold wpQuiet
  rw [if_pos hw]
  refine ⟨.agg cs.toArray, fun W' hW' => ?_, ?_⟩
  · obtain ⟨n, rfl⟩ := hC W' hW'
    have hc' : ∀ j v, cs[j]? = some v → (W.drewN n).cell? (ad.add j) = some v := hc
    have hl := run_loadCells_list (P := P) (W.drewN n) ad cs hc'
    have hagg : (isAgg ty).run P (W.drewN n) = .ok true (W.drewN n) := by
      unfold isAgg
      rw [Sem.run_bind, run_underlying hu (W.drewN n)]
      cases d <;> simp_all
    have hr : (loadVar ty ad).run P (W.drewN n) = .ok (.agg cs.toArray) (W.drewN n) := by
      cases hq : P.info? ty with
      | none => simp [hq] at hinfo
      | some i =>
        have hs : i.size = cs.length := by
          simp only [hq, Option.map_some, Option.some.injEq, Prod.mk.injEq] at hinfo
          exact hinfo.2.1
        simp [loadVar, Sem.run_bind, hagg, sizeOf, typeInfo, hq, hs, hl]
    have he : (execOp a.eval o).run P (W.drewN n) = .ok (.value (.agg cs.toArray)) (W.drewN n) := by
      unfold execOp
      simp only [ho, hx, Instr.loadAt, Instr.sureAddr, Sem.run_bind, Sem.run_pure, Result.andThen_ok, hr]
    unfold Oper.quietAt
    rw [he]
    exact ⟨rfl, rfl⟩
  · rw [hd']
    exact h
theorem isEmpty_beq (l : List UInt8) : l.isEmpty = (l == []) := by cases l <;> rfl
theorem drawn_one {w : World} : ∀ W', (∃ n, W' = w.drewN n) → ∃ n, W' = w.drewN n := fun _ h => h
theorem drawn_two {w : World} {m : Nat} : ∀ W', (∃ n, W' = (w.drewN m).drewN n) → ∃ n, W' = w.drewN n := by
  rintro W' ⟨n, rfl⟩
  exact ⟨m + n, World.drewN_drewN ..⟩
end Go.Proofs.YtkmnhlhpmfkloaaW.PrintMore

/- The buffer of fields: what it holds, and what each of its calls does, walked by hand. -/
namespace Go.Proofs.Ytkmnhlhpmfkloaa.Fld
open Go.RowKit Go.Proofs.YtkmnhlhpmfkloaaW.PrintWords Go.Proofs.YtkmnhlhpmfkloaaW.PrintLast Go.Proofs.YtkmnhlhpmfkloaaW.PrintMore Go.Proofs.Ytkmnhlhpmfkloaa.Mem
set_option linter.unusedVariables false
set_option linter.unusedSimpArgs false

/-- The lowest n bytes of v, the lowest first. -/
def le : Nat → Int → List Int
  | 0, _ => []
  | n + 1, v => v % 256 :: le n (v / 256)
theorem le_length : ∀ (n : Nat) (v : Int), (le n v).length = n
  | 0, _ => rfl
  | n + 1, v => by rw [le, List.length_cons, le_length n]

/-- A buffer: its bytes, its limit, its first error. -/
structure BS where
  l : List Int
  lim : Int
  err : Int
def BS.num (b : BS) (v : Int) (n : Nat) : BS :=
  if b.err ≠ 0 then b else if v < 0 ∨ (256 : Int) ^ n ≤ v then { b with err := 21 } else if b.lim - b.l.length < n then { b with err := 22 } else { b with l := b.l ++ le n v }
def BS.text (b : BS) (s : ByteArray) : BS :=
  if b.err ≠ 0 then b else if b.lim - b.l.length < s.size then { b with err := 22 } else { b with l := b.l ++ bytesOf s }

def Buf (w : World) (S : Nat → Prop) (g : Nat) (b : BS) : Prop :=
  ∃ v, w.heap[g]? = some (.cells #[v, .int .i64 b.lim, .int .i64 b.err] 123 (0, 0)) ∧ w.ownsRow 0 5 1 v b.l.length (b.l.map (Value.int .u8)) ∧
    S g ∧ (∀ k, v.ownBlock = some k → S k) ∧ (b.l.length : Int) ≤ b.lim ∧ b.lim ≤ 1048576

section
variable {w w1 : World} {S S1 : Nat → Prop} {g : Nat} {b : BS}
theorem Buf.frm (h : Buf w S g b) (hF : Frm S1 w w1) (hn : ∀ k, S k → k < w.heap.size → ¬ S1 k) : Buf w1 S g b := by
  obtain ⟨v, hg, hr, sg, sr, h1, h2⟩ := h
  exact ⟨v, hF.blk hg (hn g sg (blk_lt hg)), hF.row hr (fun k hk => hn k (sr k hk) (own_lt hr k hk)), sg, sr, h1, h2⟩
theorem Buf.drew (h : Buf w S g b) : Buf w.drew S g b := h
theorem Buf.drewN (h : Buf w S g b) (n : Nat) : Buf (w.drewN n) S g b := h
end

theorem err_calls (w : World) (S : Nat → Prop) (g : Nat) (b : BS) (h : Buf w S g b) : Calls Try.prog 76 #[.pointer (some ⟨g, 0, none⟩)] w fun e w' => e = .returned (.int .i64 b.err) ∧ Drawn0 w w' := by
  obtain ⟨v, hg, hr, sg, sr, hl, hm⟩ := h
  have h2 : w.cell? ⟨g, 2, none⟩ = some (.int .i64 b.err) := blk_cell hg 2
  go_enter Try.func76, Try.ntmps76
  go_wp2
  go_ret
  exact ⟨rfl, Drawn0.refl _⟩

theorem new_calls (w : World) (S : Nat → Prop) (lim : Int) (h0 : 0 ≤ lim) (h1 : lim ≤ 1048576) (hS : ∀ k, w.heap.size ≤ k → S k) : Calls Try.prog 48 #[.int .i64 lim] w fun e w' => ∃ g, e = .returned (.pointer (some ⟨g, 0, none⟩)) ∧ Buf w' S g ⟨[], lim, 0⟩ ∧ Below w.heap.size w w' := by
  have hb : decide (lim < 0) = false := decide_eq_false (by omega)
  go_enter Try.func48, Try.ntmps48
  go_wp2
  go_ret
  exact ⟨_, rfl, ⟨_, heap_alloc_new _ _, by simpa using own_nil _ _ _ _, hS _ (Nat.le_refl _), fun k hk => by simp [Value.ownBlock] at hk, by simpa using h0, h1⟩, below_alloc (Below.refl _ _) _⟩

theorem nine {v : Value} {w : World} {g n : Nat} {cells : Array Value} {l : List Value} (hg : w.heap[g]? = some (.cells cells 123 (0, 0))) (hv : w.ownsRow 0 5 1 v n l) : some g ≠ v.ownBlock := by
  rcases hv.2 with ⟨rfl, _⟩ | ⟨b, cap, cur, rfl, _, hb, _⟩
  · simp [Value.ownBlock]
  · simp only [Value.ownBlock, ne_eq, Option.some.injEq]
    exact blk_ne hg hb (by decide)
theorem Try.infoB : (Try.prog.info? 5).map (fun i => (i.zero, i.size, i.bytes)) = some (some (.int .u8 0), 1, 1) := by kernel_rfl

/-- What one append of bytes to the buffer's row, and the store of the new row, leave. -/
theorem app_made {w w1 : World} {S : Nat → Prop} {g gg cap n : Nat} {v : Value} {b : BS} {ys : List Int} (hg : w.heap[g]? = some (.cells #[v, .int .i64 b.lim, .int .i64 b.err] 123 (0, 0)))
    (hv : w.ownsRow 0 5 1 v b.l.length (b.l.map (Value.int .u8))) (sg : S g) (sr : ∀ k, v.ownBlock = some k → S k) (hS : ∀ k, w.heap.size ≤ k → S k) (hl : ((b.l ++ ys).length : Int) ≤ b.lim) (hm : b.lim ≤ 1048576)
    {w0 : World} (hw0 : Frm S w w0) (hw0g : w0.heap[g]? = w.heap[g]?)
    (hn : n = (b.l ++ ys).length) (hown1 : w1.ownsRow 0 5 1 (.slice (some ⟨gg, 0, none⟩) n cap) n ((b.l ++ ys).map (Value.int .u8)))
    (hgrow : w0.grownBy w1 v.ownBlock) (hat : v.ownBlock = some gg ∨ w.heap.size ≤ gg) :
    Buf (w1.setCell ⟨g, 0, none⟩ (.slice (some ⟨gg, 0, none⟩) n cap)) S g { b with l := b.l ++ ys } ∧ Frm S w (w1.setCell ⟨g, 0, none⟩ (.slice (some ⟨gg, 0, none⟩) n cap)) := by
  subst hn
  have ag := nine hg hv
  have lg := blk_lt hg
  have hb1 : w1.heap[g]? = some (.cells #[v, .int .i64 b.lim, .int .i64 b.err] 123 (0, 0)) := (hgrow.block g (Nat.lt_of_lt_of_le lg hw0.size) ag).trans (hw0g.trans hg)
  have hF1 : Frm S w w1 := hw0.trans (Frm.of_grown (S := S) hgrow (fun k hk => sr k hk)) (fun k hk => .inl hk)
  have hne : g ≠ gg := by
    rcases hat with h | h
    · intro e; exact ag (by rw [h, e])
    · omega
  refine ⟨⟨.slice (some ⟨gg, 0, none⟩) (b.l ++ ys).length cap, by simpa using blk_set hb1 0 (.slice (some ⟨gg, 0, none⟩) (b.l ++ ys).length cap), ?_, sg, ?_, hl, hm⟩, hF1.setCell (.inl sg) _⟩
  · exact ((Frm.refl (fun k => k = g) w1).setCell (p := ⟨g, 0, none⟩) (.inl rfl) (.slice (some ⟨gg, 0, none⟩) (b.l ++ ys).length cap)).row hown1 (by rintro k e rfl; exact hne (Option.some.inj e).symm)
  · intro k e
    have e2 : gg = k := Option.some.inj e
    subst e2
    rcases hat with h | h
    · exact sr _ h
    · exact hS _ h

theorem le_succ_snoc (n : Nat) (v : Int) : le (n + 1) v = v % 256 :: le n (v / 256) := rfl
theorem BS.num_err {b : BS} (h : b.err ≠ 0) (v : Int) (n : Nat) : b.num v n = b := by unfold BS.num; rw [if_pos h]
theorem BS.text_err {b : BS} (h : b.err ≠ 0) (s : ByteArray) : b.text s = b := by unfold BS.text; rw [if_pos h]
theorem err_set {w : World} {S : Nat → Prop} {g : Nat} {b : BS} (h : Buf w S g b) (c : Int) : Buf (w.setCell ⟨g, 2, none⟩ (.int .i64 c)) S g { b with err := c } ∧ Frm S w (w.setCell ⟨g, 2, none⟩ (.int .i64 c)) := by
  obtain ⟨v, hg, hr, sg, sr, hl, hm⟩ := h
  have ag := nine hg hr
  exact ⟨⟨v, by simpa using blk_set hg 2 (.int .i64 c), ((Frm.refl (fun k => k = g) w).setCell (p := ⟨g, 2, none⟩) (.inl rfl) _).row hr (by rintro k e rfl; exact ag e.symm), sg, sr, hl, hm⟩, (Frm.refl S w).setCell (.inl sg) _⟩

theorem far_cell {wr w1 : World} {g j : Nat} {u : Value} {o : Obj} {row : Option Nat} (hgrow : (wr.alloc o).grownBy w1 row) (ag : some g ≠ row) (lg : g < wr.heap.size) (d : wr.cell? ⟨g, j, none⟩ = some u) : w1.cell? ⟨g, j, none⟩ = some u :=
  (hgrow.cell_far ⟨g, j, none⟩ (by simp; omega) ag).trans (by rw [World.cell?_alloc_lt _ _ _ lg]; exact d)
theorem far_frz {wr w1 : World} {g j : Nat} {o : Obj} {row : Option Nat} (hgrow : (wr.alloc o).grownBy w1 row) (ag : some g ≠ row) (lg : g < wr.heap.size) (d : wr.frozen? ⟨g, j, none⟩ = false) : w1.frozen? ⟨g, j, none⟩ = false :=
  (hgrow.frozen_far ⟨g, j, none⟩ (by simp; omega) ag).trans (by rw [World.frozen?_alloc_old _ _ _ (Nat.ne_of_lt lg)]; exact d)

set_option maxHeartbeats 4000000 in
set_option maxRecDepth 100000 in
theorem number2 (w : World) (S : Nat → Prop) (g : Nat) (b : BS) (v : Int) (h : Buf w S g b) (hS : ∀ k, w.heap.size ≤ k → S k) : Calls Try.prog 75 #[.pointer (some ⟨g, 0, none⟩), .int .i64 v, .int .i64 2] w fun e w' =>
    e = .returned (.tuple #[]) ∧ Buf w' S g (b.num v 2) ∧ Frm S w w' := by
  have HH := Aside0.mk h
  obtain ⟨v0, hg, hr, sg, sr, hl, hm⟩ := h
  have c2 : w.cell? ⟨g, 2, none⟩ = some (.int .i64 b.err) := blk_cell hg 2
  have c1 : w.cell? ⟨g, 1, none⟩ = some (.int .i64 b.lim) := blk_cell hg 1
  have c0 : w.cell? ⟨g, 0, none⟩ = some v0 := blk_cell hg 0
  have f2 : w.frozen? ⟨g, 2, none⟩ = false := blk_frozen hg 2
  obtain ⟨A, cp, rfl⟩ : ∃ A cp, v0 = .slice A b.l.length cp := by
    rcases hr.2 with ⟨rfl, h0⟩ | ⟨b', cap, cur, rfl, _⟩
    · exact ⟨_, _, by rw [h0]⟩
    · exact ⟨_, _, rfl⟩
  by_cases he : b.err = 0
  · have heb : (b.err != 0) = false := by simpa using he
    have hlim0 : (0 : Int) ≤ b.lim - b.l.length := by omega
    have hlim1 : b.lim - (b.l.length : Int) ≤ 1048576 := by omega
    by_cases hneg : v < 0
    · have hnegb : decide (v < 0) = true := decide_eq_true hneg
      have hfin : b.num v 2 = { b with err := 21 } := by unfold BS.num; rw [if_neg (by omega), if_pos (.inl hneg)]
      have hres := err_set HH.out 21
      rw [hfin]
      have HR := Aside0.mk hres
      clear hres hfin hl hm hr hg sr he
      go_enter Try.func75, Try.ntmps75
      go_wp2
      refine bodyPost_ret (results_none rfl _ _ _) rfl ?_
      exact ⟨rfl, HR.out⟩
    · have hnegb : decide (v < 0) = false := decide_eq_false hneg
      by_cases hbig : 65536 ≤ v
      · have hbigb : decide (65536 ≤ v) = true := decide_eq_true hbig
        have hfin : b.num v 2 = { b with err := 21 } := by unfold BS.num; rw [if_neg (by omega), if_pos (.inr (by simpa using hbig))]
        have hres := err_set HH.out 21
        rw [hfin]
        have HR := Aside0.mk hres
        clear hres hfin hl hm hr hg sr he
        go_enter Try.func75, Try.ntmps75
        go_wp2
        refine bodyPost_ret (results_none rfl _ _ _) rfl ?_
        exact ⟨rfl, HR.out⟩
      · have hbigb : decide (65536 ≤ v) = false := decide_eq_false hbig
        by_cases hroom : b.lim - (b.l.length : Int) < 2
        · have hroomb : decide (b.lim - (b.l.length : Int) < 2) = true := decide_eq_true hroom
          have hfin : b.num v 2 = { b with err := 22 } := by unfold BS.num; rw [if_neg (by omega), if_neg (by simp; omega), if_pos (by exact hroom)]
          have hres := err_set HH.out 22
          rw [hfin]
          have HR := Aside0.mk hres
          clear hres hfin hl hm hr hg sr he
          go_enter Try.func75, Try.ntmps75
          go_wp2
          go_quiet (fail)
          go_wp2
          refine bodyPost_ret (results_none rfl _ _ _) rfl ?_
          exact ⟨rfl, HR.out.1, HR.out.2.drewN nq⟩
        · have hroomb : decide (b.lim - (b.l.length : Int) < 2) = false := decide_eq_false hroom
          have hfin : b.num v 2 = { b with l := b.l ++ le 2 v } := by unfold BS.num; rw [if_neg (by omega), if_neg (by simp; omega), if_neg (by exact hroom)]
          rw [hfin]
          clear hfin hl hm hr hg sr he
          obtain ⟨i0, hi0, hz0, hz1, hz2⟩ := info_parts Try.infoB
          go_enter Try.func75, Try.ntmps75
          go_wp2
          go_quiet (fail)
          go_wp2
          go_loopg [1, 43] 8 (fun gk v1 v43 wr => ∃ (x : Int) (j i : Nat) (lk : List Int), v1 = .int .i64 x ∧ v43 = .int .i64 i ∧ i + j = 2 ∧ j + 1 ≤ gk ∧ 0 ≤ x ∧ x ≤ 4294967295 ∧ Aside0 (Buf wr S g { b with l := lk }) ∧ Aside0 (Frm S w wr) ∧ Aside0 (lk ++ le j x = b.l ++ le 2 v))
          case atStart => exact ⟨v, 2, 0, b.l, rfl, rfl, rfl, by omega, by omega, by omega, ⟨HH.out.drewN _⟩, ⟨(Frm.refl S w).drewN _⟩, ⟨rfl⟩⟩
          case round =>
            obtain ⟨x, j, i, lk, rfl, rfl, hij, hjk, hx0, hx1, HB, HF, HE⟩ := hrel
            by_cases hj : j = 0
            · subst hj
              have hib : decide ((i : Int) < 2) = false := decide_eq_false (by omega)
              go_wp2
              go_end0
              have hE : b.l ++ le 2 v = lk := HE.out.symm.trans (by simp [le])
              exact ⟨rfl, by rw [hE]; exact HB.out, HF.out⟩
            · have hib : decide ((i : Int) < 2) = true := decide_eq_true (by omega)
              obtain ⟨j, rfl⟩ : ∃ q, j = q + 1 := ⟨j - 1, by omega⟩
              obtain ⟨vk, hg, hr, sg', sr, hl, hm⟩ := HB.out
              replace hg : wr.heap[g]? = some (.cells #[vk, .int .i64 b.lim, .int .i64 b.err] 123 (0, 0)) := hg
              replace hr : wr.ownsRow 0 5 1 vk lk.length (lk.map (Value.int .u8)) := hr
              replace hl : (lk.length : Int) ≤ b.lim := hl
              replace hm : b.lim ≤ 1048576 := hm
              have d0 : wr.cell? ⟨g, 0, none⟩ = some vk := blk_cell hg 0
              have e0 : wr.frozen? ⟨g, 0, none⟩ = false := blk_frozen hg 0
              have lg := blk_lt hg
              have ag := nine hg hr
              have hlen : (lk ++ le (j + 1) x).length = b.l.length + 2 := by rw [HE.out]; simp [le_length]
              have hlk : lk.length + (j + 1) = b.l.length + 2 := by simpa [le_length] using hlen
              clear hlen
              have hroom' : (lk.length : Int) + 1 ≤ b.lim := by omega
              go_wp2_with (at_builtin; refine wpList_append_lies _ (by rfl) _ _ _ (by rfl) 0 5 i0 _ 1 1 Try.underlying25 hi0 hz0 hz1 hz2 rfl (by omega) vk lk.length (lk.map (Value.int .u8)) ?a1 (hr.alloc _) ⟨wr.heap.size, 0, none⟩ 1 1 [.int .u8 (x % 256)] ?a2 ?a3 ?a4 ?a5 ?a6 ?a7 ?a8 ?a9 (wr.heap.size+1) ?a10 ?a11; (case a1 => rfl); (case a2 => rfl); (case a3 => rfl); (case a4 => exact World.news_of_block (cs := #[.int .u8 (x % 256)]) (t := 5) (fr := (0, 0)) (heap_alloc_new wr _)); (case a5 => simp [Value.oneCell']); (case a6 => omega); (case a7 => simp only [maxLen]; omega); (case a8 => omega); (case a9 => simp); (case a10 => simp); intro gg cap w1 hown1 hgrow hat hlt; have q1 := far_cell hgrow ag lg d0; have q2 := far_frz hgrow ag lg e0)
              go_roundg (j + 1)
              case measure => omega
              case rel =>
                have hA := app_made (n := lk.length + 1) (b := { b with l := lk }) (ys := [x % 256]) hg hr sg' sr (fun k hk => hS k (Nat.le_trans HF.out.size hk)) (by simpa using hroom') hm ((Frm.refl S wr).alloc _) (Below.heap_alloc wr _ g lg) (by simp) (by simpa using hown1) hgrow (hat.imp id (fun h => by omega))
                exact ⟨x / 256, j, i + 1, lk ++ [x % 256], rfl, by go_num, by omega, by omega, by omega, by omega, ⟨by simpa using hA.1⟩, ⟨HF.out.trans (by simpa using hA.2) (fun k hk => .inl hk)⟩, ⟨by rw [← HE.out, le_succ_snoc, List.append_assoc]; rfl⟩⟩
  · have heb : (b.err != 0) = true := by simpa using he
    have hfin := BS.num_err he v 2
    rw [hfin]
    clear hfin hl hm hr hg sr
    go_enter Try.func75, Try.ntmps75
    go_wp2
    refine bodyPost_ret (results_none rfl _ _ _) rfl ?_
    exact ⟨rfl, HH.out, Frm.refl _ _⟩

set_option maxHeartbeats 4000000 in
set_option maxRecDepth 100000 in
theorem number4 (w : World) (S : Nat → Prop) (g : Nat) (b : BS) (v : Int) (h : Buf w S g b) (hS : ∀ k, w.heap.size ≤ k → S k) : Calls Try.prog 75 #[.pointer (some ⟨g, 0, none⟩), .int .i64 v, .int .i64 4] w fun e w' =>
    e = .returned (.tuple #[]) ∧ Buf w' S g (b.num v 4) ∧ Frm S w w' := by
  have HH := Aside0.mk h
  obtain ⟨v0, hg, hr, sg, sr, hl, hm⟩ := h
  have c2 : w.cell? ⟨g, 2, none⟩ = some (.int .i64 b.err) := blk_cell hg 2
  have c1 : w.cell? ⟨g, 1, none⟩ = some (.int .i64 b.lim) := blk_cell hg 1
  have c0 : w.cell? ⟨g, 0, none⟩ = some v0 := blk_cell hg 0
  have f2 : w.frozen? ⟨g, 2, none⟩ = false := blk_frozen hg 2
  obtain ⟨A, cp, rfl⟩ : ∃ A cp, v0 = .slice A b.l.length cp := by
    rcases hr.2 with ⟨rfl, h0⟩ | ⟨b', cap, cur, rfl, _⟩
    · exact ⟨_, _, by rw [h0]⟩
    · exact ⟨_, _, rfl⟩
  by_cases he : b.err = 0
  · have heb : (b.err != 0) = false := by simpa using he
    have hlim0 : (0 : Int) ≤ b.lim - b.l.length := by omega
    have hlim1 : b.lim - (b.l.length : Int) ≤ 1048576 := by omega
    by_cases hneg : v < 0
    · have hnegb : decide (v < 0) = true := decide_eq_true hneg
      have hfin : b.num v 4 = { b with err := 21 } := by unfold BS.num; rw [if_neg (by omega), if_pos (.inl hneg)]
      have hres := err_set HH.out 21
      rw [hfin]
      have HR := Aside0.mk hres
      clear hres hfin hl hm hr hg sr he
      go_enter Try.func75, Try.ntmps75
      go_wp2
      refine bodyPost_ret (results_none rfl _ _ _) rfl ?_
      exact ⟨rfl, HR.out⟩
    · have hnegb : decide (v < 0) = false := decide_eq_false hneg
      by_cases hbig : 4294967296 ≤ v
      · have hbigb : decide (4294967296 ≤ v) = true := decide_eq_true hbig
        have hfin : b.num v 4 = { b with err := 21 } := by unfold BS.num; rw [if_neg (by omega), if_pos (.inr (by simpa using hbig))]
        have hres := err_set HH.out 21
        rw [hfin]
        have HR := Aside0.mk hres
        clear hres hfin hl hm hr hg sr he
        go_enter Try.func75, Try.ntmps75
        go_wp2
        refine bodyPost_ret (results_none rfl _ _ _) rfl ?_
        exact ⟨rfl, HR.out⟩
      · have hbigb : decide (4294967296 ≤ v) = false := decide_eq_false hbig
        by_cases hroom : b.lim - (b.l.length : Int) < 4
        · have hroomb : decide (b.lim - (b.l.length : Int) < 4) = true := decide_eq_true hroom
          have hfin : b.num v 4 = { b with err := 22 } := by unfold BS.num; rw [if_neg (by omega), if_neg (by simp; omega), if_pos (by exact hroom)]
          have hres := err_set HH.out 22
          rw [hfin]
          have HR := Aside0.mk hres
          clear hres hfin hl hm hr hg sr he
          go_enter Try.func75, Try.ntmps75
          go_wp2
          go_quiet (fail)
          go_wp2
          refine bodyPost_ret (results_none rfl _ _ _) rfl ?_
          exact ⟨rfl, HR.out.1, HR.out.2.drewN nq⟩
        · have hroomb : decide (b.lim - (b.l.length : Int) < 4) = false := decide_eq_false hroom
          have hfin : b.num v 4 = { b with l := b.l ++ le 4 v } := by unfold BS.num; rw [if_neg (by omega), if_neg (by simp; omega), if_neg (by exact hroom)]
          rw [hfin]
          clear hfin hl hm hr hg sr he
          obtain ⟨i0, hi0, hz0, hz1, hz2⟩ := info_parts Try.infoB
          go_enter Try.func75, Try.ntmps75
          go_wp2
          go_quiet (fail)
          go_wp2
          go_loopg [1, 43] 8 (fun gk v1 v43 wr => ∃ (x : Int) (j i : Nat) (lk : List Int), v1 = .int .i64 x ∧ v43 = .int .i64 i ∧ i + j = 4 ∧ j + 1 ≤ gk ∧ 0 ≤ x ∧ x ≤ 4294967295 ∧ Aside0 (Buf wr S g { b with l := lk }) ∧ Aside0 (Frm S w wr) ∧ Aside0 (lk ++ le j x = b.l ++ le 4 v))
          case atStart => exact ⟨v, 4, 0, b.l, rfl, rfl, rfl, by omega, by omega, by omega, ⟨HH.out.drewN _⟩, ⟨(Frm.refl S w).drewN _⟩, ⟨rfl⟩⟩
          case round =>
            obtain ⟨x, j, i, lk, rfl, rfl, hij, hjk, hx0, hx1, HB, HF, HE⟩ := hrel
            by_cases hj : j = 0
            · subst hj
              have hib : decide ((i : Int) < 4) = false := decide_eq_false (by omega)
              go_wp2
              go_end0
              have hE : b.l ++ le 4 v = lk := HE.out.symm.trans (by simp [le])
              exact ⟨rfl, by rw [hE]; exact HB.out, HF.out⟩
            · have hib : decide ((i : Int) < 4) = true := decide_eq_true (by omega)
              obtain ⟨j, rfl⟩ : ∃ q, j = q + 1 := ⟨j - 1, by omega⟩
              obtain ⟨vk, hg, hr, sg', sr, hl, hm⟩ := HB.out
              replace hg : wr.heap[g]? = some (.cells #[vk, .int .i64 b.lim, .int .i64 b.err] 123 (0, 0)) := hg
              replace hr : wr.ownsRow 0 5 1 vk lk.length (lk.map (Value.int .u8)) := hr
              replace hl : (lk.length : Int) ≤ b.lim := hl
              replace hm : b.lim ≤ 1048576 := hm
              have d0 : wr.cell? ⟨g, 0, none⟩ = some vk := blk_cell hg 0
              have e0 : wr.frozen? ⟨g, 0, none⟩ = false := blk_frozen hg 0
              have lg := blk_lt hg
              have ag := nine hg hr
              have hlen : (lk ++ le (j + 1) x).length = b.l.length + 4 := by rw [HE.out]; simp [le_length]
              have hlk : lk.length + (j + 1) = b.l.length + 4 := by simpa [le_length] using hlen
              clear hlen
              have hroom' : (lk.length : Int) + 1 ≤ b.lim := by omega
              go_wp2_with (at_builtin; refine wpList_append_lies _ (by rfl) _ _ _ (by rfl) 0 5 i0 _ 1 1 Try.underlying25 hi0 hz0 hz1 hz2 rfl (by omega) vk lk.length (lk.map (Value.int .u8)) ?a1 (hr.alloc _) ⟨wr.heap.size, 0, none⟩ 1 1 [.int .u8 (x % 256)] ?a2 ?a3 ?a4 ?a5 ?a6 ?a7 ?a8 ?a9 (wr.heap.size+1) ?a10 ?a11; (case a1 => rfl); (case a2 => rfl); (case a3 => rfl); (case a4 => exact World.news_of_block (cs := #[.int .u8 (x % 256)]) (t := 5) (fr := (0, 0)) (heap_alloc_new wr _)); (case a5 => simp [Value.oneCell']); (case a6 => omega); (case a7 => simp only [maxLen]; omega); (case a8 => omega); (case a9 => simp); (case a10 => simp); intro gg cap w1 hown1 hgrow hat hlt; have q1 := far_cell hgrow ag lg d0; have q2 := far_frz hgrow ag lg e0)
              go_roundg (j + 1)
              case measure => omega
              case rel =>
                have hA := app_made (n := lk.length + 1) (b := { b with l := lk }) (ys := [x % 256]) hg hr sg' sr (fun k hk => hS k (Nat.le_trans HF.out.size hk)) (by simpa using hroom') hm ((Frm.refl S wr).alloc _) (Below.heap_alloc wr _ g lg) (by simp) (by simpa using hown1) hgrow (hat.imp id (fun h => by omega))
                exact ⟨x / 256, j, i + 1, lk ++ [x % 256], rfl, by go_num, by omega, by omega, by omega, by omega, ⟨by simpa using hA.1⟩, ⟨HF.out.trans (by simpa using hA.2) (fun k hk => .inl hk)⟩, ⟨by rw [← HE.out, le_succ_snoc, List.append_assoc]; rfl⟩⟩
  · have heb : (b.err != 0) = true := by simpa using he
    have hfin := BS.num_err he v 4
    rw [hfin]
    clear hfin hl hm hr hg sr
    go_enter Try.func75, Try.ntmps75
    go_wp2
    refine bodyPost_ret (results_none rfl _ _ _) rfl ?_
    exact ⟨rfl, HH.out, Frm.refl _ _⟩

theorem u16_calls (w : World) (S : Nat → Prop) (g : Nat) (b : BS) (v : Int) (h : Buf w S g b) (hS : ∀ k, w.heap.size ≤ k → S k) : Calls Try.prog 61 #[.pointer (some ⟨g, 0, none⟩), .int .i64 v] w fun e w' =>
    e = .returned (.tuple #[]) ∧ Buf w' S g (b.num v 2) ∧ Frm S w w' := by
  have H := Aside0.mk (number2 w S g b v h hS)
  clear h
  go_enter Try.func61, Try.ntmps61
  go_wp2_with (go_at_call 75; refine H.out.mono ?_; rintro e w1 ⟨rfl, hb⟩)
  go_end0
  exact ⟨rfl, hb⟩
theorem u32_calls (w : World) (S : Nat → Prop) (g : Nat) (b : BS) (v : Int) (h : Buf w S g b) (hS : ∀ k, w.heap.size ≤ k → S k) : Calls Try.prog 49 #[.pointer (some ⟨g, 0, none⟩), .int .i64 v] w fun e w' =>
    e = .returned (.tuple #[]) ∧ Buf w' S g (b.num v 4) ∧ Frm S w w' := by
  have H := Aside0.mk (number4 w S g b v h hS)
  clear h
  go_enter Try.func49, Try.ntmps49
  go_wp2_with (go_at_call 75; refine H.out.mono ?_; rintro e w1 ⟨rfl, hb⟩)
  go_end0
  exact ⟨rfl, hb⟩

theorem strCells_bytes (s : ByteArray) : Lib.strCells s = (bytesOf s).map (Value.int .u8) := by simp [bytesOf, Lib.strCells]
theorem bytesOf_length (s : ByteArray) : (bytesOf s).length = s.size := by
  rw [bytesOf, List.length_map, Array.length_toList]
  rfl
/-- Appending a string's bytes, and where the new row lies. -/
theorem run_append_string_at {P : Program} (w : World) (t u ty e : TypeId) (i : TypeInfo) (ht : P.underlying t = some (.slice e)) (hu : P.underlying u = some .string) (hi : P.info? e = some i) (hz : i.zero = some (.int .u8 0))
    (hsize : i.size = 1) (hby : i.bytes = 1) (v : Value) (n : Nat) (xs : List Value) (hown : w.ownsRow 0 e 1 v n xs) (s : ByteArray)
    (hbytes : n + s.size ≤ 140737488355328) :
    ∃ v' w', (Builtin.append_ #[t, u] ty #[v, .string s]).run P w = .ok v' w' ∧ w'.ownsRow 0 e 1 v' (n + s.size) (xs ++ Lib.strCells s) ∧ w.grownBy w' v.ownBlock ∧ (∀ k, v'.ownBlock = some k → v.ownBlock = some k ∨ w.heap.size ≤ k) := by
  have h63 : n + s.size ≤ maxLen := by simp only [maxLen]; omega
  obtain ⟨v', w', hr, h2, h3, _⟩ := Lib.run_append_own_string (P := P) w 0 t u ty e i ht hu hi hz hsize hby v n xs hown s h63 hbytes (Nat.zero_le _)
  refine ⟨v', w', hr, h2, h3, fun k hk => ?_⟩
  have hxl : xs.length = n := by simpa using hown.1
  rcases hown.2 with ⟨rfl, rfl⟩ | ⟨g, cap, cur, rfl, hbg, hg, hnc, hcm, hcs, htake⟩
  · have hx : xs = [] := List.eq_nil_of_length_eq_zero hxl
    subst hx
    obtain ⟨v2, w2, hr2, h22, _, _⟩ := Lib.run_append_own_string (P := P) w w.heap.size t u ty e i ht hu hi hz hsize hby (.slice none 0 0) 0 [] (own_nil _ _ _ _) s h63 hbytes (Nat.le_refl _)
    rw [hr] at hr2
    obtain ⟨rfl, rfl⟩ : v' = v2 ∧ w' = w2 := by simpa using hr2
    exact .inr (own_base h22 k hk)
  · by_cases hroom : n + s.size ≤ cap
    · have hr2 := Lib.run_append_room_string (P := P) w t u ty e i ht hu hi hsize g n cap cur hg s hroom (by rw [show cur.size = cap by simpa using hcs]; exact hroom)
      rw [hr] at hr2
      simp only [Result.ok.injEq] at hr2
      rw [hr2.1] at hk
      exact .inl hk
    · have holds : ∀ j u, xs[j]? = some u → w.cell? ((⟨g, 0, none⟩ : Addr).add j) = some u := hown.cells (g := g) rfl
      have hr2 := Lib.run_append_grow_string (P := P) w t u ty e i (.int .u8 0) ht hu hi hz ⟨g, 0, none⟩ n cap xs (by rw [hsize]; simpa using hxl) holds s (by omega) (by omega) (by rw [hby]; exact growslice_fits (by omega) (by omega))
      rw [hr] at hr2
      simp only [Result.ok.injEq] at hr2
      rw [hr2.1] at hk
      simp only [Value.ownBlock, Option.some.injEq] at hk
      exact .inr (by omega)
theorem wpList_append_string_at {P : Program} {w : World} {ops : Array Oper} {rest : List Oper} {o : Oper} {a : Act} {Q : Exit → Act → World → Prop} (hgd : o.guard = none) (sl x : Operand) (t u : TypeId)
    (ho : o.op = .call { callee := .builtin .append, args := #[sl, x], argTypes := #[t, u] })
    (e : TypeId) (i : TypeInfo) (ht : P.underlying t = some (.slice e)) (hu : P.underlying u = some .string) (hi : P.info? e = some i) (hz : i.zero = some (.int .u8 0))
    (hsize : i.size = 1) (hby : i.bytes = 1)
    (v : Value) (n : Nat) (xs : List Value) (hs : a.eval sl = v) (hown : w.ownsRow 0 e 1 v n xs) (s : ByteArray) (hx : a.eval x = .string s) (hbytes : n + s.size ≤ 140737488355328)
    (h : ∀ A c w', w'.ownsRow 0 e 1 (.slice A (n + s.size) c) (n + s.size) (xs ++ Lib.strCells s) → w.grownBy w' v.ownBlock → (∀ k, (Value.slice A (n + s.size) c).ownBlock = some k → v.ownBlock = some k ∨ w.heap.size ≤ k) → wpList P ops Q rest (a.put o.dst (.slice A (n + s.size) c)) w') : wpList P ops Q (o :: rest) a w := by
  refine wpList_plain hgd fun K hK => ?_
  obtain ⟨v', w', hr, h2, h3, h4⟩ := run_append_string_at (P := P) w t u o.type e i ht hu hi hz hsize hby v n xs hown s hbytes
  unfold Oper.wp execOp
  simp only [ho, resolve, invoke, builtin, Sem.run_bind, Sem.run_pure, Result.andThen_ok, List.map_toArray, List.map_cons, List.map_nil, hs, hx, hr]
  obtain ⟨A, c, rfl⟩ := own_slice h2
  exact hK _ _ (h A c w' h2 h3 h4)

theorem far_cellN {w w1 : World} {g j n : Nat} {u : Value} {row : Option Nat} (hgrow : (w.drewN n).grownBy w1 row) (ag : some g ≠ row) (lg : g < w.heap.size) (d : w.cell? ⟨g, j, none⟩ = some u) : w1.cell? ⟨g, j, none⟩ = some u :=
  (hgrow.cell_far ⟨g, j, none⟩ lg ag).trans d
theorem far_frzN {w w1 : World} {g j n : Nat} {row : Option Nat} (hgrow : (w.drewN n).grownBy w1 row) (ag : some g ≠ row) (lg : g < w.heap.size) (d : w.frozen? ⟨g, j, none⟩ = false) : w1.frozen? ⟨g, j, none⟩ = false :=
  (hgrow.frozen_far ⟨g, j, none⟩ lg ag).trans d
theorem app_made2 {w w1 : World} {S : Nat → Prop} {g n : Nat} {v v' : Value} {b : BS} {ys : List Int} (hg : w.heap[g]? = some (.cells #[v, .int .i64 b.lim, .int .i64 b.err] 123 (0, 0)))
    (hv : w.ownsRow 0 5 1 v b.l.length (b.l.map (Value.int .u8))) (sg : S g) (sr : ∀ k, v.ownBlock = some k → S k) (hS : ∀ k, w.heap.size ≤ k → S k) (hl : ((b.l ++ ys).length : Int) ≤ b.lim) (hm : b.lim ≤ 1048576)
    (hn : n = (b.l ++ ys).length) (hown1 : w1.ownsRow 0 5 1 v' n ((b.l ++ ys).map (Value.int .u8)))
    (hgrow : w.grownBy w1 v.ownBlock) (hat : ∀ k, v'.ownBlock = some k → v.ownBlock = some k ∨ w.heap.size ≤ k) :
    Buf (w1.setCell ⟨g, 0, none⟩ v') S g { b with l := b.l ++ ys } ∧ Frm S w (w1.setCell ⟨g, 0, none⟩ v') := by
  subst hn
  have ag := nine hg hv
  have lg := blk_lt hg
  have hb1 : w1.heap[g]? = some (.cells #[v, .int .i64 b.lim, .int .i64 b.err] 123 (0, 0)) := (hgrow.block g lg ag).trans hg
  have hF1 : Frm S w w1 := Frm.of_grown (S := S) hgrow (fun k hk => sr k hk)
  have hne : v'.ownBlock ≠ some g := by
    intro e
    rcases hat g e with h | h
    · exact ag h.symm
    · omega
  refine ⟨⟨v', by simpa using blk_set hb1 0 v', ?_, sg, ?_, hl, hm⟩, hF1.setCell (.inl sg) _⟩
  · exact ((Frm.refl (fun k => k = g) w1).setCell (p := ⟨g, 0, none⟩) (.inl rfl) v').row hown1 (by rintro k e rfl; exact hne e)
  · intro k e
    rcases hat k e with h | h
    · exact sr _ h
    · exact hS _ h

set_option maxHeartbeats 4000000 in
set_option maxRecDepth 100000 in
theorem text_calls (w : World) (S : Nat → Prop) (g : Nat) (b : BS) (s : ByteArray) (h : Buf w S g b) (hS : ∀ k, w.heap.size ≤ k → S k) : Calls Try.prog 62 #[.pointer (some ⟨g, 0, none⟩), .string s] w fun e w' =>
    e = .returned (.tuple #[]) ∧ Buf w' S g (b.text s) ∧ Frm S w w' := by
  have HH := Aside0.mk h
  obtain ⟨v0, hg, hr, sg, sr, hl, hm⟩ := h
  have c2 : w.cell? ⟨g, 2, none⟩ = some (.int .i64 b.err) := blk_cell hg 2
  have c1 : w.cell? ⟨g, 1, none⟩ = some (.int .i64 b.lim) := blk_cell hg 1
  have c0 : w.cell? ⟨g, 0, none⟩ = some v0 := blk_cell hg 0
  have f2 : w.frozen? ⟨g, 2, none⟩ = false := blk_frozen hg 2
  obtain ⟨A, cp, hv0⟩ : ∃ A cp, v0 = .slice A b.l.length cp := by
    rcases hr.2 with ⟨rfl, h0⟩ | ⟨b', cap, cur, rfl, _⟩
    · exact ⟨_, _, by rw [h0]⟩
    · exact ⟨_, _, rfl⟩
  by_cases he : b.err = 0
  · have heb : (b.err != 0) = false := by simpa using he
    have hlim0 : (0 : Int) ≤ b.lim - b.l.length := by omega
    have hlim1 : b.lim - (b.l.length : Int) ≤ 1048576 := by omega
    by_cases hroom : b.lim - (b.l.length : Int) < s.size
    · have hroomb : decide (b.lim - (b.l.length : Int) < s.size) = true := decide_eq_true hroom
      have hfin : b.text s = { b with err := 22 } := by unfold BS.text; rw [if_neg (by omega), if_pos hroom]
      have hres := err_set HH.out 22
      rw [hfin]
      have HR := Aside0.mk hres
      subst hv0
      clear hres hfin hl hm hr hg sr he
      go_enter Try.func62, Try.ntmps62
      go_wp2
      go_quiet (fail)
      go_wp2
      refine bodyPost_ret (results_none rfl _ _ _) rfl ?_
      exact ⟨rfl, HR.out.1, HR.out.2.drewN nq⟩
    · have hroomb : decide (b.lim - (b.l.length : Int) < s.size) = false := decide_eq_false hroom
      have hfin : b.text s = { b with l := b.l ++ bytesOf s } := by unfold BS.text; rw [if_neg (by omega), if_neg (by exact hroom)]
      rw [hfin]
      obtain ⟨i0, hi0, hz0, hz1, hz2⟩ := info_parts Try.infoB
      have lg := blk_lt hg
      have ag := nine hg hr
      have f0 : w.frozen? ⟨g, 0, none⟩ = false := blk_frozen hg 0
      have hsz : b.l.length + s.size ≤ 140737488355328 := by omega
      have hfit : ((b.l ++ bytesOf s).length : Int) ≤ b.lim := by rw [List.length_append, bytesOf_length]; omega
      have hnn : b.l.length + s.size = (b.l ++ bytesOf s).length := by rw [List.length_append, bytesOf_length]
      have HN := Aside0.mk hnn
      have HF := Aside0.mk hfit
      have HG := Aside0.mk hg
      have HV := Aside0.mk hr
      have HV0 := Aside0.mk hv0
      clear hfin hnn hfit hl hg hr he
      have hrn : ∀ n, (w.drewN n).ownsRow 0 5 1 v0 b.l.length (b.l.map (Value.int .u8)) := fun _ => HV.out
      subst hv0
      have HRN := Aside0.mk hrn
      clear hrn
      go_enter Try.func62, Try.ntmps62
      go_wp2
      go_quiet (fail)
      go_wp2_with (at_builtin; refine wpList_append_string_at (by rfl) _ _ _ _ (by rfl) 5 i0 Try.underlying25 Try.underlying9 hi0 hz0 hz1 hz2 (.slice A b.l.length cp) b.l.length (b.l.map (Value.int .u8)) ?a1 (HRN.out nq) s ?a2 hsz ?a3; (case a1 => rfl); (case a2 => rfl); intro A1 cp1 w1 hown1 hgrow hat; have q1 := far_cellN hgrow ag lg c0; have q2 := far_frzN hgrow ag lg f0)
      go_end0
      have hA := app_made2 (w := w.drewN nq) (ys := bytesOf s) HG.out (HRN.out nq) sg sr hS HF.out hm HN.out (by rw [List.map_append, ← strCells_bytes]; exact hown1) hgrow hat
      exact ⟨rfl, hA.1, ((Frm.refl S w).drewN nq).trans hA.2 (fun k hk => .inl hk)⟩
  · have heb : (b.err != 0) = true := by simpa using he
    have hfin := BS.text_err he s
    rw [hfin]
    clear hfin hl hm hr hg sr
    go_enter Try.func62, Try.ntmps62
    go_wp2
    refine bodyPost_ret (results_none rfl _ _ _) rfl ?_
    exact ⟨rfl, HH.out, Frm.refl _ _⟩
end Go.Proofs.Ytkmnhlhpmfkloaa.Fld

/- The buffer's Take, and what record makes of it: walked by hand. -/
namespace Go.Proofs.Ytkmnhlhpmfkloaa.Fld
open Go.RowKit Go.Proofs.YtkmnhlhpmfkloaaW.PrintWords Go.Proofs.YtkmnhlhpmfkloaaW.PrintLast Go.Proofs.YtkmnhlhpmfkloaaW.PrintMore Go.Proofs.Ytkmnhlhpmfkloaa.Mem
set_option linter.unusedVariables false
set_option linter.unusedSimpArgs false

theorem run_append_none_empty {P : Program} (w : World) (t ty e : TypeId) (i : TypeInfo) (ht : P.underlying t = some (.slice e)) (hi : P.info? e = some i) (A : Option Addr) (c : Nat) :
    (Builtin.append_ #[t, t] ty #[.slice none 0 0, .slice A 0 c]).run P w = .ok (.slice none 0 0) w := by
  cases A <;> simp [Builtin.append_, run_underlying ht, sizeOf, typeInfo, hi, Builtin.lenOf, Builtin.firstCells, loadCells, loadCellsFrom]
theorem wpList_append_none_empty {P : Program} {w : World} {ops : Array Oper} {rest : List Oper} {o : Oper} {a : Act} {Q : Exit → Act → World → Prop} (hgd : o.guard = none) (sl x : Operand) (t : TypeId)
    (ho : o.op = .call { callee := .builtin .append, args := #[sl, x], argTypes := #[t, t] })
    (e : TypeId) (i : TypeInfo) (ht : P.underlying t = some (.slice e)) (hi : P.info? e = some i) (A : Option Addr) (c : Nat) (hs : a.eval sl = .slice none 0 0) (hx : a.eval x = .slice A 0 c)
    (h : wpList P ops Q rest (a.put o.dst (.slice none 0 0)) w) : wpList P ops Q (o :: rest) a w := by
  refine wpList_plain hgd fun K hK => ?_
  have hr := run_append_none_empty (P := P) w t o.type e i ht hi A c
  unfold Oper.wp execOp
  simp only [ho, resolve, invoke, builtin, Sem.run_bind, Sem.run_pure, Result.andThen_ok, List.map_toArray, List.map_cons, List.map_nil, hs, hx, hr]
  exact hK _ _ h

set_option maxHeartbeats 4000000 in
set_option maxRecDepth 100000 in
theorem take_calls (w : World) (S : Nat → Prop) (g : Nat) (b : BS) (h : Buf w S g b) (he : b.err = 0) : Calls Try.prog 77 #[.pointer (some ⟨g, 0, none⟩)] w fun e w' =>
    ∃ A c, e = .returned (.slice A b.l.length c) ∧ Kd.R (Kd.int .u8) 5 w' w.heap.size (fun _ => True) (.slice A b.l.length c) b.l ∧ Below w.heap.size w w' := by
  obtain ⟨v0, hg, hr, sg, sr, hl, hm⟩ := h
  have c2 : w.cell? ⟨g, 2, none⟩ = some (.int .i64 b.err) := blk_cell hg 2
  have c0 : w.cell? ⟨g, 0, none⟩ = some v0 := blk_cell hg 0
  have heb : (b.err != 0) = false := by simpa using he
  obtain ⟨i0, hi0, hz0, hz1, hz2⟩ := info_parts Try.infoB
  have hsz : b.l.length ≤ 1048576 := by omega
  clear hl hm he sg sr
  by_cases h0 : b.l.length = 0
  · obtain ⟨A, cp, rfl⟩ : ∃ A cp, v0 = .slice A 0 cp := by
      rcases hr.2 with ⟨rfl, h0'⟩ | ⟨b', cap, cur, rfl, _⟩
      · exact ⟨_, _, rfl⟩
      · exact ⟨_, _, by rw [h0]⟩
    have hnil : b.l = [] := List.eq_nil_of_length_eq_zero h0
    clear hg hr hsz h0
    go_enter Try.func77, Try.ntmps77
    go_wp2_with (at_builtin; refine wpList_append_none_empty (by rfl) _ _ _ (by rfl) 5 i0 Try.underlying25 hi0 A cp ?a1 ?a2 ?a3; (case a1 => rfl); (case a2 => rfl))
    go_ret
    exact ⟨none, 0, by rw [hnil]; rfl, by rw [hnil]; exact Kd.R_nil _ _ _ _ _, Below.refl _ _⟩
  · obtain ⟨gb, cp, rfl, hcells⟩ : ∃ gb cp, v0 = .slice (some ⟨gb, 0, none⟩) b.l.length cp ∧ ∀ j u, (b.l.map (Value.int .u8))[j]? = some u → w.cell? ((⟨gb, 0, none⟩ : Addr).add j) = some u := by
      rcases hr.2 with ⟨rfl, h0'⟩ | ⟨b', cap, cur, rfl, _⟩
      · exact absurd h0' h0
      · exact ⟨_, _, rfl, hr.cells rfl⟩
    have hpos : 0 < b.l.length := by omega
    clear hg hr h0
    have HC := Aside0.mk hcells
    clear hcells
    go_enter Try.func77, Try.ntmps77
    go_wp2_with (at_builtin; refine wpList_append_lies _ (by rfl) _ _ _ (by rfl) w.heap.size 5 i0 _ 1 1 Try.underlying25 hi0 hz0 hz1 hz2 rfl (by omega) (.slice none 0 0) 0 [] ?b1 (own_nil _ _ _ _) ⟨gb, 0, none⟩ b.l.length cp (b.l.map (Value.int .u8)) ?b2 ?b3 HC.out ?b5 hpos ?b7 ?b8 ?b9 w.heap.size ?b10 ?b11; (case b1 => rfl); (case b2 => rfl); (case b3 => simp); (case b5 => simp [Value.oneCell']); (case b7 => simp only [maxLen]; omega); (case b8 => omega); (case b9 => omega); (case b10 => rfl); intro gg cap w1 hown1 hgrow hat hlt)
    go_ret
    refine ⟨some ⟨gg, 0, none⟩, cap, by simp, ?_, ?_⟩
    · simp only [Nat.zero_add, List.nil_append] at hown1
      exact Kd.R_of_own hown1 (fun _ _ => trivial)
    · exact ⟨hgrow.os, hgrow.tape, hgrow.output, hgrow.size, fun k hk => hgrow.block k hk (by simp [Value.ownBlock])⟩

/-- What record answers of a buffer. -/
def BS.ans (b : BS) : List Int × Int := if b.err = 0 then (b.l, 0) else ([], 124)
set_option maxHeartbeats 4000000 in
theorem taken_calls (w : World) (S : Nat → Prop) (g : Nat) (b : BS) (h : Buf w S g b) : Calls Try.prog 50 #[.pointer (some ⟨g, 0, none⟩)] w fun e w' =>
    ∃ v, e = .returned (.tuple #[v, .int .i64 b.ans.2]) ∧ Kd.R (Kd.int .u8) 5 w' w.heap.size (fun _ => True) v b.ans.1 ∧ Below w.heap.size w w' := by
  by_cases he : b.err = 0
  · have heb : (b.err != 0) = false := by simpa using he
    have ha : b.ans = (b.l, 0) := if_pos he
    rw [ha]
    have H1 := Aside0.mk (err_calls w S g b h)
    have H2 := Aside0.mk (fun n => take_calls (w.drewN n) S g b h he)
    clear h he ha
    go_enter Try.func50, Try.ntmps50
    go_wp2_with (first | (go_at_call 76; refine H1.out.mono ?_; rintro e w1 ⟨rfl, n, rfl⟩) | (go_at_call 77; refine (H2.out n).mono ?_; rintro e w2 ⟨A, c, rfl, hR, hB⟩))
    go_ret2
    exact ⟨_, rfl, hR, ⟨hB.os, hB.tape, hB.output, hB.size, hB.block⟩⟩
  · have heb : (b.err != 0) = true := by simpa using he
    have ha : b.ans = ([], 124) := if_neg he
    rw [ha]
    have H1 := Aside0.mk (err_calls w S g b h)
    clear h he ha
    go_enter Try.func50, Try.ntmps50
    go_wp2_with (first | (go_at_call 76; refine H1.out.mono ?_; rintro e w1 ⟨rfl, n, rfl⟩))
    go_ret2
    exact ⟨_, rfl, Kd.R_nil _ _ _ _ _, ⟨rfl, rfl, rfl, Nat.le_refl _, fun _ _ => rfl⟩⟩
end Go.Proofs.Ytkmnhlhpmfkloaa.Fld

/- What the calls Put.. of record do: chains of calls on one buffer, walked by hand. -/
namespace Go.Proofs.Ytkmnhlhpmfkloaa.Fld
open Go.RowKit Go.Proofs.YtkmnhlhpmfkloaaW.PrintWords Go.Proofs.YtkmnhlhpmfkloaaW.PrintLast Go.Proofs.YtkmnhlhpmfkloaaW.PrintMore Go.Proofs.Ytkmnhlhpmfkloaa.Mem
set_option linter.unusedVariables false
set_option linter.unusedSimpArgs false

theorem Buf.sub {w : World} {S S1 : Nat → Prop} {g : Nat} {b : BS} (h : Buf w S g b) (hs : ∀ k, S k → k < w.heap.size → S1 k) : Buf w S1 g b := by
  obtain ⟨v, hg, hr, sg, sr, h1, h2⟩ := h
  exact ⟨v, hg, hr, hs g sg (blk_lt hg), fun k hk => hs k (sr k hk) (own_lt hr k hk), h1, h2⟩
theorem Frm.chain {S : Nat → Prop} {w w1 w2 : World} (h : Frm S w w1) (h2 : Frm S w1 w2) : Frm S w w2 := h.trans h2 (fun k hk => .inl hk)
theorem Frm.big {S : Nat → Prop} {w w1 : World} {B : Nat} (h : Frm S w w1) (hB : B ≤ w.heap.size) (hS : ∀ k, B ≤ k → S k) : ∀ k, w1.heap.size ≤ k → S k := fun k hk => hS k (Nat.le_trans hB (Nat.le_trans h.size hk))

def sharedB (b : BS) (a0 : Int) (a1 : Int) (a2 : Int) (a3 : Int) (a4 : Int) (a5 : Int) (a6 : Int) (a7 : Int) (a8 : ByteArray) (a9 : ByteArray) : BS := (((((((((b.num a0 2).num a1 2).num a2 2).num a3 2).num a4 2).num (wrap64 a5) 4).num a6 4).num a7 4).num a8.size 2).num a9.size 2
def localB (a0 : Int) (a1 : Int) (a2 : Int) (a3 : Int) (a4 : Int) (a5 : Int) (a6 : Int) (a7 : Int) (a8 : ByteArray) (a9 : ByteArray) : BS := (((sharedB ((⟨[], 131100, 0⟩ : BS).num 67324752 4) a0 a1 a2 a3 a4 a5 a6 a7 a8 a9).text a8).text a9)
def centralB (a0 : Int) (a1 : Int) (a2 : Int) (a3 : Int) (a4 : Int) (a5 : Int) (a6 : Int) (a7 : Int) (a8 : ByteArray) (a9 : ByteArray) (a10 : Int) (a11 : Int) (a12 : Int) (a13 : Int) (a14 : Int) (a15 : ByteArray) : BS := (((((((((sharedB (((⟨[], 196651, 0⟩ : BS).num 33639248 4).num a10 2) a0 a1 a2 a3 a4 a5 a6 a7 a8 a9).num a15.size 2).num a11 2).num a12 2).num a13 4).num a14 4).text a8).text a9).text a15)
def endB (a0 : Int) (a1 : Int) (a2 : Int) (a3 : Int) (a4 : Int) (a5 : Int) (a6 : ByteArray) : BS := (((((((((⟨[], 65557, 0⟩ : BS).num 101010256 4).num a0 2).num a1 2).num a2 2).num a3 2).num a4 4).num a5 4).num a6.size 2).text a6
def descB (a0 : Int) (a1 : Int) (a2 : Int) (a3 : Int) (a4 : Int) (a5 : Int) (a6 : Int) (a7 : Int) (a8 : ByteArray) (a9 : ByteArray) (a10 : Bool) : BS := ((((if a10 then (⟨[], 16, 0⟩ : BS).num 134695760 4 else (⟨[], 16, 0⟩ : BS)).num (wrap64 a5) 4).num a6 4).num a7 4)

theorem Buf.mono {w : World} {S S1 : Nat → Prop} {g : Nat} {b : BS} (h : Buf w S g b) (hs : ∀ k, S k → S1 k) : Buf w S1 g b := h.sub (fun k hk _ => hs k hk)
theorem box_start {w : World} {S0 : Nat → Prop} {g : Nat} {b : BS} (h : Buf w S0 g b) (hS0 : ∀ k, w.heap.size ≤ k → S0 k) (o : Obj) :
    Buf (w.alloc o) (fun k => S0 k ∧ k ≠ w.heap.size) g b ∧ (∀ q, (w.alloc o).heap.size ≤ q → S0 q ∧ q ≠ w.heap.size) := by
  refine ⟨Buf.frm (Buf.sub h (fun k hk hlt => ⟨hk, by omega⟩)) ((Frm.refl (fun _ => False) w).alloc _) (fun _ _ _ hh => hh), fun q hq => ?_⟩
  have : (w.alloc o).heap.size = w.heap.size + 1 := by simp
  exact ⟨hS0 q (by omega), by omega⟩
theorem box_end {w w1 : World} {S0 : Nat → Prop} {bx : Nat} {o : Obj} (h : Frm (fun k => S0 k ∧ k ≠ bx) (w.alloc o) w1) : Frm S0 w w1 :=
  ((Frm.refl S0 w).alloc o).trans h (fun k hk => .inl hk.1)
set_option maxHeartbeats 16000000 in
set_option maxRecDepth 100000 in
theorem putShared_calls (w : World) (S0 : Nat → Prop) (g : Nat) (b : BS) (a0 : Int) (a1 : Int) (a2 : Int) (a3 : Int) (a4 : Int) (a5 : Int) (a6 : Int) (a7 : Int) (a8 : ByteArray) (a9 : ByteArray) (h : Buf w S0 g b) (hS0 : ∀ k, w.heap.size ≤ k → S0 k) : Calls Try.prog 70 #[.pointer (some ⟨g, 0, none⟩), .agg #[.int .i64 a0, .int .i64 a1, .int .i64 a2, .int .i64 a3, .int .i64 a4, .int .u32 a5, .int .i64 a6, .int .i64 a7, .string a8, .string a9]] w fun e w' =>
    e = .returned (.tuple #[]) ∧ Buf w' S0 g (sharedB b a0 a1 a2 a3 a4 a5 a6 a7 a8 a9) ∧ Frm S0 w w' := by
  have hst := box_start h hS0 (.cells #[.int .i64 a0, .int .i64 a1, .int .i64 a2, .int .i64 a3, .int .i64 a4, .int .u32 a5, .int .i64 a6, .int .i64 a7, .string a8, .string a9] 24)
  have HEND := Aside0.mk (fun w1 hf => box_end (w := w) (w1 := w1) (S0 := S0) (bx := w.heap.size) (o := .cells #[.int .i64 a0, .int .i64 a1, .int .i64 a2, .int .i64 a3, .int .i64 a4, .int .u32 a5, .int .i64 a6, .int .i64 a7, .string a8, .string a9] 24) hf)
  have hX := blk_new w (.cells #[.int .i64 a0, .int .i64 a1, .int .i64 a2, .int .i64 a3, .int .i64 a4, .int .u32 a5, .int .i64 a6, .int .i64 a7, .string a8, .string a9] 24)
  obtain ⟨S, hSd⟩ : ∃ S : Nat → Prop, S = fun k => S0 k ∧ k ≠ w.heap.size := ⟨_, rfl⟩
  have nbx : ¬ S w.heap.size := by rw [hSd]; exact fun h => h.2 rfl
  have HS2 : Aside0 (∀ k, S k → S0 k) := ⟨by rw [hSd]; exact fun k hk => hk.1⟩
  rw [← hSd] at HEND hst
  have HB := Aside0.mk hst.1
  have HS := Aside0.mk (show ∀ q, (w.alloc (.cells #[.int .i64 a0, .int .i64 a1, .int .i64 a2, .int .i64 a3, .int .i64 a4, .int .u32 a5, .int .i64 a6, .int .i64 a7, .string a8, .string a9] 24)).heap.size ≤ q → S q from fun q hq => by rw [hSd]; exact hst.2 q hq)
  have HX := Aside0.mk hX
  clear hst hX hSd h hS0
  go_enter Try.func70, Try.ntmps70
  go_wp2_with fail
  generalize hw0 : w.alloc (.cells #[.int .i64 a0, .int .i64 a1, .int .i64 a2, .int .i64 a3, .int .i64 a4, .int .u32 a5, .int .i64 a6, .int .i64 a7, .string a8, .string a9] 24) = w0 at HEND HB HS HX ⊢
  generalize w.heap.size = bx at nbx HX ⊢
  clear hw0
  have HB0 := HB; have HX0 := HX; have HG0 := Aside0.mk (Frm.refl S w0); have HS0 := HS
  clear HB HX HS
  have i0 : ∀ w : World, (Instr.index 131 (.agg #[.int .i64 a0, .int .i64 a1, .int .i64 a2, .int .i64 a3, .int .i64 a4]) (.int .i64 0)).run Try.prog w = .ok (.int .i64 a0) w := fun _ => by kernel_rfl
  have i1 : ∀ w : World, (Instr.index 131 (.agg #[.int .i64 a0, .int .i64 a1, .int .i64 a2, .int .i64 a3, .int .i64 a4]) (.int .i64 1)).run Try.prog w = .ok (.int .i64 a1) w := fun _ => by kernel_rfl
  have i2 : ∀ w : World, (Instr.index 131 (.agg #[.int .i64 a0, .int .i64 a1, .int .i64 a2, .int .i64 a3, .int .i64 a4]) (.int .i64 2)).run Try.prog w = .ok (.int .i64 a2) w := fun _ => by kernel_rfl
  have i3 : ∀ w : World, (Instr.index 131 (.agg #[.int .i64 a0, .int .i64 a1, .int .i64 a2, .int .i64 a3, .int .i64 a4]) (.int .i64 3)).run Try.prog w = .ok (.int .i64 a3) w := fun _ => by kernel_rfl
  have i4 : ∀ w : World, (Instr.index 131 (.agg #[.int .i64 a0, .int .i64 a1, .int .i64 a2, .int .i64 a3, .int .i64 a4]) (.int .i64 4)).run Try.prog w = .ok (.int .i64 a4) w := fun _ => by kernel_rfl
  go_wp2_with fail
  go_loopg [17] 6 (fun gk v17 wr => ∃ bk, Aside0 (Buf wr S g bk) ∧ Aside0 (wr.heap[bx]? = some (.cells #[.int .i64 a0, .int .i64 a1, .int .i64 a2, .int .i64 a3, .int .i64 a4, .int .u32 a5, .int .i64 a6, .int .i64 a7, .string a8, .string a9] 24 (0, 0))) ∧ Aside0 (Frm S w0 wr) ∧ Aside0 (∀ q, wr.heap.size ≤ q → S q) ∧ ((v17 = .int .i64 0 ∧ 6 ≤ gk ∧ Aside0 (bk = b)) ∨ (v17 = .int .i64 1 ∧ 5 ≤ gk ∧ Aside0 (bk = (b).num a0 2)) ∨ (v17 = .int .i64 2 ∧ 4 ≤ gk ∧ Aside0 (bk = ((b).num a0 2).num a1 2)) ∨ (v17 = .int .i64 3 ∧ 3 ≤ gk ∧ Aside0 (bk = (((b).num a0 2).num a1 2).num a2 2)) ∨ (v17 = .int .i64 4 ∧ 2 ≤ gk ∧ Aside0 (bk = ((((b).num a0 2).num a1 2).num a2 2).num a3 2)) ∨ (v17 = .int .i64 5 ∧ 1 ≤ gk ∧ Aside0 (bk = (((((b).num a0 2).num a1 2).num a2 2).num a3 2).num a4 2))))
  case atStart => exact ⟨_, HB0, HX0, HG0, HS0, .inl ⟨rfl, by omega, ⟨rfl⟩⟩⟩
  case round =>
    obtain ⟨bk, HBk, HXk, HGk, HSk, hcase⟩ := hrel
    clear HB0 HX0 HG0 HS0
    rcases hcase with ⟨rfl, hgk, HE⟩ | ⟨rfl, hgk, HE⟩ | ⟨rfl, hgk, HE⟩ | ⟨rfl, hgk, HE⟩ | ⟨rfl, hgk, HE⟩ | ⟨rfl, hgk, HE⟩
    · go_wp2_with fail
      refine (u16_calls _ S g _ _ HBk.out HSk.out).mono ?_
      rintro e wn ⟨rfl, hb, hf⟩
      go_wp2_with fail
      go_roundg 5
      case measure => omega
      case rel => exact ⟨_, ⟨hb⟩, ⟨hf.blk HXk.out nbx⟩, ⟨Frm.chain HGk.out hf⟩, ⟨fun q hq => HSk.out q (Nat.le_trans hf.size hq)⟩, .inr (.inl ⟨rfl, by omega, ⟨by rw [HE.out]⟩⟩)⟩
    · go_wp2_with fail
      refine (u16_calls _ S g _ _ HBk.out HSk.out).mono ?_
      rintro e wn ⟨rfl, hb, hf⟩
      go_wp2_with fail
      go_roundg 4
      case measure => omega
      case rel => exact ⟨_, ⟨hb⟩, ⟨hf.blk HXk.out nbx⟩, ⟨Frm.chain HGk.out hf⟩, ⟨fun q hq => HSk.out q (Nat.le_trans hf.size hq)⟩, .inr (.inr (.inl ⟨rfl, by omega, ⟨by rw [HE.out]⟩⟩))⟩
    · go_wp2_with fail
      refine (u16_calls _ S g _ _ HBk.out HSk.out).mono ?_
      rintro e wn ⟨rfl, hb, hf⟩
      go_wp2_with fail
      go_roundg 3
      case measure => omega
      case rel => exact ⟨_, ⟨hb⟩, ⟨hf.blk HXk.out nbx⟩, ⟨Frm.chain HGk.out hf⟩, ⟨fun q hq => HSk.out q (Nat.le_trans hf.size hq)⟩, .inr (.inr (.inr (.inl ⟨rfl, by omega, ⟨by rw [HE.out]⟩⟩)))⟩
    · go_wp2_with fail
      refine (u16_calls _ S g _ _ HBk.out HSk.out).mono ?_
      rintro e wn ⟨rfl, hb, hf⟩
      go_wp2_with fail
      go_roundg 2
      case measure => omega
      case rel => exact ⟨_, ⟨hb⟩, ⟨hf.blk HXk.out nbx⟩, ⟨Frm.chain HGk.out hf⟩, ⟨fun q hq => HSk.out q (Nat.le_trans hf.size hq)⟩, .inr (.inr (.inr (.inr (.inl ⟨rfl, by omega, ⟨by rw [HE.out]⟩⟩))))⟩
    · go_wp2_with fail
      refine (u16_calls _ S g _ _ HBk.out HSk.out).mono ?_
      rintro e wn ⟨rfl, hb, hf⟩
      go_wp2_with fail
      go_roundg 1
      case measure => omega
      case rel => exact ⟨_, ⟨hb⟩, ⟨hf.blk HXk.out nbx⟩, ⟨Frm.chain HGk.out hf⟩, ⟨fun q hq => HSk.out q (Nat.le_trans hf.size hq)⟩, .inr (.inr (.inr (.inr (.inr (⟨rfl, by omega, ⟨by rw [HE.out]⟩⟩)))))⟩
    · clear i0 i1 i2 i3 i4
      have hbk := HBk.out
      rw [HE.out] at hbk
      have HB1 := Aside0.mk hbk
      clear hbk
      have HX1 := HXk
      have HG1 := HGk
      have HS1 := HSk
      clear HBk HXk HGk HSk
      have x5 : wr.cell? ⟨bx, 5, none⟩ = some (.int .u32 a5) := blk_cell HX1.out 5
      go_wp2_with fail
      refine (u32_calls _ S g _ _ HB1.out HS1.out).mono ?_
      rintro e w2 ⟨rfl, hb, hf⟩
      have HB2 := Aside0.mk hb
      have HX2 := Aside0.mk (hf.blk HX1.out nbx)
      have HG2 := Aside0.mk (Frm.chain HG1.out hf)
      have HS2 := Aside0.mk (fun q hq => HS1.out q (Nat.le_trans hf.size hq))
      clear x5
      clear hb hf HB1 HX1 HG1 HS1
      have x6 : w2.cell? ⟨bx, 6, none⟩ = some (.int .i64 a6) := blk_cell HX2.out 6
      go_wp2_with fail
      refine (u32_calls _ S g _ _ HB2.out HS2.out).mono ?_
      rintro e w3 ⟨rfl, hb, hf⟩
      have HB3 := Aside0.mk hb
      have HX3 := Aside0.mk (hf.blk HX2.out nbx)
      have HG3 := Aside0.mk (Frm.chain HG2.out hf)
      have HS3 := Aside0.mk (fun q hq => HS2.out q (Nat.le_trans hf.size hq))
      clear x6
      clear hb hf HB2 HX2 HG2 HS2
      have x7 : w3.cell? ⟨bx, 7, none⟩ = some (.int .i64 a7) := blk_cell HX3.out 7
      go_wp2_with fail
      refine (u32_calls _ S g _ _ HB3.out HS3.out).mono ?_
      rintro e w4 ⟨rfl, hb, hf⟩
      have HB4 := Aside0.mk hb
      have HX4 := Aside0.mk (hf.blk HX3.out nbx)
      have HG4 := Aside0.mk (Frm.chain HG3.out hf)
      have HS4 := Aside0.mk (fun q hq => HS3.out q (Nat.le_trans hf.size hq))
      clear x7
      clear hb hf HB3 HX3 HG3 HS3
      have x8 : w4.cell? ⟨bx, 8, none⟩ = some (.string a8) := blk_cell HX4.out 8
      go_wp2_with fail
      refine (u16_calls _ S g _ _ HB4.out HS4.out).mono ?_
      rintro e w5 ⟨rfl, hb, hf⟩
      have HB5 := Aside0.mk hb
      have HX5 := Aside0.mk (hf.blk HX4.out nbx)
      have HG5 := Aside0.mk (Frm.chain HG4.out hf)
      have HS5 := Aside0.mk (fun q hq => HS4.out q (Nat.le_trans hf.size hq))
      clear x8
      clear hb hf HB4 HX4 HG4 HS4
      have x9 : w5.cell? ⟨bx, 9, none⟩ = some (.string a9) := blk_cell HX5.out 9
      go_wp2_with fail
      refine (u16_calls _ S g _ _ HB5.out HS5.out).mono ?_
      rintro e w6 ⟨rfl, hb, hf⟩
      have HB6 := Aside0.mk hb
      have HX6 := Aside0.mk (hf.blk HX5.out nbx)
      have HG6 := Aside0.mk (Frm.chain HG5.out hf)
      have HS6 := Aside0.mk (fun q hq => HS5.out q (Nat.le_trans hf.size hq))
      clear x9
      clear hb hf HB5 HX5 HG5 HS5
      go_wp2_with fail
      go_end0
      exact ⟨rfl, Buf.mono HB6.out HS2.out, HEND.out _ HG6.out⟩
theorem box_first {w : World} (o : Obj) : (∀ q, (w.alloc o).heap.size ≤ q → w.heap.size < q) ∧ ¬ (w.heap.size < w.heap.size) := by
  have h : (w.alloc o).heap.size = w.heap.size + 1 := by simp
  exact ⟨fun q hq => by omega, Nat.lt_irrefl _⟩
theorem box_last {w w1 w2 : World} {o : Obj} {B : Nat} (hB : w.heap.size = B) (h : Frm (fun k => B < k) (w.alloc o) w1) (h2 : Below w1.heap.size w1 w2) : Below B w w2 := by
  subst hB
  have hs : w.heap.size ≤ (w.alloc o).heap.size := by simp
  have h1 : Below w.heap.size w w1 := (below_alloc (Below.refl _ w) o).trans (h.to_below hs (fun k hk => Nat.le_of_lt hk))
  exact h1.trans (h2.mono (Nat.le_trans hs h.size))
theorem R_low {α : Type} {d : Kd α} {e : Nat} {w1 : World} {base B : Nat} {v : Value} {xs : List α} (h : d.R e w1 base (fun _ => True) v xs) (hb : B ≤ base) : d.R e w1 B (fun _ => True) v xs := Kd.R_lower h hb
set_option maxHeartbeats 16000000 in
set_option maxRecDepth 100000 in
theorem putLocal_calls (w : World) (a0 : Int) (a1 : Int) (a2 : Int) (a3 : Int) (a4 : Int) (a5 : Int) (a6 : Int) (a7 : Int) (a8 : ByteArray) (a9 : ByteArray) : Calls Try.prog 33 #[.agg #[.int .i64 a0, .int .i64 a1, .int .i64 a2, .int .i64 a3, .int .i64 a4, .int .u32 a5, .int .i64 a6, .int .i64 a7, .string a8, .string a9]] w fun e w' =>
    ∃ v, e = .returned (.tuple #[v, .int .i64 (localB a0 a1 a2 a3 a4 a5 a6 a7 a8 a9).ans.2]) ∧ Kd.R (Kd.int .u8) 5 w' w.heap.size (fun _ => True) v (localB a0 a1 a2 a3 a4 a5 a6 a7 a8 a9).ans.1 ∧ Below w.heap.size w w' := by
  have hst := box_first (w := w) (.cells #[.int .i64 a0, .int .i64 a1, .int .i64 a2, .int .i64 a3, .int .i64 a4, .int .u32 a5, .int .i64 a6, .int .i64 a7, .string a8, .string a9] 24)
  have hX := blk_new w (.cells #[.int .i64 a0, .int .i64 a1, .int .i64 a2, .int .i64 a3, .int .i64 a4, .int .u32 a5, .int .i64 a6, .int .i64 a7, .string a8, .string a9] 24)
  have hend : ∀ w1 w2 : World, Frm (fun k => w.heap.size < k) (w.alloc (.cells #[.int .i64 a0, .int .i64 a1, .int .i64 a2, .int .i64 a3, .int .i64 a4, .int .u32 a5, .int .i64 a6, .int .i64 a7, .string a8, .string a9] 24)) w1 → Below w1.heap.size w1 w2 → Below w.heap.size w w2 := fun w1 w2 => box_last rfl
  have hle : w.heap.size ≤ (w.alloc (.cells #[.int .i64 a0, .int .i64 a1, .int .i64 a2, .int .i64 a3, .int .i64 a4, .int .u32 a5, .int .i64 a6, .int .i64 a7, .string a8, .string a9] 24)).heap.size := by simp
  obtain ⟨S, hSd⟩ : ∃ S : Nat → Prop, S = fun k => w.heap.size < k := ⟨_, rfl⟩
  have nbx : ¬ S w.heap.size := by rw [hSd]; exact hst.2
  rw [← hSd] at hend
  have HS := Aside0.mk (show ∀ q, (w.alloc (.cells #[.int .i64 a0, .int .i64 a1, .int .i64 a2, .int .i64 a3, .int .i64 a4, .int .u32 a5, .int .i64 a6, .int .i64 a7, .string a8, .string a9] 24)).heap.size ≤ q → S q from fun q hq => by rw [hSd]; exact hst.1 q hq)
  have HX := Aside0.mk hX
  have HEND := Aside0.mk hend
  have HLE := Aside0.mk hle
  clear hst hX hend hSd hle
  go_enter Try.func33, Try.ntmps33
  go_wp2_with fail
  generalize w.alloc (.cells #[.int .i64 a0, .int .i64 a1, .int .i64 a2, .int .i64 a3, .int .i64 a4, .int .u32 a5, .int .i64 a6, .int .i64 a7, .string a8, .string a9] 24) = w0 at HEND HS HX HLE ⊢
  generalize hbxe : w.heap.size = bx at nbx HX HEND HLE ⊢
  have HBX := Aside0.mk hbxe
  clear hbxe
  refine (new_calls w0 S 131100 (by omega) (by omega) HS.out).mono ?_
  rintro e w1 ⟨g, rfl, hb, hbel⟩
  have hf := Frm.of_below hbel S
  have HB1 := Aside0.mk hb; have HX1 := Aside0.mk (hf.blk HX.out nbx); have HG1 := Aside0.mk hf; have HS1 := Aside0.mk (fun q hq => HS.out q (Nat.le_trans hf.size hq))
  clear hb hbel hf HX HS
  go_wp2_with fail
  refine (u32_calls _ S g _ _ HB1.out HS1.out).mono ?_
  rintro e w2 ⟨rfl, hb, hf⟩
  have HB2 := Aside0.mk hb
  have HX2 := Aside0.mk (hf.blk HX1.out nbx)
  have HG2 := Aside0.mk (Frm.chain HG1.out hf)
  have HS2 := Aside0.mk (fun q hq => HS1.out q (Nat.le_trans hf.size hq))
  clear hb hf HB1 HX1 HG1 HS1
  have x0 : w2.cell? ⟨bx, 0, none⟩ = some (.int .i64 a0) := blk_cell HX2.out 0
  have x1 : w2.cell? ⟨bx, 1, none⟩ = some (.int .i64 a1) := blk_cell HX2.out 1
  have x2 : w2.cell? ⟨bx, 2, none⟩ = some (.int .i64 a2) := blk_cell HX2.out 2
  have x3 : w2.cell? ⟨bx, 3, none⟩ = some (.int .i64 a3) := blk_cell HX2.out 3
  have x4 : w2.cell? ⟨bx, 4, none⟩ = some (.int .i64 a4) := blk_cell HX2.out 4
  have x5 : w2.cell? ⟨bx, 5, none⟩ = some (.int .u32 a5) := blk_cell HX2.out 5
  have x6 : w2.cell? ⟨bx, 6, none⟩ = some (.int .i64 a6) := blk_cell HX2.out 6
  have x7 : w2.cell? ⟨bx, 7, none⟩ = some (.int .i64 a7) := blk_cell HX2.out 7
  have x8 : w2.cell? ⟨bx, 8, none⟩ = some (.string a8) := blk_cell HX2.out 8
  have x9 : w2.cell? ⟨bx, 9, none⟩ = some (.string a9) := blk_cell HX2.out 9
  go_wp2_with fail
  refine (putShared_calls _ S g _ _ _ _ _ _ _ _ _ _ _ HB2.out HS2.out).mono ?_
  rintro e w3 ⟨rfl, hb, hf⟩
  have HB3 := Aside0.mk hb
  have HX3 := Aside0.mk (hf.blk HX2.out nbx)
  have HG3 := Aside0.mk (Frm.chain HG2.out hf)
  have HS3 := Aside0.mk (fun q hq => HS2.out q (Nat.le_trans hf.size hq))
  clear x0 x1 x2 x3 x4 x5 x6 x7 x8 x9
  clear hb hf HB2 HX2 HG2 HS2
  have x8 : w3.cell? ⟨bx, 8, none⟩ = some (.string a8) := blk_cell HX3.out 8
  go_wp2_with fail
  refine (text_calls _ S g _ _ HB3.out HS3.out).mono ?_
  rintro e w4 ⟨rfl, hb, hf⟩
  have HB4 := Aside0.mk hb
  have HX4 := Aside0.mk (hf.blk HX3.out nbx)
  have HG4 := Aside0.mk (Frm.chain HG3.out hf)
  have HS4 := Aside0.mk (fun q hq => HS3.out q (Nat.le_trans hf.size hq))
  clear x8
  clear hb hf HB3 HX3 HG3 HS3
  have x9 : w4.cell? ⟨bx, 9, none⟩ = some (.string a9) := blk_cell HX4.out 9
  go_wp2_with fail
  refine (text_calls _ S g _ _ HB4.out HS4.out).mono ?_
  rintro e w5 ⟨rfl, hb, hf⟩
  have HB5 := Aside0.mk hb
  have HX5 := Aside0.mk (hf.blk HX4.out nbx)
  have HG5 := Aside0.mk (Frm.chain HG4.out hf)
  have HS5 := Aside0.mk (fun q hq => HS4.out q (Nat.le_trans hf.size hq))
  clear x9
  clear hb hf HB4 HX4 HG4 HS4
  go_wp2_with fail
  refine (taken_calls _ S g _ HB5.out).mono ?_
  rintro e wz ⟨vz, rfl, hR, hBz⟩
  go_wp2_with fail
  go_ret2
  exact ⟨vz, rfl, by rw [HBX.out]; exact R_low hR (Nat.le_trans HLE.out HG5.out.size), by rw [HBX.out]; exact HEND.out _ _ HG5.out hBz⟩
set_option maxHeartbeats 16000000 in
set_option maxRecDepth 100000 in
theorem putCentral_calls (w : World) (a0 : Int) (a1 : Int) (a2 : Int) (a3 : Int) (a4 : Int) (a5 : Int) (a6 : Int) (a7 : Int) (a8 : ByteArray) (a9 : ByteArray) (a10 : Int) (a11 : Int) (a12 : Int) (a13 : Int) (a14 : Int) (a15 : ByteArray) : Calls Try.prog 37 #[.agg #[.int .i64 a0, .int .i64 a1, .int .i64 a2, .int .i64 a3, .int .i64 a4, .int .u32 a5, .int .i64 a6, .int .i64 a7, .string a8, .string a9, .int .i64 a10, .int .i64 a11, .int .i64 a12, .int .i64 a13, .int .i64 a14, .string a15]] w fun e w' =>
    ∃ v, e = .returned (.tuple #[v, .int .i64 (centralB a0 a1 a2 a3 a4 a5 a6 a7 a8 a9 a10 a11 a12 a13 a14 a15).ans.2]) ∧ Kd.R (Kd.int .u8) 5 w' w.heap.size (fun _ => True) v (centralB a0 a1 a2 a3 a4 a5 a6 a7 a8 a9 a10 a11 a12 a13 a14 a15).ans.1 ∧ Below w.heap.size w w' := by
  have hst := box_first (w := w) (.cells #[.int .i64 a0, .int .i64 a1, .int .i64 a2, .int .i64 a3, .int .i64 a4, .int .u32 a5, .int .i64 a6, .int .i64 a7, .string a8, .string a9, .int .i64 a10, .int .i64 a11, .int .i64 a12, .int .i64 a13, .int .i64 a14, .string a15] 73)
  have hX := blk_new w (.cells #[.int .i64 a0, .int .i64 a1, .int .i64 a2, .int .i64 a3, .int .i64 a4, .int .u32 a5, .int .i64 a6, .int .i64 a7, .string a8, .string a9, .int .i64 a10, .int .i64 a11, .int .i64 a12, .int .i64 a13, .int .i64 a14, .string a15] 73)
  have hend : ∀ w1 w2 : World, Frm (fun k => w.heap.size < k) (w.alloc (.cells #[.int .i64 a0, .int .i64 a1, .int .i64 a2, .int .i64 a3, .int .i64 a4, .int .u32 a5, .int .i64 a6, .int .i64 a7, .string a8, .string a9, .int .i64 a10, .int .i64 a11, .int .i64 a12, .int .i64 a13, .int .i64 a14, .string a15] 73)) w1 → Below w1.heap.size w1 w2 → Below w.heap.size w w2 := fun w1 w2 => box_last rfl
  have hle : w.heap.size ≤ (w.alloc (.cells #[.int .i64 a0, .int .i64 a1, .int .i64 a2, .int .i64 a3, .int .i64 a4, .int .u32 a5, .int .i64 a6, .int .i64 a7, .string a8, .string a9, .int .i64 a10, .int .i64 a11, .int .i64 a12, .int .i64 a13, .int .i64 a14, .string a15] 73)).heap.size := by simp
  obtain ⟨S, hSd⟩ : ∃ S : Nat → Prop, S = fun k => w.heap.size < k := ⟨_, rfl⟩
  have nbx : ¬ S w.heap.size := by rw [hSd]; exact hst.2
  rw [← hSd] at hend
  have HS := Aside0.mk (show ∀ q, (w.alloc (.cells #[.int .i64 a0, .int .i64 a1, .int .i64 a2, .int .i64 a3, .int .i64 a4, .int .u32 a5, .int .i64 a6, .int .i64 a7, .string a8, .string a9, .int .i64 a10, .int .i64 a11, .int .i64 a12, .int .i64 a13, .int .i64 a14, .string a15] 73)).heap.size ≤ q → S q from fun q hq => by rw [hSd]; exact hst.1 q hq)
  have HX := Aside0.mk hX
  have HEND := Aside0.mk hend
  have HLE := Aside0.mk hle
  clear hst hX hend hSd hle
  go_enter Try.func37, Try.ntmps37
  go_wp2_with fail
  generalize w.alloc (.cells #[.int .i64 a0, .int .i64 a1, .int .i64 a2, .int .i64 a3, .int .i64 a4, .int .u32 a5, .int .i64 a6, .int .i64 a7, .string a8, .string a9, .int .i64 a10, .int .i64 a11, .int .i64 a12, .int .i64 a13, .int .i64 a14, .string a15] 73) = w0 at HEND HS HX HLE ⊢
  generalize hbxe : w.heap.size = bx at nbx HX HEND HLE ⊢
  have HBX := Aside0.mk hbxe
  clear hbxe
  refine (new_calls w0 S 196651 (by omega) (by omega) HS.out).mono ?_
  rintro e w1 ⟨g, rfl, hb, hbel⟩
  have hf := Frm.of_below hbel S
  have HB1 := Aside0.mk hb; have HX1 := Aside0.mk (hf.blk HX.out nbx); have HG1 := Aside0.mk hf; have HS1 := Aside0.mk (fun q hq => HS.out q (Nat.le_trans hf.size hq))
  clear hb hbel hf HX HS
  go_wp2_with fail
  refine (u32_calls _ S g _ _ HB1.out HS1.out).mono ?_
  rintro e w2 ⟨rfl, hb, hf⟩
  have HB2 := Aside0.mk hb
  have HX2 := Aside0.mk (hf.blk HX1.out nbx)
  have HG2 := Aside0.mk (Frm.chain HG1.out hf)
  have HS2 := Aside0.mk (fun q hq => HS1.out q (Nat.le_trans hf.size hq))
  clear hb hf HB1 HX1 HG1 HS1
  have x10 : w2.cell? ⟨bx, 10, none⟩ = some (.int .i64 a10) := blk_cell HX2.out 10
  go_wp2_with fail
  refine (u16_calls _ S g _ _ HB2.out HS2.out).mono ?_
  rintro e w3 ⟨rfl, hb, hf⟩
  have HB3 := Aside0.mk hb
  have HX3 := Aside0.mk (hf.blk HX2.out nbx)
  have HG3 := Aside0.mk (Frm.chain HG2.out hf)
  have HS3 := Aside0.mk (fun q hq => HS2.out q (Nat.le_trans hf.size hq))
  clear x10
  clear hb hf HB2 HX2 HG2 HS2
  have x0 : w3.cell? ⟨bx, 0, none⟩ = some (.int .i64 a0) := blk_cell HX3.out 0
  have x1 : w3.cell? ⟨bx, 1, none⟩ = some (.int .i64 a1) := blk_cell HX3.out 1
  have x2 : w3.cell? ⟨bx, 2, none⟩ = some (.int .i64 a2) := blk_cell HX3.out 2
  have x3 : w3.cell? ⟨bx, 3, none⟩ = some (.int .i64 a3) := blk_cell HX3.out 3
  have x4 : w3.cell? ⟨bx, 4, none⟩ = some (.int .i64 a4) := blk_cell HX3.out 4
  have x5 : w3.cell? ⟨bx, 5, none⟩ = some (.int .u32 a5) := blk_cell HX3.out 5
  have x6 : w3.cell? ⟨bx, 6, none⟩ = some (.int .i64 a6) := blk_cell HX3.out 6
  have x7 : w3.cell? ⟨bx, 7, none⟩ = some (.int .i64 a7) := blk_cell HX3.out 7
  have x8 : w3.cell? ⟨bx, 8, none⟩ = some (.string a8) := blk_cell HX3.out 8
  have x9 : w3.cell? ⟨bx, 9, none⟩ = some (.string a9) := blk_cell HX3.out 9
  go_wp2_with fail
  refine (putShared_calls _ S g _ _ _ _ _ _ _ _ _ _ _ HB3.out HS3.out).mono ?_
  rintro e w4 ⟨rfl, hb, hf⟩
  have HB4 := Aside0.mk hb
  have HX4 := Aside0.mk (hf.blk HX3.out nbx)
  have HG4 := Aside0.mk (Frm.chain HG3.out hf)
  have HS4 := Aside0.mk (fun q hq => HS3.out q (Nat.le_trans hf.size hq))
  clear x0 x1 x2 x3 x4 x5 x6 x7 x8 x9
  clear hb hf HB3 HX3 HG3 HS3
  have x15 : w4.cell? ⟨bx, 15, none⟩ = some (.string a15) := blk_cell HX4.out 15
  go_wp2_with fail
  refine (u16_calls _ S g _ _ HB4.out HS4.out).mono ?_
  rintro e w5 ⟨rfl, hb, hf⟩
  have HB5 := Aside0.mk hb
  have HX5 := Aside0.mk (hf.blk HX4.out nbx)
  have HG5 := Aside0.mk (Frm.chain HG4.out hf)
  have HS5 := Aside0.mk (fun q hq => HS4.out q (Nat.le_trans hf.size hq))
  clear x15
  clear hb hf HB4 HX4 HG4 HS4
  have x11 : w5.cell? ⟨bx, 11, none⟩ = some (.int .i64 a11) := blk_cell HX5.out 11
  go_wp2_with fail
  refine (u16_calls _ S g _ _ HB5.out HS5.out).mono ?_
  rintro e w6 ⟨rfl, hb, hf⟩
  have HB6 := Aside0.mk hb
  have HX6 := Aside0.mk (hf.blk HX5.out nbx)
  have HG6 := Aside0.mk (Frm.chain HG5.out hf)
  have HS6 := Aside0.mk (fun q hq => HS5.out q (Nat.le_trans hf.size hq))
  clear x11
  clear hb hf HB5 HX5 HG5 HS5
  have x12 : w6.cell? ⟨bx, 12, none⟩ = some (.int .i64 a12) := blk_cell HX6.out 12
  go_wp2_with fail
  refine (u16_calls _ S g _ _ HB6.out HS6.out).mono ?_
  rintro e w7 ⟨rfl, hb, hf⟩
  have HB7 := Aside0.mk hb
  have HX7 := Aside0.mk (hf.blk HX6.out nbx)
  have HG7 := Aside0.mk (Frm.chain HG6.out hf)
  have HS7 := Aside0.mk (fun q hq => HS6.out q (Nat.le_trans hf.size hq))
  clear x12
  clear hb hf HB6 HX6 HG6 HS6
  have x13 : w7.cell? ⟨bx, 13, none⟩ = some (.int .i64 a13) := blk_cell HX7.out 13
  go_wp2_with fail
  refine (u32_calls _ S g _ _ HB7.out HS7.out).mono ?_
  rintro e w8 ⟨rfl, hb, hf⟩
  have HB8 := Aside0.mk hb
  have HX8 := Aside0.mk (hf.blk HX7.out nbx)
  have HG8 := Aside0.mk (Frm.chain HG7.out hf)
  have HS8 := Aside0.mk (fun q hq => HS7.out q (Nat.le_trans hf.size hq))
  clear x13
  clear hb hf HB7 HX7 HG7 HS7
  have x14 : w8.cell? ⟨bx, 14, none⟩ = some (.int .i64 a14) := blk_cell HX8.out 14
  go_wp2_with fail
  refine (u32_calls _ S g _ _ HB8.out HS8.out).mono ?_
  rintro e w9 ⟨rfl, hb, hf⟩
  have HB9 := Aside0.mk hb
  have HX9 := Aside0.mk (hf.blk HX8.out nbx)
  have HG9 := Aside0.mk (Frm.chain HG8.out hf)
  have HS9 := Aside0.mk (fun q hq => HS8.out q (Nat.le_trans hf.size hq))
  clear x14
  clear hb hf HB8 HX8 HG8 HS8
  have x8 : w9.cell? ⟨bx, 8, none⟩ = some (.string a8) := blk_cell HX9.out 8
  go_wp2_with fail
  refine (text_calls _ S g _ _ HB9.out HS9.out).mono ?_
  rintro e w10 ⟨rfl, hb, hf⟩
  have HB10 := Aside0.mk hb
  have HX10 := Aside0.mk (hf.blk HX9.out nbx)
  have HG10 := Aside0.mk (Frm.chain HG9.out hf)
  have HS10 := Aside0.mk (fun q hq => HS9.out q (Nat.le_trans hf.size hq))
  clear x8
  clear hb hf HB9 HX9 HG9 HS9
  have x9 : w10.cell? ⟨bx, 9, none⟩ = some (.string a9) := blk_cell HX10.out 9
  go_wp2_with fail
  refine (text_calls _ S g _ _ HB10.out HS10.out).mono ?_
  rintro e w11 ⟨rfl, hb, hf⟩
  have HB11 := Aside0.mk hb
  have HX11 := Aside0.mk (hf.blk HX10.out nbx)
  have HG11 := Aside0.mk (Frm.chain HG10.out hf)
  have HS11 := Aside0.mk (fun q hq => HS10.out q (Nat.le_trans hf.size hq))
  clear x9
  clear hb hf HB10 HX10 HG10 HS10
  have x15 : w11.cell? ⟨bx, 15, none⟩ = some (.string a15) := blk_cell HX11.out 15
  go_wp2_with fail
  refine (text_calls _ S g _ _ HB11.out HS11.out).mono ?_
  rintro e w12 ⟨rfl, hb, hf⟩
  have HB12 := Aside0.mk hb
  have HX12 := Aside0.mk (hf.blk HX11.out nbx)
  have HG12 := Aside0.mk (Frm.chain HG11.out hf)
  have HS12 := Aside0.mk (fun q hq => HS11.out q (Nat.le_trans hf.size hq))
  clear x15
  clear hb hf HB11 HX11 HG11 HS11
  go_wp2_with fail
  refine (taken_calls _ S g _ HB12.out).mono ?_
  rintro e wz ⟨vz, rfl, hR, hBz⟩
  go_wp2_with fail
  go_ret2
  exact ⟨vz, rfl, by rw [HBX.out]; exact R_low hR (Nat.le_trans HLE.out HG12.out.size), by rw [HBX.out]; exact HEND.out _ _ HG12.out hBz⟩
set_option maxHeartbeats 16000000 in
set_option maxRecDepth 100000 in
theorem putEnd_calls (w : World) (a0 : Int) (a1 : Int) (a2 : Int) (a3 : Int) (a4 : Int) (a5 : Int) (a6 : ByteArray) : Calls Try.prog 29 #[.agg #[.int .i64 a0, .int .i64 a1, .int .i64 a2, .int .i64 a3, .int .i64 a4, .int .i64 a5, .string a6]] w fun e w' =>
    ∃ v, e = .returned (.tuple #[v, .int .i64 (endB a0 a1 a2 a3 a4 a5 a6).ans.2]) ∧ Kd.R (Kd.int .u8) 5 w' w.heap.size (fun _ => True) v (endB a0 a1 a2 a3 a4 a5 a6).ans.1 ∧ Below w.heap.size w w' := by
  have hst := box_first (w := w) (.cells #[.int .i64 a0, .int .i64 a1, .int .i64 a2, .int .i64 a3, .int .i64 a4, .int .i64 a5, .string a6] 57)
  have hX := blk_new w (.cells #[.int .i64 a0, .int .i64 a1, .int .i64 a2, .int .i64 a3, .int .i64 a4, .int .i64 a5, .string a6] 57)
  have hend : ∀ w1 w2 : World, Frm (fun k => w.heap.size < k) (w.alloc (.cells #[.int .i64 a0, .int .i64 a1, .int .i64 a2, .int .i64 a3, .int .i64 a4, .int .i64 a5, .string a6] 57)) w1 → Below w1.heap.size w1 w2 → Below w.heap.size w w2 := fun w1 w2 => box_last rfl
  have hle : w.heap.size ≤ (w.alloc (.cells #[.int .i64 a0, .int .i64 a1, .int .i64 a2, .int .i64 a3, .int .i64 a4, .int .i64 a5, .string a6] 57)).heap.size := by simp
  obtain ⟨S, hSd⟩ : ∃ S : Nat → Prop, S = fun k => w.heap.size < k := ⟨_, rfl⟩
  have nbx : ¬ S w.heap.size := by rw [hSd]; exact hst.2
  rw [← hSd] at hend
  have HS := Aside0.mk (show ∀ q, (w.alloc (.cells #[.int .i64 a0, .int .i64 a1, .int .i64 a2, .int .i64 a3, .int .i64 a4, .int .i64 a5, .string a6] 57)).heap.size ≤ q → S q from fun q hq => by rw [hSd]; exact hst.1 q hq)
  have HX := Aside0.mk hX
  have HEND := Aside0.mk hend
  have HLE := Aside0.mk hle
  clear hst hX hend hSd hle
  go_enter Try.func29, Try.ntmps29
  go_wp2_with fail
  generalize w.alloc (.cells #[.int .i64 a0, .int .i64 a1, .int .i64 a2, .int .i64 a3, .int .i64 a4, .int .i64 a5, .string a6] 57) = w0 at HEND HS HX HLE ⊢
  generalize hbxe : w.heap.size = bx at nbx HX HEND HLE ⊢
  have HBX := Aside0.mk hbxe
  clear hbxe
  refine (new_calls w0 S 65557 (by omega) (by omega) HS.out).mono ?_
  rintro e w1 ⟨g, rfl, hb, hbel⟩
  have hf := Frm.of_below hbel S
  have HB1 := Aside0.mk hb; have HX1 := Aside0.mk (hf.blk HX.out nbx); have HG1 := Aside0.mk hf; have HS1 := Aside0.mk (fun q hq => HS.out q (Nat.le_trans hf.size hq))
  clear hb hbel hf HX HS
  go_wp2_with fail
  refine (u32_calls _ S g _ _ HB1.out HS1.out).mono ?_
  rintro e w2 ⟨rfl, hb, hf⟩
  have HB2 := Aside0.mk hb
  have HX2 := Aside0.mk (hf.blk HX1.out nbx)
  have HG2 := Aside0.mk (Frm.chain HG1.out hf)
  have HS2 := Aside0.mk (fun q hq => HS1.out q (Nat.le_trans hf.size hq))
  clear hb hf HB1 HX1 HG1 HS1
  have x0 : w2.cell? ⟨bx, 0, none⟩ = some (.int .i64 a0) := blk_cell HX2.out 0
  have x1 : w2.cell? ⟨bx, 1, none⟩ = some (.int .i64 a1) := blk_cell HX2.out 1
  have x2 : w2.cell? ⟨bx, 2, none⟩ = some (.int .i64 a2) := blk_cell HX2.out 2
  have x3 : w2.cell? ⟨bx, 3, none⟩ = some (.int .i64 a3) := blk_cell HX2.out 3
  have i0 : ∀ w : World, (Instr.index 108 (.agg #[.int .i64 a0, .int .i64 a1, .int .i64 a2, .int .i64 a3]) (.int .i64 0)).run Try.prog w = .ok (.int .i64 a0) w := fun _ => by kernel_rfl
  have i1 : ∀ w : World, (Instr.index 108 (.agg #[.int .i64 a0, .int .i64 a1, .int .i64 a2, .int .i64 a3]) (.int .i64 1)).run Try.prog w = .ok (.int .i64 a1) w := fun _ => by kernel_rfl
  have i2 : ∀ w : World, (Instr.index 108 (.agg #[.int .i64 a0, .int .i64 a1, .int .i64 a2, .int .i64 a3]) (.int .i64 2)).run Try.prog w = .ok (.int .i64 a2) w := fun _ => by kernel_rfl
  have i3 : ∀ w : World, (Instr.index 108 (.agg #[.int .i64 a0, .int .i64 a1, .int .i64 a2, .int .i64 a3]) (.int .i64 3)).run Try.prog w = .ok (.int .i64 a3) w := fun _ => by kernel_rfl
  go_wp2_with fail
  clear x0 x1 x2 x3
  go_loopg [19] 5 (fun gk v19 wr => ∃ bk, Aside0 (Buf wr S g bk) ∧ Aside0 (wr.heap[bx]? = some (.cells #[.int .i64 a0, .int .i64 a1, .int .i64 a2, .int .i64 a3, .int .i64 a4, .int .i64 a5, .string a6] 57 (0, 0))) ∧ Aside0 (Frm S w0 wr) ∧ Aside0 (∀ q, wr.heap.size ≤ q → S q) ∧ ((v19 = .int .i64 0 ∧ 5 ≤ gk ∧ Aside0 (bk = (⟨[], 65557, 0⟩ : BS).num 101010256 4)) ∨ (v19 = .int .i64 1 ∧ 4 ≤ gk ∧ Aside0 (bk = ((⟨[], 65557, 0⟩ : BS).num 101010256 4).num a0 2)) ∨ (v19 = .int .i64 2 ∧ 3 ≤ gk ∧ Aside0 (bk = (((⟨[], 65557, 0⟩ : BS).num 101010256 4).num a0 2).num a1 2)) ∨ (v19 = .int .i64 3 ∧ 2 ≤ gk ∧ Aside0 (bk = ((((⟨[], 65557, 0⟩ : BS).num 101010256 4).num a0 2).num a1 2).num a2 2)) ∨ (v19 = .int .i64 4 ∧ 1 ≤ gk ∧ Aside0 (bk = (((((⟨[], 65557, 0⟩ : BS).num 101010256 4).num a0 2).num a1 2).num a2 2).num a3 2))))
  case atStart => exact ⟨_, HB2, HX2, HG2, HS2, .inl ⟨rfl, by omega, ⟨rfl⟩⟩⟩
  case round =>
    obtain ⟨bk, HBk, HXk, HGk, HSk, hcase⟩ := hrel
    clear HB2 HX2 HG2 HS2
    rcases hcase with ⟨rfl, hgk, HE⟩ | ⟨rfl, hgk, HE⟩ | ⟨rfl, hgk, HE⟩ | ⟨rfl, hgk, HE⟩ | ⟨rfl, hgk, HE⟩
    · go_wp2_with fail
      refine (u16_calls _ S g _ _ HBk.out HSk.out).mono ?_
      rintro e wn ⟨rfl, hb, hf⟩
      go_wp2_with fail
      go_roundg 4
      case measure => omega
      case rel => exact ⟨_, ⟨hb⟩, ⟨hf.blk HXk.out nbx⟩, ⟨Frm.chain HGk.out hf⟩, ⟨fun q hq => HSk.out q (Nat.le_trans hf.size hq)⟩, .inr (.inl ⟨rfl, by omega, ⟨by rw [HE.out]⟩⟩)⟩
    · go_wp2_with fail
      refine (u16_calls _ S g _ _ HBk.out HSk.out).mono ?_
      rintro e wn ⟨rfl, hb, hf⟩
      go_wp2_with fail
      go_roundg 3
      case measure => omega
      case rel => exact ⟨_, ⟨hb⟩, ⟨hf.blk HXk.out nbx⟩, ⟨Frm.chain HGk.out hf⟩, ⟨fun q hq => HSk.out q (Nat.le_trans hf.size hq)⟩, .inr (.inr (.inl ⟨rfl, by omega, ⟨by rw [HE.out]⟩⟩))⟩
    · go_wp2_with fail
      refine (u16_calls _ S g _ _ HBk.out HSk.out).mono ?_
      rintro e wn ⟨rfl, hb, hf⟩
      go_wp2_with fail
      go_roundg 2
      case measure => omega
      case rel => exact ⟨_, ⟨hb⟩, ⟨hf.blk HXk.out nbx⟩, ⟨Frm.chain HGk.out hf⟩, ⟨fun q hq => HSk.out q (Nat.le_trans hf.size hq)⟩, .inr (.inr (.inr (.inl ⟨rfl, by omega, ⟨by rw [HE.out]⟩⟩)))⟩
    · go_wp2_with fail
      refine (u16_calls _ S g _ _ HBk.out HSk.out).mono ?_
      rintro e wn ⟨rfl, hb, hf⟩
      go_wp2_with fail
      go_roundg 1
      case measure => omega
      case rel => exact ⟨_, ⟨hb⟩, ⟨hf.blk HXk.out nbx⟩, ⟨Frm.chain HGk.out hf⟩, ⟨fun q hq => HSk.out q (Nat.le_trans hf.size hq)⟩, .inr (.inr (.inr (.inr (⟨rfl, by omega, ⟨by rw [HE.out]⟩⟩))))⟩
    · clear i0 i1 i2 i3
      have hbk := HBk.out
      rw [HE.out] at hbk
      have HB3 := Aside0.mk hbk
      clear hbk
      have HX3 := HXk
      have HG3 := HGk
      have HS3 := HSk
      clear HBk HXk HGk HSk
      have x4 : wr.cell? ⟨bx, 4, none⟩ = some (.int .i64 a4) := blk_cell HX3.out 4
      go_wp2_with fail
      refine (u32_calls _ S g _ _ HB3.out HS3.out).mono ?_
      rintro e w4 ⟨rfl, hb, hf⟩
      have HB4 := Aside0.mk hb
      have HX4 := Aside0.mk (hf.blk HX3.out nbx)
      have HG4 := Aside0.mk (Frm.chain HG3.out hf)
      have HS4 := Aside0.mk (fun q hq => HS3.out q (Nat.le_trans hf.size hq))
      clear x4
      clear hb hf HB3 HX3 HG3 HS3
      have x5 : w4.cell? ⟨bx, 5, none⟩ = some (.int .i64 a5) := blk_cell HX4.out 5
      go_wp2_with fail
      refine (u32_calls _ S g _ _ HB4.out HS4.out).mono ?_
      rintro e w5 ⟨rfl, hb, hf⟩
      have HB5 := Aside0.mk hb
      have HX5 := Aside0.mk (hf.blk HX4.out nbx)
      have HG5 := Aside0.mk (Frm.chain HG4.out hf)
      have HS5 := Aside0.mk (fun q hq => HS4.out q (Nat.le_trans hf.size hq))
      clear x5
      clear hb hf HB4 HX4 HG4 HS4
      have x6 : w5.cell? ⟨bx, 6, none⟩ = some (.string a6) := blk_cell HX5.out 6
      go_wp2_with fail
      refine (u16_calls _ S g _ _ HB5.out HS5.out).mono ?_
      rintro e w6 ⟨rfl, hb, hf⟩
      have HB6 := Aside0.mk hb
      have HX6 := Aside0.mk (hf.blk HX5.out nbx)
      have HG6 := Aside0.mk (Frm.chain HG5.out hf)
      have HS6 := Aside0.mk (fun q hq => HS5.out q (Nat.le_trans hf.size hq))
      clear x6
      clear hb hf HB5 HX5 HG5 HS5
      have x6 : w6.cell? ⟨bx, 6, none⟩ = some (.string a6) := blk_cell HX6.out 6
      go_wp2_with fail
      refine (text_calls _ S g _ _ HB6.out HS6.out).mono ?_
      rintro e w7 ⟨rfl, hb, hf⟩
      have HB7 := Aside0.mk hb
      have HX7 := Aside0.mk (hf.blk HX6.out nbx)
      have HG7 := Aside0.mk (Frm.chain HG6.out hf)
      have HS7 := Aside0.mk (fun q hq => HS6.out q (Nat.le_trans hf.size hq))
      clear x6
      clear hb hf HB6 HX6 HG6 HS6
      go_wp2_with fail
      refine (taken_calls _ S g _ HB7.out).mono ?_
      rintro e wz ⟨vz, rfl, hR, hBz⟩
      go_wp2_with fail
      go_ret2
      exact ⟨vz, rfl, by rw [HBX.out]; exact R_low hR (Nat.le_trans HLE.out HG7.out.size), by rw [HBX.out]; exact HEND.out _ _ HG7.out hBz⟩
set_option maxHeartbeats 16000000 in
set_option maxRecDepth 100000 in
theorem putDesc_signed (w : World) (a0 : Int) (a1 : Int) (a2 : Int) (a3 : Int) (a4 : Int) (a5 : Int) (a6 : Int) (a7 : Int) (a8 : ByteArray) (a9 : ByteArray) : Calls Try.prog 13 #[.agg #[.int .i64 a0, .int .i64 a1, .int .i64 a2, .int .i64 a3, .int .i64 a4, .int .u32 a5, .int .i64 a6, .int .i64 a7, .string a8, .string a9], .bool true] w fun e w' =>
    ∃ v, e = .returned (.tuple #[v, .int .i64 (descB a0 a1 a2 a3 a4 a5 a6 a7 a8 a9 true).ans.2]) ∧ Kd.R (Kd.int .u8) 5 w' w.heap.size (fun _ => True) v (descB a0 a1 a2 a3 a4 a5 a6 a7 a8 a9 true).ans.1 ∧ Below w.heap.size w w' := by
  have hst := box_first (w := w) (.cells #[.int .i64 a0, .int .i64 a1, .int .i64 a2, .int .i64 a3, .int .i64 a4, .int .u32 a5, .int .i64 a6, .int .i64 a7, .string a8, .string a9] 24)
  have hX := blk_new w (.cells #[.int .i64 a0, .int .i64 a1, .int .i64 a2, .int .i64 a3, .int .i64 a4, .int .u32 a5, .int .i64 a6, .int .i64 a7, .string a8, .string a9] 24)
  have hend : ∀ w1 w2 : World, Frm (fun k => w.heap.size < k) (w.alloc (.cells #[.int .i64 a0, .int .i64 a1, .int .i64 a2, .int .i64 a3, .int .i64 a4, .int .u32 a5, .int .i64 a6, .int .i64 a7, .string a8, .string a9] 24)) w1 → Below w1.heap.size w1 w2 → Below w.heap.size w w2 := fun w1 w2 => box_last rfl
  have hle : w.heap.size ≤ (w.alloc (.cells #[.int .i64 a0, .int .i64 a1, .int .i64 a2, .int .i64 a3, .int .i64 a4, .int .u32 a5, .int .i64 a6, .int .i64 a7, .string a8, .string a9] 24)).heap.size := by simp
  obtain ⟨S, hSd⟩ : ∃ S : Nat → Prop, S = fun k => w.heap.size < k := ⟨_, rfl⟩
  have nbx : ¬ S w.heap.size := by rw [hSd]; exact hst.2
  rw [← hSd] at hend
  have HS := Aside0.mk (show ∀ q, (w.alloc (.cells #[.int .i64 a0, .int .i64 a1, .int .i64 a2, .int .i64 a3, .int .i64 a4, .int .u32 a5, .int .i64 a6, .int .i64 a7, .string a8, .string a9] 24)).heap.size ≤ q → S q from fun q hq => by rw [hSd]; exact hst.1 q hq)
  have HX := Aside0.mk hX
  have HEND := Aside0.mk hend
  have HLE := Aside0.mk hle
  clear hst hX hend hSd hle
  go_enter Try.func13, Try.ntmps13
  go_wp2_with fail
  generalize w.alloc (.cells #[.int .i64 a0, .int .i64 a1, .int .i64 a2, .int .i64 a3, .int .i64 a4, .int .u32 a5, .int .i64 a6, .int .i64 a7, .string a8, .string a9] 24) = w0 at HEND HS HX HLE ⊢
  generalize hbxe : w.heap.size = bx at nbx HX HEND HLE ⊢
  have HBX := Aside0.mk hbxe
  clear hbxe
  refine (new_calls w0 S 16 (by omega) (by omega) HS.out).mono ?_
  rintro e w1 ⟨g, rfl, hb, hbel⟩
  have hf := Frm.of_below hbel S
  have HB1 := Aside0.mk hb; have HX1 := Aside0.mk (hf.blk HX.out nbx); have HG1 := Aside0.mk hf; have HS1 := Aside0.mk (fun q hq => HS.out q (Nat.le_trans hf.size hq))
  clear hb hbel hf HX HS
  go_wp2_with fail
  refine (u32_calls _ S g _ _ HB1.out HS1.out).mono ?_
  rintro e w2 ⟨rfl, hb, hf⟩
  have HB2 := Aside0.mk hb
  have HX2 := Aside0.mk (hf.blk HX1.out nbx)
  have HG2 := Aside0.mk (Frm.chain HG1.out hf)
  have HS2 := Aside0.mk (fun q hq => HS1.out q (Nat.le_trans hf.size hq))
  clear hb hf HB1 HX1 HG1 HS1
  have x5 : w2.cell? ⟨bx, 5, none⟩ = some (.int .u32 a5) := blk_cell HX2.out 5
  go_wp2_with fail
  refine (u32_calls _ S g _ _ HB2.out HS2.out).mono ?_
  rintro e w3 ⟨rfl, hb, hf⟩
  have HB3 := Aside0.mk hb
  have HX3 := Aside0.mk (hf.blk HX2.out nbx)
  have HG3 := Aside0.mk (Frm.chain HG2.out hf)
  have HS3 := Aside0.mk (fun q hq => HS2.out q (Nat.le_trans hf.size hq))
  clear x5
  clear hb hf HB2 HX2 HG2 HS2
  have x6 : w3.cell? ⟨bx, 6, none⟩ = some (.int .i64 a6) := blk_cell HX3.out 6
  go_wp2_with fail
  refine (u32_calls _ S g _ _ HB3.out HS3.out).mono ?_
  rintro e w4 ⟨rfl, hb, hf⟩
  have HB4 := Aside0.mk hb
  have HX4 := Aside0.mk (hf.blk HX3.out nbx)
  have HG4 := Aside0.mk (Frm.chain HG3.out hf)
  have HS4 := Aside0.mk (fun q hq => HS3.out q (Nat.le_trans hf.size hq))
  clear x6
  clear hb hf HB3 HX3 HG3 HS3
  have x7 : w4.cell? ⟨bx, 7, none⟩ = some (.int .i64 a7) := blk_cell HX4.out 7
  go_wp2_with fail
  refine (u32_calls _ S g _ _ HB4.out HS4.out).mono ?_
  rintro e w5 ⟨rfl, hb, hf⟩
  have HB5 := Aside0.mk hb
  have HX5 := Aside0.mk (hf.blk HX4.out nbx)
  have HG5 := Aside0.mk (Frm.chain HG4.out hf)
  have HS5 := Aside0.mk (fun q hq => HS4.out q (Nat.le_trans hf.size hq))
  clear x7
  clear hb hf HB4 HX4 HG4 HS4
  go_wp2_with fail
  refine (taken_calls _ S g _ HB5.out).mono ?_
  rintro e wz ⟨vz, rfl, hR, hBz⟩
  go_wp2_with fail
  go_ret2
  exact ⟨vz, rfl, by rw [HBX.out]; exact R_low hR (Nat.le_trans HLE.out HG5.out.size), by rw [HBX.out]; exact HEND.out _ _ HG5.out hBz⟩
set_option maxHeartbeats 16000000 in
set_option maxRecDepth 100000 in
theorem putDesc_bare (w : World) (a0 : Int) (a1 : Int) (a2 : Int) (a3 : Int) (a4 : Int) (a5 : Int) (a6 : Int) (a7 : Int) (a8 : ByteArray) (a9 : ByteArray) : Calls Try.prog 13 #[.agg #[.int .i64 a0, .int .i64 a1, .int .i64 a2, .int .i64 a3, .int .i64 a4, .int .u32 a5, .int .i64 a6, .int .i64 a7, .string a8, .string a9], .bool false] w fun e w' =>
    ∃ v, e = .returned (.tuple #[v, .int .i64 (descB a0 a1 a2 a3 a4 a5 a6 a7 a8 a9 false).ans.2]) ∧ Kd.R (Kd.int .u8) 5 w' w.heap.size (fun _ => True) v (descB a0 a1 a2 a3 a4 a5 a6 a7 a8 a9 false).ans.1 ∧ Below w.heap.size w w' := by
  have hst := box_first (w := w) (.cells #[.int .i64 a0, .int .i64 a1, .int .i64 a2, .int .i64 a3, .int .i64 a4, .int .u32 a5, .int .i64 a6, .int .i64 a7, .string a8, .string a9] 24)
  have hX := blk_new w (.cells #[.int .i64 a0, .int .i64 a1, .int .i64 a2, .int .i64 a3, .int .i64 a4, .int .u32 a5, .int .i64 a6, .int .i64 a7, .string a8, .string a9] 24)
  have hend : ∀ w1 w2 : World, Frm (fun k => w.heap.size < k) (w.alloc (.cells #[.int .i64 a0, .int .i64 a1, .int .i64 a2, .int .i64 a3, .int .i64 a4, .int .u32 a5, .int .i64 a6, .int .i64 a7, .string a8, .string a9] 24)) w1 → Below w1.heap.size w1 w2 → Below w.heap.size w w2 := fun w1 w2 => box_last rfl
  have hle : w.heap.size ≤ (w.alloc (.cells #[.int .i64 a0, .int .i64 a1, .int .i64 a2, .int .i64 a3, .int .i64 a4, .int .u32 a5, .int .i64 a6, .int .i64 a7, .string a8, .string a9] 24)).heap.size := by simp
  obtain ⟨S, hSd⟩ : ∃ S : Nat → Prop, S = fun k => w.heap.size < k := ⟨_, rfl⟩
  have nbx : ¬ S w.heap.size := by rw [hSd]; exact hst.2
  rw [← hSd] at hend
  have HS := Aside0.mk (show ∀ q, (w.alloc (.cells #[.int .i64 a0, .int .i64 a1, .int .i64 a2, .int .i64 a3, .int .i64 a4, .int .u32 a5, .int .i64 a6, .int .i64 a7, .string a8, .string a9] 24)).heap.size ≤ q → S q from fun q hq => by rw [hSd]; exact hst.1 q hq)
  have HX := Aside0.mk hX
  have HEND := Aside0.mk hend
  have HLE := Aside0.mk hle
  clear hst hX hend hSd hle
  go_enter Try.func13, Try.ntmps13
  go_wp2_with fail
  generalize w.alloc (.cells #[.int .i64 a0, .int .i64 a1, .int .i64 a2, .int .i64 a3, .int .i64 a4, .int .u32 a5, .int .i64 a6, .int .i64 a7, .string a8, .string a9] 24) = w0 at HEND HS HX HLE ⊢
  generalize hbxe : w.heap.size = bx at nbx HX HEND HLE ⊢
  have HBX := Aside0.mk hbxe
  clear hbxe
  refine (new_calls w0 S 16 (by omega) (by omega) HS.out).mono ?_
  rintro e w1 ⟨g, rfl, hb, hbel⟩
  have hf := Frm.of_below hbel S
  have HB1 := Aside0.mk hb; have HX1 := Aside0.mk (hf.blk HX.out nbx); have HG1 := Aside0.mk hf; have HS1 := Aside0.mk (fun q hq => HS.out q (Nat.le_trans hf.size hq))
  clear hb hbel hf HX HS
  have x5 : w1.cell? ⟨bx, 5, none⟩ = some (.int .u32 a5) := blk_cell HX1.out 5
  go_wp2_with fail
  refine (u32_calls _ S g _ _ HB1.out HS1.out).mono ?_
  rintro e w2 ⟨rfl, hb, hf⟩
  have HB2 := Aside0.mk hb
  have HX2 := Aside0.mk (hf.blk HX1.out nbx)
  have HG2 := Aside0.mk (Frm.chain HG1.out hf)
  have HS2 := Aside0.mk (fun q hq => HS1.out q (Nat.le_trans hf.size hq))
  clear x5
  clear hb hf HB1 HX1 HG1 HS1
  have x6 : w2.cell? ⟨bx, 6, none⟩ = some (.int .i64 a6) := blk_cell HX2.out 6
  go_wp2_with fail
  refine (u32_calls _ S g _ _ HB2.out HS2.out).mono ?_
  rintro e w3 ⟨rfl, hb, hf⟩
  have HB3 := Aside0.mk hb
  have HX3 := Aside0.mk (hf.blk HX2.out nbx)
  have HG3 := Aside0.mk (Frm.chain HG2.out hf)
  have HS3 := Aside0.mk (fun q hq => HS2.out q (Nat.le_trans hf.size hq))
  clear x6
  clear hb hf HB2 HX2 HG2 HS2
  have x7 : w3.cell? ⟨bx, 7, none⟩ = some (.int .i64 a7) := blk_cell HX3.out 7
  go_wp2_with fail
  refine (u32_calls _ S g _ _ HB3.out HS3.out).mono ?_
  rintro e w4 ⟨rfl, hb, hf⟩
  have HB4 := Aside0.mk hb
  have HX4 := Aside0.mk (hf.blk HX3.out nbx)
  have HG4 := Aside0.mk (Frm.chain HG3.out hf)
  have HS4 := Aside0.mk (fun q hq => HS3.out q (Nat.le_trans hf.size hq))
  clear x7
  clear hb hf HB3 HX3 HG3 HS3
  go_wp2_with fail
  refine (taken_calls _ S g _ HB4.out).mono ?_
  rintro e wz ⟨vz, rfl, hR, hBz⟩
  go_wp2_with fail
  go_ret2
  exact ⟨vz, rfl, by rw [HBX.out]; exact R_low hR (Nat.le_trans HLE.out HG4.out.size), by rw [HBX.out]; exact HEND.out _ _ HG4.out hBz⟩
end Go.Proofs.Ytkmnhlhpmfkloaa.Fld

/- JoinExtra and SplitExtra of record: walked by hand. -/
namespace Go.Proofs.Ytkmnhlhpmfkloaa.Fld
open Go.RowKit Go.Proofs.YtkmnhlhpmfkloaaW.PrintWords Go.Proofs.YtkmnhlhpmfkloaaW.PrintLast Go.Proofs.YtkmnhlhpmfkloaaW.PrintMore Go.Proofs.Ytkmnhlhpmfkloaa.Mem
set_option linter.unusedVariables false
set_option linter.unusedSimpArgs false

/-- Fields that a row of memory holds. -/
def ReadsX (w : World) (A : Option Addr) (fs : List (Int × ByteArray)) : Prop :=
  ∀ (j : Nat) (t : Int) (s : ByteArray), fs[j]? = some (t, s) → ∃ ad, A = some ad ∧ w.cell? (ad.add (j * 2)) = some (.int .i64 t) ∧ w.cell? ⟨(ad.add (j * 2)).block, (ad.add (j * 2)).off + 1, none⟩ = some (.string s)
theorem ReadsX.below {w w1 : World} {A : Option Addr} {fs : List (Int × ByteArray)} (h : ReadsX w A fs) (hb : Below w.heap.size w w1) : ReadsX w1 A fs := fun j t s hj => by
  obtain ⟨ad, e, h1, h2⟩ := h j t s hj
  exact ⟨ad, e, pw_cell_below hb h1, pw_cell_below hb h2⟩
def joinB (b : BS) (fs : List (Int × ByteArray)) : BS := fs.foldl (fun b f => ((b.num f.1 2).num f.2.size 2).text f.2) b

set_option maxHeartbeats 8000000 in
set_option maxRecDepth 100000 in
theorem join_calls (w : World) (A : Option Addr) (cp : Nat) (fs : List (Int × ByteArray)) (hR : ReadsX w A fs) (hl : fs.length ≤ 9223372036854775807) :
    Calls Try.prog 26 #[.slice A fs.length cp] w fun e w' => e = .returned (.tuple #[.string (strOfNums (joinB ⟨[], 65535, 0⟩ fs).ans.1), .int .i64 (joinB ⟨[], 65535, 0⟩ fs).ans.2]) ∧ Below w.heap.size w w' := by
  have HR := Aside0.mk hR
  obtain ⟨S, hSd⟩ : ∃ S : Nat → Prop, S = fun k => w.heap.size ≤ k := ⟨_, rfl⟩
  have HSD := Aside0.mk hSd
  have hN := new_calls w S 65535 (by omega) (by omega) (fun k hk => by rw [hSd]; exact hk)
  have HN := Aside0.mk hN
  clear hR hN hSd
  go_enter Try.func26, Try.ntmps26
  go_wp2_with fail
  refine HN.out.mono ?_
  rintro e w1 ⟨g, rfl, hb, hbel⟩
  have HB := Aside0.mk hb
  have HG := Aside0.mk hbel
  clear hb hbel HN
  go_wp2_with fail
  go_loopg [12] (fs.length + 1) (fun gk v12 wr => ∃ (j : Nat), v12 = .int .i64 j ∧ j ≤ fs.length ∧ fs.length + 1 ≤ j + gk ∧ Aside0 (Buf wr S g (joinB ⟨[], 65535, 0⟩ (fs.take j))) ∧ Aside0 (Below w.heap.size w wr))
  case atStart => exact ⟨0, rfl, Nat.zero_le _, by omega, by rw [List.take_zero]; exact HB, HG⟩
  case round =>
    obtain ⟨j, rfl, hj, hjk, HBk, HGk⟩ := hrel
    clear HB HG
    by_cases hlt : j < fs.length
    · have hltb : decide ((j : Int) < (fs.length : Int)) = true := decide_eq_true (by omega)
      obtain ⟨⟨t, s⟩, hts⟩ : ∃ p, fs[j]? = some p := ⟨_, List.getElem?_eq_getElem hlt⟩
      obtain ⟨ad, hA, hc0, hc1⟩ := HR.out.below HGk.out j t s hts
      have htk : fs.take (j + 1) = fs.take j ++ [(t, s)] := by
        rw [List.take_add_one, hts]
        rfl
      have hstep : joinB ⟨[], 65535, 0⟩ (fs.take (j + 1)) = (((joinB ⟨[], 65535, 0⟩ (fs.take j)).num t 2).num s.size 2).text s := by
        rw [htk]
        unfold joinB
        rw [List.foldl_append]
        rfl
      have HST := Aside0.mk hstep
      have hS0 : ∀ k, wr.heap.size ≤ k → S k := fun k hk => by rw [HSD.out]; exact Nat.le_trans HGk.out.size hk
      have hst := box_start HBk.out hS0 (.cells #[.int .i64 t, .string s] 49)
      have hX := blk_new wr (.cells #[.int .i64 t, .string s] 49)
      have hend : ∀ w1 : World, Frm (fun k => S k ∧ k ≠ wr.heap.size) (wr.alloc (.cells #[.int .i64 t, .string s] 49)) w1 → Frm S wr w1 := fun w1 hf => box_end hf
      subst hA
      have q1 : (0 : Int) ≤ (j : Int) := by omega
      have q2 : (j : Int) < (fs.length : Int) := by omega
      obtain ⟨S1, hS1⟩ : ∃ S1 : Nat → Prop, S1 = fun k => S k ∧ k ≠ wr.heap.size := ⟨_, rfl⟩
      have nbx : ¬ S1 wr.heap.size := by rw [hS1]; exact fun h => h.2 rfl
      rw [← hS1] at hend hst
      have HS1 : Aside0 (∀ k, S1 k → S k) := ⟨by rw [hS1]; exact fun k hk => hk.1⟩
      have HB0 := Aside0.mk hst.1
      have HS0 := Aside0.mk (show ∀ q, (wr.alloc (.cells #[.int .i64 t, .string s] 49)).heap.size ≤ q → S1 q from fun q hq => by rw [hS1]; exact hst.2 q hq)
      have HX0 := Aside0.mk hX
      have HEND := Aside0.mk hend
      clear hst hX hend hS1 hstep htk hts hS0
      go_wp2_with fail
      generalize wr.alloc (.cells #[.int .i64 t, .string s] 49) = w0 at HEND HB0 HS0 HX0 ⊢
      generalize wr.heap.size = bx at nbx HX0 ⊢
      clear hc0 hc1
      refine (u16_calls _ S1 g _ _ HB0.out HS0.out).mono ?_
      rintro e w2 ⟨rfl, hb, hf⟩
      have HB1 := Aside0.mk hb
      have HX1 := Aside0.mk (hf.blk HX0.out nbx)
      have HG1 := Aside0.mk hf
      have HS2 := Aside0.mk (fun q hq => HS0.out q (Nat.le_trans hf.size hq))
      have x1 : w2.cell? ⟨bx, 1, none⟩ = some (.string s) := blk_cell HX1.out 1
      clear hb hf HB0 HX0 HS0
      go_wp2_with fail
      refine (u16_calls _ S1 g _ _ HB1.out HS2.out).mono ?_
      rintro e w3 ⟨rfl, hb, hf⟩
      have HB2 := Aside0.mk hb
      have HX2 := Aside0.mk (hf.blk HX1.out nbx)
      have HG2 := Aside0.mk (Frm.chain HG1.out hf)
      have HS3 := Aside0.mk (fun q hq => HS2.out q (Nat.le_trans hf.size hq))
      clear x1
      have x1 : w3.cell? ⟨bx, 1, none⟩ = some (.string s) := blk_cell HX2.out 1
      clear hb hf HB1 HX1 HG1 HS2
      go_wp2_with fail
      refine (text_calls _ S1 g _ _ HB2.out HS3.out).mono ?_
      rintro e w4 ⟨rfl, hb, hf⟩
      have HB3 := Aside0.mk hb
      have HG3 := Aside0.mk (Frm.chain HG2.out hf)
      clear x1 hb hf HB2 HX2 HG2 HS3
      go_wp2_with fail
      go_roundg (fs.length - j)
      case measure => omega
      case rel => exact ⟨j + 1, by go_num, by omega, by omega, ⟨by rw [HST.out]; exact Buf.mono HB3.out HS1.out⟩, ⟨HGk.out.trans ((HEND.out _ HG3.out).to_below HGk.out.size (fun k hk => by rw [HSD.out] at hk; exact hk))⟩⟩
    · have hltb : decide ((j : Int) < (fs.length : Int)) = false := decide_eq_false (by omega)
      have htk : fs.take j = fs := List.take_of_length_le (by omega)
      rw [htk] at HBk
      clear htk
      go_wp2_with fail
      refine (taken_calls _ S g _ HBk.out).mono ?_
      rintro e wz ⟨vz, rfl, hR, hBz⟩
      obtain ⟨Az, cz, rfl, hcz, hCz⟩ := Kd.R_reads hR
      have hcv := Kd.C_string (c := cz) Try.underlying25 Try.underlying5 Try.underlying9 hCz
      go_wp2_with fail
      go_ret2
      exact ⟨rfl, HGk.out.trans (hBz.mono HGk.out.size)⟩
end Go.Proofs.Ytkmnhlhpmfkloaa.Fld
