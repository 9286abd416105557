/- How the arguments of a law are read: for each kind of the printed words, what a reading of the form gives: a value of the kind, with its sizes and its bulk. Holds for every program and world. -/
import Derived.Test.YtekcpcipbccodaaRows
import Derived.Test.YtekcpcipbccodaaWMore
import Derived.ProofKit
import Derived.WalkKit
import Derived.SizedLaws
import Derived.OpenShut
import Derived.Deep.Slices
namespace Go.Proofs.Ytekcpcipbccodaa.Opn
open Go.RowKit Go.ChangeShapes Go.WideShapes Go.Proofs.YtekcpcipbccodaaW.PrintWords

structure Opens {α : Type} (P : Program) (t : TypeId) (d : Kd α) (wf : α → Prop) (bulk : α → Nat) : Prop where
  sz : P.cellsOf t = d.sz
  go : ∀ {H : Type} {enc : TypeId × Value → H} {w : World} {fuel : Nat} {cs : List Value} {x : DataW H × List MemPlace},
    DataW.trod enc P w 0 (fun _ => true) true fuel t cs = some x → (∀ n ∈ x.1.weights P t, n ≤ 140737488351232) →
    ∃ y : α, d.K w y cs ∧ wf y ∧ bulk y ≤ Rows.uptoBulk x.1

theorem int {P : Program} {t : TypeId} {k : IntKind} (ht : P.underlying t = some (.int k)) (hs : P.cellsOf t = 1) :
    Opens P t (Kd.int k) (fun y => (Lit.int k y).wf = true) (fun _ => 1) where
  sz := hs
  go := by
    intro H enc w fuel cs x h _
    obtain ⟨n, rfl, rfl, hw⟩ := DataW.trod_int ht h
    exact ⟨n, rfl, hw, by simp [Rows.uptoBulk]⟩

theorem bool {P : Program} {t : TypeId} (ht : P.underlying t = some .bool) (hs : P.cellsOf t = 1) :
    Opens P t Kd.bool (fun _ => True) (fun _ => 1) where
  sz := hs
  go := by
    intro H enc w fuel cs x h _
    obtain ⟨n, rfl, rfl⟩ := DataW.trod_bool ht h
    exact ⟨n, rfl, trivial, by simp [Rows.uptoBulk]⟩

theorem string {P : Program} {t : TypeId} (ht : P.underlying t = some .string) (hs : P.cellsOf t = 1) :
    Opens P t Kd.string (fun y => y.size ≤ 140737488351232) (fun y => y.size + 1) where
  sz := hs
  go := by
    intro H enc w fuel cs x h hz
    obtain ⟨s, rfl, rfl, _⟩ := DataW.trod_string ht h
    refine ⟨s, rfl, ?_, by simp [Rows.uptoBulk]⟩
    have := hz s.data.toList.length (by simp [DataW.weights])
    simpa using this

/-- The elements of a slice, one by one. -/
theorem rows {α : Type} {P : Program} {e : TypeId} {d : Kd α} {wf : α → Prop} {bulk : α → Nat} (he : Opens P e d wf bulk)
    {H : Type} {enc : TypeId × Value → H} {w : World} {n : Nat} {a : Addr} :
    ∀ (elems : List (DataW H × List MemPlace)) (s : Nat),
      (∀ i, i < elems.length → (w.cells? 0 (a.add ((s + i) * P.cellsOf e)) (P.cellsOf e)).bind (DataW.trod enc P w 0 (fun _ => true) true n e) = elems[i]?) →
      (∀ m ∈ DataW.weightsAll P e (elems.map (·.1)), m ≤ 140737488351232) →
      ∃ xs : List α, xs.length = elems.length ∧ (∀ j p, xs[j]? = some p → ∃ c, c.length = d.sz ∧ d.K w p c ∧ ∀ i u, c[i]? = some u → w.cell? (a.add ((s + j) * d.sz + i)) = some u) ∧
        (∀ x ∈ xs, wf x) ∧ (xs.map bulk).sum ≤ Rows.uptoBulkAll (elems.map (·.1)) := by
  intro elems
  induction elems with
  | nil => exact fun s _ _ => ⟨[], rfl, by simp, by simp, by simp⟩
  | cons y ys ih =>
    intro s hel hw
    have hwy : ∀ m ∈ y.1.weights P e, m ≤ 140737488351232 := fun m hm => hw m (by simp only [List.map_cons, DataW.weightsAll, List.mem_append]; exact .inl hm)
    have hwr : ∀ m ∈ DataW.weightsAll P e (ys.map (·.1)), m ≤ 140737488351232 := fun m hm => hw m (by simp only [List.map_cons, DataW.weightsAll, List.mem_append]; exact .inr hm)
    obtain ⟨xs, hl, hcs, hwf, hb⟩ := ih (s + 1) (fun i hi => by
      have := hel (i + 1) (by simp; omega)
      rw [show s + (i + 1) = s + 1 + i by omega] at this
      simpa using this) hwr
    have h0 := hel 0 (by simp)
    simp only [List.getElem?_cons_zero, Option.bind_eq_some_iff, Nat.add_zero] at h0
    obtain ⟨c, hc, ht⟩ := h0
    obtain ⟨z, hK, hz, hzb⟩ := he.go ht hwy
    refine ⟨z :: xs, by simp [hl], ?_, ?_, ?_⟩
    · intro j p hp
      cases j with
      | zero =>
        simp only [List.getElem?_cons_zero, Option.some.injEq] at hp
        subst hp
        refine ⟨c, d.K_len hK, hK, fun i u hu => ?_⟩
        have h1 := World.cells?_some hc
        have hi : i < P.cellsOf e := by
          have := (List.getElem?_eq_some_iff.1 hu).1
          rw [d.K_len hK, ← he.sz] at this
          exact this
        have h2 := h1.2.2 i hi
        rw [hu] at h2
        rw [Deep.add_add, he.sz] at h2
        simpa using h2
      | succ j =>
        simp only [List.getElem?_cons_succ] at hp
        have := hcs j p hp
        rw [show s + 1 + j = s + (j + 1) by omega] at this
        exact this
    · intro x hx
      rcases List.mem_cons.1 hx with rfl | hx
      · exact hz
      · exact hwf x hx
    · simp only [List.map_cons, List.sum_cons, Rows.uptoBulkAll]
      omega

theorem slice {α : Type} {P : Program} {t e : TypeId} {d : Kd α} {wf : α → Prop} {bulk : α → Nat} {B : Nat} (ht : P.underlying t = some (.slice e)) (hs : P.cellsOf t = 1) (hB : P.bytesOf e = B) (he : Opens P e d wf bulk) :
    Opens P t (Kd.slice e d) (fun xs => xs.length * B ≤ 140737488351232 ∧ ∀ x ∈ xs, wf x) (fun xs => (xs.map bulk).sum + 1) where
  sz := hs
  go := by
    intro H enc w fuel cs x h hz
    rcases DataW.trod_slice ht h with ⟨rfl, rfl⟩ | ⟨a, len, cap, elems, rest, n, _, rfl, rfl, hb, hl, hm, hlen, hel, hsp, hns⟩
    · exact ⟨[], ⟨none, 0, rfl, by simp, ⟨rfl, by simp, fun h => absurd h (by simp)⟩⟩, ⟨by simp, by simp⟩, by simp [Rows.uptoBulk]⟩
    · have hw : ∀ m ∈ DataW.weightsAll P e (elems.map (·.1)), m ≤ 140737488351232 := fun m hm => hz m (by simp only [DataW.weights, ht, List.mem_cons, List.mem_append]; exact .inr (.inl hm))
      have hsize := hz ((elems.map (·.1)).length + (rest.map (·.1)).length * 1 |> fun _ => ((elems.map (·.1)).length + (rest.map (·.1)).length) * P.bytesOf e) (by simp [DataW.weights, ht])
      obtain ⟨xs, hxl, hcell, hwf, hbulk⟩ := rows he elems 0 (a := a) (w := w) (n := n) (enc := enc) (fun i hi => by
        have := hel i (by omega)
        simpa using this) hw
      have hlx : xs.length = len := by omega
      refine ⟨xs, ⟨some a, cap, by rw [hlx], by omega, ⟨rfl, ?_, fun _ => ⟨a, rfl, fun j p hp => ?_⟩⟩⟩, ⟨?_, hwf⟩, ?_⟩
      · unfold maxLen at hm
        omega
      · have := hcell j p hp
        simpa using this
      · rw [hxl]
        have h1 : elems.length * B ≤ (elems.length + rest.length) * B := Nat.mul_le_mul_right _ (by omega)
        simp only [List.length_map, hB] at hsize
        omega
      · simp only [Rows.uptoBulk]
        omega

structure OpensF {α : Type} (P : Program) (fs : List Field) (o : Nat) (d : Kd α) (wf : α → Prop) (bulk : α → Nat) : Prop where
  go : ∀ {H : Type} {enc : TypeId × Value → H} {w : World} {n : Nat} {cs : List Value} {xs : List (DataW H × List MemPlace)},
    cs.length = o + d.sz → xs.length = fs.length →
    (∀ (i : Nat) (f : Field), fs[i]? = some f → DataW.trod enc P w 0 (fun _ => true) true n f.type ((cs.drop f.offset).take (P.cellsOf f.type)) = xs[i]?) →
    (∀ m ∈ DataW.weightsEach P (fs.map (·.type)) (xs.map (·.1)), m ≤ 140737488351232) →
    ∃ y : α, d.K w y (cs.drop o) ∧ wf y ∧ bulk y ≤ Rows.uptoBulkAll (xs.map (·.1))

theorem fone {α : Type} {P : Program} {f : Field} {o : Nat} {d : Kd α} {wf : α → Prop} {bulk : α → Nat} (ho : f.offset = o) (h : Opens P f.type d wf bulk) : OpensF P [f] o d wf bulk where
  go := by
    intro H enc w n cs xs hl hx hr hz
    obtain ⟨x, rfl⟩ : ∃ x, xs = [x] := by
      match xs, hx with
      | [x], _ => exact ⟨x, rfl⟩
    have h0 := hr 0 f rfl
    rw [ho, h.sz, List.take_of_length_le (by simp; omega)] at h0
    obtain ⟨y, hK, hw, hb⟩ := h.go h0 (fun m hm => hz m (by simpa [DataW.weightsEach] using hm))
    exact ⟨y, hK, hw, by simp only [List.map_cons, List.map_nil, Rows.uptoBulkAll]; omega⟩

theorem fcons {α β : Type} {P : Program} {f : Field} {fs : List Field} {o o' : Nat} {a : Kd α} {b : Kd β} {wa : α → Prop} {wb : β → Prop} {ba : α → Nat} {bb : β → Nat}
    (ho : f.offset = o) (ha : Opens P f.type a wa ba) (ho' : o + a.sz = o') (hb : OpensF P fs o' b wb bb) :
    OpensF P (f :: fs) o (Kd.pair a b) (fun y => wa y.1 ∧ wb y.2) (fun y => ba y.1 + bb y.2) where
  go := by
    intro H enc w n cs xs hl hx hr hz
    obtain ⟨x, xr, rfl⟩ : ∃ x xr, xs = x :: xr := by
      match xs, hx with
      | x :: xr, _ => exact ⟨x, xr, rfl⟩
    have hl' : cs.length = o + (a.sz + b.sz) := hl
    have h0 := hr 0 f rfl
    rw [ho, ha.sz] at h0
    obtain ⟨y, hK, hw, hbk⟩ := ha.go h0 (fun m hm => hz m (by simp only [List.map_cons, DataW.weightsEach, List.mem_append]; exact .inl hm))
    obtain ⟨z, hK2, hw2, hbk2⟩ := hb.go (cs := cs) (n := n) (w := w) (enc := enc) (xs := xr) (by omega) (by simpa using hx) (fun i g hg => by
      have := hr (i + 1) g (by simpa using hg)
      simpa using this) (fun m hm => hz m (by simp only [List.map_cons, DataW.weightsEach, List.mem_append]; exact .inr hm))
    refine ⟨(y, z), ⟨(cs.drop o).take a.sz, cs.drop o', ?_, hK, hK2⟩, ⟨hw, hw2⟩, ?_⟩
    · rw [← ho', ← List.drop_drop, List.take_append_drop]
    · simp only [List.map_cons, Rows.uptoBulkAll]
      omega

theorem struct {α β : Type} {P : Program} {t : TypeId} {fs : Array Field} {d : Kd α} {wf : α → Prop} {bulk : α → Nat} (f : β → α) (g : α → β) (hfg : ∀ y, f (g y) = y)
    (ht : P.underlying t = some (.struct fs)) (hs : P.cellsOf t = d.sz) (h : OpensF P fs.toList 0 d wf bulk) :
    Opens P t (Kd.iso d f) (fun y => wf (f y)) (fun y => bulk (f y) + 1) where
  sz := hs
  go := by
    intro H enc w fuel cs x hx hz
    obtain ⟨xs, n, rfl, rfl, hl, hxl, hr⟩ := DataW.trod_struct ht hx
    obtain ⟨y, hK, hw, hb⟩ := h.go (cs := cs) (n := n) (w := w) (enc := enc) (xs := xs) (by omega) (by simpa using hxl) (fun i f hf => hr i f (by simpa using hf)) (fun m hm => hz m (by simp only [DataW.weights, ht]; exact hm))
    refine ⟨g y, ?_, by rw [hfg]; exact hw, ?_⟩
    · show d.K w (f (g y)) cs
      rw [hfg]
      simpa using hK
    · rw [hfg]
      simp only [Rows.uptoBulk]
      omega

/-- An argument that is a slice. -/
theorem arg_slice {α : Type} {P : Program} {t e : TypeId} {d : Kd α} {wf : List α → Prop} {bulk : List α → Nat} (h : Opens P t (Kd.slice e d) wf bulk)
    {H : Type} {enc : TypeId × Value → H} {w : World} {v : Value} {x : DataW H} {ps : List MemPlace} (hv : ∃ a len cap, v = .slice a len cap)
    (ht : DataW.Trod enc P w 0 (fun _ => true) true t v x ps) (hz : ∀ n ∈ x.weights P t, n ≤ 140737488351232) :
    ∃ A c xs, v = .slice A xs.length c ∧ xs.length ≤ c ∧ Kd.C d w A xs.length xs ∧ wf xs ∧ bulk xs ≤ Rows.uptoBulk x := by
  obtain ⟨a, len, cap, rfl⟩ := hv
  obtain ⟨fuel, hf⟩ := ht
  obtain ⟨xs, ⟨A, c, he, hl, hC⟩, hw, hb⟩ := h.go hf hz
  simp [Value.cells] at he
  obtain ⟨rfl, rfl, rfl⟩ := he
  exact ⟨_, _, xs, rfl, hl, hC, hw, hb⟩
/-- An argument that is a struct. -/
theorem arg_struct {α : Type} {P : Program} {t : TypeId} {d : Kd α} {wf : α → Prop} {bulk : α → Nat} (h : Opens P t d wf bulk)
    {H : Type} {enc : TypeId × Value → H} {w : World} {v : Value} {x : DataW H} {ps : List MemPlace} (hv : ∃ cs, v = .agg cs ∧ cs.size = P.cellsOf t)
    (ht : DataW.Trod enc P w 0 (fun _ => true) true t v x ps) (hz : ∀ n ∈ x.weights P t, n ≤ 140737488351232) :
    ∃ cs y, v = .agg cs ∧ d.K w y cs.toList ∧ wf y ∧ bulk y ≤ Rows.uptoBulk x := by
  obtain ⟨cs, rfl, _⟩ := hv
  obtain ⟨fuel, hf⟩ := ht
  obtain ⟨y, hK, hw, hb⟩ := h.go hf hz
  exact ⟨cs, y, rfl, hK, hw, hb⟩
theorem weights_of {H : Type} {P : Program} {ts : List TypeId} {ds : List (DataW H)} (h : (DataW.weightsEach P ts ds).all (· ≤ reachBytes) = true) {j : Nat} {t : TypeId} {d : DataW H} (ht : ts[j]? = some t) (hd : ds[j]? = some d) :
    ∀ n ∈ d.weights P t, n ≤ 140737488351232 := fun n hn => by
  have := List.all_eq_true.1 h _ (DataW.weights_mem_each ht hd n hn)
  have h2 := of_decide_eq_true this
  simpa [reachBytes] using h2
end Go.Proofs.Ytekcpcipbccodaa.Opn
