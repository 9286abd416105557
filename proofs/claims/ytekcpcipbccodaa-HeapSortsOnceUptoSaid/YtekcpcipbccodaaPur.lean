/- Small plain lemmas for pure statements: rounds from some number on, tests, wraps, reads of lists. -/
import Derived.Test.YtekcpcipbccodaaWMore
import Derived.IntWalk
namespace Go.Proofs.Ytekcpcipbccodaa.Pur
open Go.RowKit Go.Proofs.YtekcpcipbccodaaW.PrintWords Go.Proofs.YtekcpcipbccodaaW.PrintMore
variable {α β : Type} {r : α}

theorem pos {c : Prop} [Decidable c] {A B : Nat → Option α} (hc : c) (h : Ev A r) : Ev (fun k => if c then A k else B k) r := by
  simpa only [if_pos hc] using h
theorem neg {c : Prop} [Decidable c] {A B : Nat → Option α} (hc : ¬ c) (h : Ev B r) : Ev (fun k => if c then A k else B k) r := by
  simpa only [if_neg hc] using h
theorem bnd {f : Nat → β → Option α} {o : Option β} {a : β} (ho : o = some a) (h : Ev (fun k => f k a) r) : Ev (fun k => o.bind (f k)) r := by
  subst ho
  simpa only [Option.bind_some] using h
theorem done {a : α} (h : a = r) : Ev (fun _ => some a) r := by
  subst h
  exact Ev.now _
theorem w64 {x : Int} (h : -9223372036854775808 ≤ x) (h2 : x ≤ 9223372036854775807) : wrap64 x = x := by
  unfold wrap64
  omega
theorem i64b {x : Int} (h : (Lit.int .i64 x).wf = true) : -9223372036854775808 ≤ x ∧ x ≤ 9223372036854775807 := by
  simpa [Lit.wf, IntKind.min, IntKind.max, IntKind.signed, IntKind.bits] using h
theorem u8b {x : Int} (h : (Lit.int .u8 x).wf = true) : 0 ≤ x ∧ x ≤ 255 := by
  simpa [Lit.wf, IntKind.min, IntKind.max, IntKind.signed, IntKind.bits] using h
theorem u32b {x : Int} (h : (Lit.int .u32 x).wf = true) : 0 ≤ x ∧ x ≤ 4294967295 := by
  simpa [Lit.wf, IntKind.min, IntKind.max, IntKind.signed, IntKind.bits] using h
theorem rd_nat (xs : List Int) (i : Nat) (h : i < xs.length) : rd xs (i : Int) = xs[i] := by
  simp [rd, List.getD_eq_getElem?_getD, h]
theorem rd_of {xs : List Int} {i : Int} {n : Nat} (hn : i = n) (h : n < xs.length) : rd xs i = xs[n] := by
  subst hn
  exact rd_nat xs n h
theorem rd_app_left (xs ys : List Int) (i : Int) (h0 : 0 ≤ i) (h : i < xs.length) : rd (xs ++ ys) i = rd xs i := by
  simp only [rd, List.getD_eq_getElem?_getD]
  rw [List.getElem?_append_left (by omega)]
theorem rd_take (xs : List Int) (n : Nat) (i : Int) (h0 : 0 ≤ i) (h : i < n) : rd (xs.take n) i = rd xs i := by
  simp only [rd, List.getD_eq_getElem?_getD]
  rw [List.getElem?_take_of_lt (by omega)]
theorem rd_snoc (xs : List Int) (y : Int) : rd (xs ++ [y]) xs.length = y := by
  simp [rd]
/-- Two lists that read alike are one. -/
theorem ext_rd {xs ys : List Int} (hl : xs.length = ys.length) (h : ∀ i : Nat, i < xs.length → rd xs i = rd ys i) : xs = ys := by
  apply List.ext_getElem hl
  intro i h1 h2
  have := h i h1
  rwa [rd_nat _ _ h1, rd_nat _ _ h2] at this
theorem take_rd (xs : List Int) (n : Nat) (h : n < xs.length) : xs.take (n + 1) = xs.take n ++ [rd xs n] := by
  rw [List.take_succ_eq_append_getElem h, rd_nat _ _ h]
end Go.Proofs.Ytekcpcipbccodaa.Pur
