/- HeapPlays: walked by hand. -/
import Derived.Test.YtekcpcipbccodaaHpW
namespace Go.Proofs.Ytekcpcipbccodaa.Mem
open Go.RowKit Go.Proofs.YtekcpcipbccodaaW.PrintWords Go.Proofs.YtekcpcipbccodaaW.PrintLast Go.Proofs.YtekcpcipbccodaaW.PrintMore
attribute [local go_sem] Oper.semAt_some
set_option linter.unusedVariables false
set_option linter.unusedSimpArgs false

structure Op4 where
  kind : Int
  key : Int
  val : Int
  two : Bool
/-- A script of steps, read. -/
def Script (w : World) (A : Option Addr) (n : Nat) (sc : Nat → Op4) : Prop := ∀ i, i < n → ∃ ad, A = some ad ∧ w.cell? (ad.add (i * 4)) = some (.int .i64 (sc i).kind) ∧ w.cell? ⟨(ad.add (i * 4)).block, (ad.add (i * 4)).off + 1, none⟩ = some (.int .i64 (sc i).key) ∧
  w.cell? ⟨(ad.add (i * 4)).block, (ad.add (i * 4)).off + 2, none⟩ = some (.int .i64 (sc i).val) ∧ w.cell? ⟨(ad.add (i * 4)).block, (ad.add (i * 4)).off + 3, none⟩ = some (.bool (sc i).two)
theorem Script.below {w w' : World} {A : Option Addr} {n : Nat} {sc : Nat → Op4} (h : Script w A n sc) (hb : Below w.heap.size w w') : Script w' A n sc := by
  intro i hi
  obtain ⟨ad, hA, h1, h2, h3, h4⟩ := h i hi
  have mv : ∀ {p v}, w.cell? p = some v → w'.cell? p = some v := fun hc => (hb.cell (World.block_lt_of_cell? w _ hc)).trans hc
  exact ⟨ad, hA, mv h1, mv h2, mv h3, mv h4⟩
set_option maxHeartbeats 4000000 in
set_option maxRecDepth 100000 in
theorem plays_calls (w : World) (A : Option Addr) (cp n : Nat) (sc : Nat → Op4) (hC : Script w A n sc) (hl : n * 32 ≤ 140737488351232) :
    Calls Try.prog 3 #[.slice A n cp] w fun e w' => e = .returned (.bool true) ∧ Below w.heap.size w w' := by
  have HC := Aside0.mk hC
  have hlen : n ≤ 4398046510976 := by omega
  clear hC hl
  go_enter Try.func3, Try.ntmps3
  have tokA : True := trivial
  have tokB : True := trivial
  go_wp2_with (first
    | (go_at_call 15; clear tokA; refine (new_calls _).mono ?_; rintro e w1 ⟨a, rfl, ha, hHa, hba⟩; replace ha := Aside0.mk ha; replace hHa := Aside0.mk hHa; replace hba := Aside0.mk hba)
    | (go_at_call 15; refine (new_calls _).mono ?_; rintro e w2 ⟨b, rfl, hb, hHb, hbb⟩; replace hb := Aside0.mk hb; replace hHb := Aside0.mk hHb; replace hbb := Aside0.mk hbb)
    | (go_at_call 16; clear tokB; refine (rnew_calls _).mono ?_; rintro e w3 ⟨r, rfl, hr, hHr, hbr⟩; replace hr := Aside0.mk hr; replace hHr := Aside0.mk hHr; replace hbr := Aside0.mk hbr)
    | (go_at_call 16; refine (rnew_calls _).mono ?_; rintro e w4 ⟨s, rfl, hs, hHs, hbs⟩; have hT := Aside0.mk (two_start ha.out hHa.out hba.out hb.out hHb.out hbb.out hr.out hHr.out hbr.out hs hHs hbs); clear ha hHa hba hb hHb hbb hr hHr hbr hs hHs hbs))
  go_loopg [7] (n + 1) (fun gk v7 wr => ∃ i : Nat, v7 = .int .i64 i ∧ i ≤ n ∧ n + 1 ≤ i + gk ∧ Aside0 (∃ La Lb ta tb, Two w wr a r b s La Lb ta tb ∧ La.length ≤ i ∧ Lb.length ≤ i ∧ 0 ≤ ta ∧ ta ≤ i ∧ 0 ≤ tb ∧ tb ≤ i))
  case atStart => exact ⟨0, by go_num, by omega, by omega, ⟨[], [], 0, 0, hT.out, by simp, by simp, by omega, by omega, by omega, by omega⟩⟩
  case round =>
    obtain ⟨i, rfl, hi, hgk, HS⟩ := hrel
    clear hT
    by_cases hlt : i < n
    · have hltb : decide ((i : Int) < (n : Int)) = true := decide_eq_true (by omega)
      obtain ⟨La, Lb, ta, tb, hT2, qa, qb, ua, va, ub, vb⟩ := HS.out
      obtain ⟨ad, rfl, c0, c1, c2, c3⟩ := HC.out.below hT2.bel i hlt
      clear HS
      replace hT2 := Aside0.mk hT2
      have q3 : (i : Int) < (n : Int) := by omega
      have eNat : ((i : Int)).toNat = i := Int.toNat_natCast i
      obtain ⟨⟨kd, ky, vl, two⟩, hop⟩ : ∃ o, sc i = o := ⟨_, rfl⟩
      rw [hop] at c0 c1 c2 c3
      simp only at c0 c1 c2 c3
      cases two
      · go_wp2_with (first | (go_at_call 17; refine (two_step kd ky vl false (hT2.out.alloc _) ua (by omega) (by omega)).mono ?_; rintro e w5 ⟨rfl, h5, _⟩; replace h5 := Aside0.mk h5))
        go_roundg (n - i)
        case measure => omega
        case rel =>
          have := stepL_len (kind := kd) (key := ky) (val := vl) (L := La) (t := ta)
          have := stepT_le (kind := kd) (t := ta)
          exact ⟨i + 1, by go_num, by omega, by omega, ⟨_, _, _, _, h5.out, by omega, by omega, by omega, by omega, by omega, by omega⟩⟩
      · go_wp2_with (first | (go_at_call 17; refine (two_step kd ky vl true (hT2.out.alloc _).swap ub (by omega) (by omega)).mono ?_; rintro e w5 ⟨rfl, h5, _⟩; replace h5 := Aside0.mk h5))
        go_roundg (n - i)
        case measure => omega
        case rel =>
          have := stepL_len (kind := kd) (key := ky) (val := vl) (L := Lb) (t := tb)
          have := stepT_le (kind := kd) (t := tb)
          exact ⟨i + 1, by go_num, by omega, by omega, ⟨_, _, _, _, h5.out.swap, by omega, by omega, by omega, by omega, by omega, by omega⟩⟩
    · have hltb : decide ((i : Int) < (n : Int)) = false := decide_eq_false (by omega)
      obtain rfl : i = n := by omega
      go_wp2_with (fail)
      obtain ⟨La, Lb, ta, tb, hT2, qa, qb, ua, va, ub, vb⟩ := HS.out
      clear HS
      replace hT2 := Aside0.mk hT2
      go_loopg [11] (i + 2) (fun gk v11 wr2 => ∃ j : Nat, v11 = .int .i64 j ∧ j ≤ i + 1 ∧ i + 2 ≤ j + gk ∧ wr2.heap[wr.heap.size]? = some (.cells #[.int .i64 2, .int .i64 0, .int .i64 0, .bool false] 28 (0, 0)) ∧ Aside0 (∃ La Lb ta tb, Two w wr2 a r b s La Lb ta tb ∧ La.length ≤ i - j ∧ Lb.length ≤ i - j ∧ 0 ≤ ta ∧ ta ≤ i + j ∧ 0 ≤ tb ∧ tb ≤ i + j ∧ (j = i + 1 → La = [] ∧ Lb = [])))
      case atStart => exact ⟨0, by go_num, by omega, by omega, blk_new wr _, ⟨La, Lb, ta, tb, hT2.out.alloc _, by omega, by omega, by omega, by omega, by omega, by omega, fun h => by omega⟩⟩
      case round =>
        obtain ⟨j, rfl, hj, hgk2, hbox, HS⟩ := hrel
        clear hT2 qa qb ua va ub vb La Lb ta tb
        obtain ⟨La, Lb, ta, tb, hT3, qa, qb, ua, va, ub, vb, qe⟩ := HS.out
        clear HS
        replace hT3 := Aside0.mk hT3
        by_cases hlt : j ≤ i
        · have hltb : decide ((j : Int) ≤ (i : Int)) = true := decide_eq_true (by omega)
          have hbB := Aside0.mk hbox
          have tokA : True := trivial
          have k0 := blk_cell hbox 0
          have k1 := blk_cell hbox 1
          have k2 := blk_cell hbox 2
          have k3 := blk_cell hbox 3
          simp only [List.getElem?_toArray, List.getElem?_cons_zero, List.getElem?_cons_succ] at k0 k1 k2 k3
          clear hbox
          go_wp2_with (first
            | (go_at_call 17; clear tokA; refine (two_step 2 0 0 false hT3.out ua (by omega) (by omega)).mono ?_; rintro e w5 ⟨rfl, h5, hx5⟩; replace hbB := Aside0.mk (hx5 _ _ hbB.out); have k0 := blk_cell hbB.out 0; have k1 := blk_cell hbB.out 1; have k2 := blk_cell hbB.out 2; have k3 := blk_cell hbB.out 3; simp only [List.getElem?_toArray, List.getElem?_cons_zero, List.getElem?_cons_succ] at k0 k1 k2 k3; replace h5 := Aside0.mk h5; clear hx5)
            | (go_at_call 17; refine (two_step 2 0 0 false h5.out.swap ub (by omega) (by omega)).mono ?_; rintro e w6 ⟨rfl, h6, hx6⟩; replace hbB := Aside0.mk (hx6 _ _ hbB.out); replace h6 := Aside0.mk h6; clear hx6))
          go_roundg (i + 1 - j)
          case measure => omega
          case rel =>
            have := stepL_pop (L := La) (t := ta) 0 0
            have := stepL_pop (L := Lb) (t := tb) 0 0
            have := stepT_le (kind := 2) (t := ta)
            have := stepT_le (kind := 2) (t := tb)
            exact ⟨j + 1, by go_num, by omega, by omega, hbB.out, ⟨_, _, _, _, h6.out.swap, by omega, by omega, by omega, by omega, by omega, by omega, fun h => ⟨List.length_eq_zero_iff.1 (by omega), List.length_eq_zero_iff.1 (by omega)⟩⟩⟩
        · have hltb : decide ((j : Int) ≤ (i : Int)) = false := decide_eq_false (by omega)
          obtain ⟨rfl, rfl⟩ := qe (by omega)
          have tokA : True := trivial
          go_wp2_with (first
            | (go_at_call 18; clear tokA; refine (two_len hT3.out).mono ?_; rintro e w5 ⟨rfl, n5, rfl⟩)
            | (go_at_call 18; refine (two_len (hT3.out.drewN _).swap).mono ?_; rintro e w6 ⟨rfl, n6, rfl⟩))
          go_ret
          exact ⟨rfl, pw_below_drewN hT3.out.bel _⟩
end Go.Proofs.Ytekcpcipbccodaa.Mem
