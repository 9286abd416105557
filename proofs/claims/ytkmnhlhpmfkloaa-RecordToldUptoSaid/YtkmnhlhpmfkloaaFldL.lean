/- JoinExtra and SplitExtra of record: walked by hand. -/
import Derived.Test.YtkmnhlhpmfkloaaFldC
namespace Go.Proofs.Ytkmnhlhpmfkloaa.Fld
open Go.RowKit Go.Proofs.YtkmnhlhpmfkloaaW.PrintWords Go.Proofs.YtkmnhlhpmfkloaaW.PrintLast Go.Proofs.YtkmnhlhpmfkloaaW.PrintMore Go.Proofs.Ytkmnhlhpmfkloaa.Mem
set_option linter.unusedVariables false
set_option linter.unusedSimpArgs false

/-- Fields that a row of memory holds. -/
def ReadsX (w : World) (A : Option Addr) (fs : List (Int × ByteArray)) : Prop :=
  ∀ (j : Nat) (t : Int) (s : ByteArray), fs[j]? = some (t, s) → ∃ ad, A = some ad ∧ w.cell? (ad.add (j * 2)) = some (.int .i64 t) ∧ w.cell? ⟨(ad.add (j * 2)).block, (ad.add (j * 2)).off + 1, none⟩ = some (.string s)
theorem ReadsX.below {w w1 : World} {A : Option Addr} {fs : List (Int × ByteArray)} (h : ReadsX w A fs) (hb : Below w.heap.size w w1) : ReadsX w1 A fs := fun j t s hj => by
  obtain ⟨ad, e, h1, h2⟩ := h j t s hj
  exact ⟨ad, e, pw_cell_below hb h1, pw_cell_below hb h2⟩
def joinB (b : BS) (fs : List (Int × ByteArray)) : BS := fs.foldl (fun b f => ((b.num f.1 2).num f.2.size 2).text f.2) b

set_option maxHeartbeats 8000000 in
set_option maxRecDepth 100000 in
theorem join_calls (w : World) (A : Option Addr) (cp : Nat) (fs : List (Int × ByteArray)) (hR : ReadsX w A fs) (hl : fs.length ≤ 9223372036854775807) :
    Calls Try.prog 26 #[.slice A fs.length cp] w fun e w' => e = .returned (.tuple #[.string (strOfNums (joinB ⟨[], 65535, 0⟩ fs).ans.1), .int .i64 (joinB ⟨[], 65535, 0⟩ fs).ans.2]) ∧ Below w.heap.size w w' := by
  have HR := Aside0.mk hR
  obtain ⟨S, hSd⟩ : ∃ S : Nat → Prop, S = fun k => w.heap.size ≤ k := ⟨_, rfl⟩
  have HSD := Aside0.mk hSd
  have hN := new_calls w S 65535 (by omega) (by omega) (fun k hk => by rw [hSd]; exact hk)
  have HN := Aside0.mk hN
  clear hR hN hSd
  go_enter Try.func26, Try.ntmps26
  go_wp2_with fail
  refine HN.out.mono ?_
  rintro e w1 ⟨g, rfl, hb, hbel⟩
  have HB := Aside0.mk hb
  have HG := Aside0.mk hbel
  clear hb hbel HN
  go_wp2_with fail
  go_loopg [12] (fs.length + 1) (fun gk v12 wr => ∃ (j : Nat), v12 = .int .i64 j ∧ j ≤ fs.length ∧ fs.length + 1 ≤ j + gk ∧ Aside0 (Buf wr S g (joinB ⟨[], 65535, 0⟩ (fs.take j))) ∧ Aside0 (Below w.heap.size w wr))
  case atStart => exact ⟨0, rfl, Nat.zero_le _, by omega, by rw [List.take_zero]; exact HB, HG⟩
  case round =>
    obtain ⟨j, rfl, hj, hjk, HBk, HGk⟩ := hrel
    clear HB HG
    by_cases hlt : j < fs.length
    · have hltb : decide ((j : Int) < (fs.length : Int)) = true := decide_eq_true (by omega)
      obtain ⟨⟨t, s⟩, hts⟩ : ∃ p, fs[j]? = some p := ⟨_, List.getElem?_eq_getElem hlt⟩
      obtain ⟨ad, hA, hc0, hc1⟩ := HR.out.below HGk.out j t s hts
      have htk : fs.take (j + 1) = fs.take j ++ [(t, s)] := by
        rw [List.take_add_one, hts]
        rfl
      have hstep : joinB ⟨[], 65535, 0⟩ (fs.take (j + 1)) = (((joinB ⟨[], 65535, 0⟩ (fs.take j)).num t 2).num s.size 2).text s := by
        rw [htk]
        unfold joinB
        rw [List.foldl_append]
        rfl
      have HST := Aside0.mk hstep
      have hS0 : ∀ k, wr.heap.size ≤ k → S k := fun k hk => by rw [HSD.out]; exact Nat.le_trans HGk.out.size hk
      have hst := box_start HBk.out hS0 (.cells #[.int .i64 t, .string s] 49)
      have hX := blk_new wr (.cells #[.int .i64 t, .string s] 49)
      have hend : ∀ w1 : World, Frm (fun k => S k ∧ k ≠ wr.heap.size) (wr.alloc (.cells #[.int .i64 t, .string s] 49)) w1 → Frm S wr w1 := fun w1 hf => box_end hf
      subst hA
      have q1 : (0 : Int) ≤ (j : Int) := by omega
      have q2 : (j : Int) < (fs.length : Int) := by omega
      obtain ⟨S1, hS1⟩ : ∃ S1 : Nat → Prop, S1 = fun k => S k ∧ k ≠ wr.heap.size := ⟨_, rfl⟩
      have nbx : ¬ S1 wr.heap.size := by rw [hS1]; exact fun h => h.2 rfl
      rw [← hS1] at hend hst
      have HS1 : Aside0 (∀ k, S1 k → S k) := ⟨by rw [hS1]; exact fun k hk => hk.1⟩
      have HB0 := Aside0.mk hst.1
      have HS0 := Aside0.mk (show ∀ q, (wr.alloc (.cells #[.int .i64 t, .string s] 49)).heap.size ≤ q → S1 q from fun q hq => by rw [hS1]; exact hst.2 q hq)
      have HX0 := Aside0.mk hX
      have HEND := Aside0.mk hend
      clear hst hX hend hS1 hstep htk hts hS0
      go_wp2_with fail
      generalize wr.alloc (.cells #[.int .i64 t, .string s] 49) = w0 at HEND HB0 HS0 HX0 ⊢
      generalize wr.heap.size = bx at nbx HX0 ⊢
      clear hc0 hc1
      refine (u16_calls _ S1 g _ _ HB0.out HS0.out).mono ?_
      rintro e w2 ⟨rfl, hb, hf⟩
      have HB1 := Aside0.mk hb
      have HX1 := Aside0.mk (hf.blk HX0.out nbx)
      have HG1 := Aside0.mk hf
      have HS2 := Aside0.mk (fun q hq => HS0.out q (Nat.le_trans hf.size hq))
      have x1 : w2.cell? ⟨bx, 1, none⟩ = some (.string s) := blk_cell HX1.out 1
      clear hb hf HB0 HX0 HS0
      go_wp2_with fail
      refine (u16_calls _ S1 g _ _ HB1.out HS2.out).mono ?_
      rintro e w3 ⟨rfl, hb, hf⟩
      have HB2 := Aside0.mk hb
      have HX2 := Aside0.mk (hf.blk HX1.out nbx)
      have HG2 := Aside0.mk (Frm.chain HG1.out hf)
      have HS3 := Aside0.mk (fun q hq => HS2.out q (Nat.le_trans hf.size hq))
      clear x1
      have x1 : w3.cell? ⟨bx, 1, none⟩ = some (.string s) := blk_cell HX2.out 1
      clear hb hf HB1 HX1 HG1 HS2
      go_wp2_with fail
      refine (text_calls _ S1 g _ _ HB2.out HS3.out).mono ?_
      rintro e w4 ⟨rfl, hb, hf⟩
      have HB3 := Aside0.mk hb
      have HG3 := Aside0.mk (Frm.chain HG2.out hf)
      clear x1 hb hf HB2 HX2 HG2 HS3
      go_wp2_with fail
      go_roundg (fs.length - j)
      case measure => omega
      case rel => exact ⟨j + 1, by go_num, by omega, by omega, ⟨by rw [HST.out]; exact Buf.mono HB3.out HS1.out⟩, ⟨HGk.out.trans ((HEND.out _ HG3.out).to_below HGk.out.size (fun k hk => by rw [HSD.out] at hk; exact hk))⟩⟩
    · have hltb : decide ((j : Int) < (fs.length : Int)) = false := decide_eq_false (by omega)
      have htk : fs.take j = fs := List.take_of_length_le (by omega)
      rw [htk] at HBk
      clear htk
      go_wp2_with fail
      refine (taken_calls _ S g _ HBk.out).mono ?_
      rintro e wz ⟨vz, rfl, hR, hBz⟩
      obtain ⟨Az, cz, rfl, hcz, hCz⟩ := Kd.R_reads hR
      have hcv := Kd.C_string (c := cz) Try.underlying25 Try.underlying5 Try.underlying9 hCz
      go_wp2_with fail
      go_ret2
      exact ⟨rfl, HGk.out.trans (hBz.mono HGk.out.size)⟩
end Go.Proofs.Ytkmnhlhpmfkloaa.Fld
