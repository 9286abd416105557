/- Merged texts: FldI. -/
import Derived.Test.YtkmnhlhpmfkloaaFU2
/- What GetLocal of record does: walked by hand. -/
namespace Go.Proofs.Ytkmnhlhpmfkloaa.Fld
open Go.RowKit Go.Proofs.YtkmnhlhpmfkloaaW.PrintWords Go.Proofs.YtkmnhlhpmfkloaaW.PrintLast Go.Proofs.YtkmnhlhpmfkloaaW.PrintMore Go.Proofs.Ytkmnhlhpmfkloaa.Mem
set_option linter.unusedVariables false
set_option linter.unusedSimpArgs false
set_option maxHeartbeats 16000000 in
set_option maxRecDepth 100000 in
theorem getLocal_bad (w : World) (A : Option Addr) (cp : Nat) (l : List Int) (at_ : Int) (hC : Kd.C (Kd.int .u8) w A l.length l) (hcp : l.length ≤ cp) (hl : l.length ≤ 140737488355328) (hy : ∀ x ∈ l, 0 ≤ x ∧ x < 256) (E : Int) (hE : fieldsE l at_ 30 67324752 = E) (hE0 : E ≠ 0) :
    Calls Try.prog 35 #[.slice A l.length cp, .int .i64 at_] w fun e w' => e = .returned (.tuple #[.agg #[.int .i64 0, .int .i64 0, .int .i64 0, .int .i64 0, .int .i64 0, .int .u32 0, .int .i64 0, .int .i64 0, .string ⟨#[]⟩, .string ⟨#[]⟩], .int .i64 0, .int .i64 E]) ∧ Below w.heap.size w w' := by
  have HC := Aside0.mk hC
  have HY := Aside0.mk hy
  have hF := fields_calls (w.alloc (.cells #[.int .i64 0, .int .i64 0, .int .i64 0, .int .i64 0, .int .i64 0, .int .u32 0, .int .i64 0, .int .i64 0, .string ⟨#[]⟩, .string ⟨#[]⟩] 24)) A cp l at_ 67324752 30 (C_below' hC (below_alloc (Below.refl _ w) _)) hcp hl hy (by omega) (by omega)
  have HF := Aside0.mk hF
  have hR := blk_new w (.cells #[.int .i64 0, .int .i64 0, .int .i64 0, .int .i64 0, .int .i64 0, .int .u32 0, .int .i64 0, .int .i64 0, .string ⟨#[]⟩, .string ⟨#[]⟩] 24)
  have hs0 : (w.alloc (.cells #[.int .i64 0, .int .i64 0, .int .i64 0, .int .i64 0, .int .i64 0, .int .u32 0, .int .i64 0, .int .i64 0, .string ⟨#[]⟩, .string ⟨#[]⟩] 24)).heap.size = w.heap.size + 1 := by simp
  have hbel0 := below_alloc (Below.refl w.heap.size w) (.cells #[.int .i64 0, .int .i64 0, .int .i64 0, .int .i64 0, .int .i64 0, .int .u32 0, .int .i64 0, .int .i64 0, .string ⟨#[]⟩, .string ⟨#[]⟩] 24)
  have HR0 := Aside0.mk hR
  have HG0 := Aside0.mk hbel0
  have HS0 := Aside0.mk hs0
  clear hC hy hF hR hs0 hbel0
  rw [hE] at HF
  have heb : (E != 0) = true := by simpa using hE0
  have HN := Aside0.mk hE0
  clear hE hE0
  go_enter Try.func35, Try.ntmps35
  go_wp2_with fail
  generalize w.alloc (.cells #[.int .i64 0, .int .i64 0, .int .i64 0, .int .i64 0, .int .i64 0, .int .u32 0, .int .i64 0, .int .i64 0, .string ⟨#[]⟩, .string ⟨#[]⟩] 24) = w0 at HF HR0 HG0 HS0 ⊢
  generalize hrx : w.heap.size = rx at HR0 HG0 HS0 ⊢
  have HRX := Aside0.mk hrx
  clear hrx
  refine HF.out.mono ?_
  rintro e w1 hpost
  obtain ⟨rfl, hbel⟩ := hpost.1 HN.out
  have HR := Aside0.mk (blk_below HR0.out hbel)
  have HG := Aside0.mk (HG0.out.trans (hbel.mono (by rw [HS0.out]; omega)))
  clear hpost hbel HF HR0 HG0
  have y0 : w1.cell? ⟨rx, 0, none⟩ = some (.int .i64 0) := blk_cell HR.out 0
  have z0 : w1.frozen? ⟨rx, 0, none⟩ = false := blk_frozen HR.out 0
  have y1 : w1.cell? ⟨rx, 1, none⟩ = some (.int .i64 0) := blk_cell HR.out 1
  have z1 : w1.frozen? ⟨rx, 1, none⟩ = false := blk_frozen HR.out 1
  have y2 : w1.cell? ⟨rx, 2, none⟩ = some (.int .i64 0) := blk_cell HR.out 2
  have z2 : w1.frozen? ⟨rx, 2, none⟩ = false := blk_frozen HR.out 2
  have y3 : w1.cell? ⟨rx, 3, none⟩ = some (.int .i64 0) := blk_cell HR.out 3
  have z3 : w1.frozen? ⟨rx, 3, none⟩ = false := blk_frozen HR.out 3
  have y4 : w1.cell? ⟨rx, 4, none⟩ = some (.int .i64 0) := blk_cell HR.out 4
  have z4 : w1.frozen? ⟨rx, 4, none⟩ = false := blk_frozen HR.out 4
  have y5 : w1.cell? ⟨rx, 5, none⟩ = some (.int .u32 0) := blk_cell HR.out 5
  have z5 : w1.frozen? ⟨rx, 5, none⟩ = false := blk_frozen HR.out 5
  have y6 : w1.cell? ⟨rx, 6, none⟩ = some (.int .i64 0) := blk_cell HR.out 6
  have z6 : w1.frozen? ⟨rx, 6, none⟩ = false := blk_frozen HR.out 6
  have y7 : w1.cell? ⟨rx, 7, none⟩ = some (.int .i64 0) := blk_cell HR.out 7
  have z7 : w1.frozen? ⟨rx, 7, none⟩ = false := blk_frozen HR.out 7
  have y8 : w1.cell? ⟨rx, 8, none⟩ = some (.string ⟨#[]⟩) := blk_cell HR.out 8
  have z8 : w1.frozen? ⟨rx, 8, none⟩ = false := blk_frozen HR.out 8
  have y9 : w1.cell? ⟨rx, 9, none⟩ = some (.string ⟨#[]⟩) := blk_cell HR.out 9
  have z9 : w1.frozen? ⟨rx, 9, none⟩ = false := blk_frozen HR.out 9
  go_wp2_with fail
  refine bodyPost_ret (results_list (rs := [.cell 4 24, .tmp 5, .tmp 6]) rfl (by simp) (.cell rx 24 #[.int .i64 0, .int .i64 0, .int .i64 0, .int .i64 0, .int .i64 0, .int .u32 0, .int .i64 0, .int .i64 0, .string ⟨#[]⟩, .string ⟨#[]⟩] (0, 0) _ rfl (blk_put (cs := #[.int .i64 0, .int .i64 0, .int .i64 0, .int .i64 0, .int .i64 0, .int .u32 0, .int .i64 0, .int .i64 0, .string ⟨#[]⟩, .string ⟨#[]⟩]) (cs' := #[.int .i64 0, .int .i64 0, .int .i64 0, .int .i64 0, .int .i64 0, .int .u32 0, .int .i64 0, .int .i64 0, .string ⟨#[]⟩, .string ⟨#[]⟩]) (blk_put (cs := #[.int .i64 0, .int .i64 0, .int .i64 0, .int .i64 0, .int .i64 0, .int .u32 0, .int .i64 0, .int .i64 0, .string ⟨#[]⟩, .string ⟨#[]⟩]) (cs' := #[.int .i64 0, .int .i64 0, .int .i64 0, .int .i64 0, .int .i64 0, .int .u32 0, .int .i64 0, .int .i64 0, .string ⟨#[]⟩, .string ⟨#[]⟩]) (blk_put (cs := #[.int .i64 0, .int .i64 0, .int .i64 0, .int .i64 0, .int .i64 0, .int .u32 0, .int .i64 0, .int .i64 0, .string ⟨#[]⟩, .string ⟨#[]⟩]) (cs' := #[.int .i64 0, .int .i64 0, .int .i64 0, .int .i64 0, .int .i64 0, .int .u32 0, .int .i64 0, .int .i64 0, .string ⟨#[]⟩, .string ⟨#[]⟩]) (blk_put (cs := #[.int .i64 0, .int .i64 0, .int .i64 0, .int .i64 0, .int .i64 0, .int .u32 0, .int .i64 0, .int .i64 0, .string ⟨#[]⟩, .string ⟨#[]⟩]) (cs' := #[.int .i64 0, .int .i64 0, .int .i64 0, .int .i64 0, .int .i64 0, .int .u32 0, .int .i64 0, .int .i64 0, .string ⟨#[]⟩, .string ⟨#[]⟩]) (blk_put (cs := #[.int .i64 0, .int .i64 0, .int .i64 0, .int .i64 0, .int .i64 0, .int .u32 0, .int .i64 0, .int .i64 0, .string ⟨#[]⟩, .string ⟨#[]⟩]) (cs' := #[.int .i64 0, .int .i64 0, .int .i64 0, .int .i64 0, .int .i64 0, .int .u32 0, .int .i64 0, .int .i64 0, .string ⟨#[]⟩, .string ⟨#[]⟩]) (blk_put (cs := #[.int .i64 0, .int .i64 0, .int .i64 0, .int .i64 0, .int .i64 0, .int .u32 0, .int .i64 0, .int .i64 0, .string ⟨#[]⟩, .string ⟨#[]⟩]) (cs' := #[.int .i64 0, .int .i64 0, .int .i64 0, .int .i64 0, .int .i64 0, .int .u32 0, .int .i64 0, .int .i64 0, .string ⟨#[]⟩, .string ⟨#[]⟩]) (blk_put (cs := #[.int .i64 0, .int .i64 0, .int .i64 0, .int .i64 0, .int .i64 0, .int .u32 0, .int .i64 0, .int .i64 0, .string ⟨#[]⟩, .string ⟨#[]⟩]) (cs' := #[.int .i64 0, .int .i64 0, .int .i64 0, .int .i64 0, .int .i64 0, .int .u32 0, .int .i64 0, .int .i64 0, .string ⟨#[]⟩, .string ⟨#[]⟩]) (blk_put (cs := #[.int .i64 0, .int .i64 0, .int .i64 0, .int .i64 0, .int .i64 0, .int .u32 0, .int .i64 0, .int .i64 0, .string ⟨#[]⟩, .string ⟨#[]⟩]) (cs' := #[.int .i64 0, .int .i64 0, .int .i64 0, .int .i64 0, .int .i64 0, .int .u32 0, .int .i64 0, .int .i64 0, .string ⟨#[]⟩, .string ⟨#[]⟩]) (blk_put (cs := #[.int .i64 0, .int .i64 0, .int .i64 0, .int .i64 0, .int .i64 0, .int .u32 0, .int .i64 0, .int .i64 0, .string ⟨#[]⟩, .string ⟨#[]⟩]) (cs' := #[.int .i64 0, .int .i64 0, .int .i64 0, .int .i64 0, .int .i64 0, .int .u32 0, .int .i64 0, .int .i64 0, .string ⟨#[]⟩, .string ⟨#[]⟩]) (blk_put (cs := #[.int .i64 0, .int .i64 0, .int .i64 0, .int .i64 0, .int .i64 0, .int .u32 0, .int .i64 0, .int .i64 0, .string ⟨#[]⟩, .string ⟨#[]⟩]) (cs' := #[.int .i64 0, .int .i64 0, .int .i64 0, .int .i64 0, .int .i64 0, .int .u32 0, .int .i64 0, .int .i64 0, .string ⟨#[]⟩, .string ⟨#[]⟩]) HR.out 0 (.int .i64 0) rfl) 1 (.int .i64 0) rfl) 2 (.int .i64 0) rfl) 3 (.int .i64 0) rfl) 4 (.int .i64 0) rfl) 5 (.int .u32 0) rfl) 6 (.int .i64 0) rfl) 7 (.int .i64 0) rfl) 8 (.string ⟨#[]⟩) rfl) 9 (.string ⟨#[]⟩) rfl) Try.underlying24 rfl Try.infoL (.tmp (.tmp .nil)))) rfl ?_
  have hs := (Frm.setCell (Frm.setCell (Frm.setCell (Frm.setCell (Frm.setCell (Frm.setCell (Frm.setCell (Frm.setCell (Frm.setCell (Frm.setCell (Frm.refl (fun q => q = rx) w1) (p := ⟨rx, 0, none⟩) (.inl rfl) (.int .i64 0)) (p := ⟨rx, 1, none⟩) (.inl rfl) (.int .i64 0)) (p := ⟨rx, 2, none⟩) (.inl rfl) (.int .i64 0)) (p := ⟨rx, 3, none⟩) (.inl rfl) (.int .i64 0)) (p := ⟨rx, 4, none⟩) (.inl rfl) (.int .i64 0)) (p := ⟨rx, 5, none⟩) (.inl rfl) (.int .u32 0)) (p := ⟨rx, 6, none⟩) (.inl rfl) (.int .i64 0)) (p := ⟨rx, 7, none⟩) (.inl rfl) (.int .i64 0)) (p := ⟨rx, 8, none⟩) (.inl rfl) (.string ⟨#[]⟩)) (p := ⟨rx, 9, none⟩) (.inl rfl) (.string ⟨#[]⟩))
  exact ⟨rfl, by rw [HRX.out]; exact below_sets HG.out HRX.out hs⟩
set_option maxHeartbeats 16000000 in
set_option maxRecDepth 100000 in
theorem getLocal_short (w : World) (A : Option Addr) (cp : Nat) (l : List Int) (at_ : Int) (hC : Kd.C (Kd.int .u8) w A l.length l) (hcp : l.length ≤ cp) (hl : l.length ≤ 140737488355328) (hy : ∀ x ∈ l, 0 ≤ x ∧ x < 256) (hE : fieldsE l at_ 30 67324752 = 0) (hT : textsF l (at_ + 30).toNat [nm ((((((((((fieldsC l at_ 30).adv 2).adv 2).adv 2).adv 2).adv 2).adv 4).adv 4).adv 4).next 2), nm (((((((((((fieldsC l at_ 30).adv 2).adv 2).adv 2).adv 2).adv 2).adv 4).adv 4).adv 4).adv 2).next 2)] = none) :
    Calls Try.prog 35 #[.slice A l.length cp, .int .i64 at_] w fun e w' => e = .returned (.tuple #[.agg #[.int .i64 0, .int .i64 0, .int .i64 0, .int .i64 0, .int .i64 0, .int .u32 0, .int .i64 0, .int .i64 0, .string ⟨#[]⟩, .string ⟨#[]⟩], .int .i64 0, .int .i64 122]) ∧ Below w.heap.size w w' := by
  have HC := Aside0.mk hC
  have HY := Aside0.mk hy
  have hF := fields_calls (w.alloc (.cells #[.int .i64 0, .int .i64 0, .int .i64 0, .int .i64 0, .int .i64 0, .int .u32 0, .int .i64 0, .int .i64 0, .string ⟨#[]⟩, .string ⟨#[]⟩] 24)) A cp l at_ 67324752 30 (C_below' hC (below_alloc (Below.refl _ w) _)) hcp hl hy (by omega) (by omega)
  have HF := Aside0.mk hF
  have hR := blk_new w (.cells #[.int .i64 0, .int .i64 0, .int .i64 0, .int .i64 0, .int .i64 0, .int .u32 0, .int .i64 0, .int .i64 0, .string ⟨#[]⟩, .string ⟨#[]⟩] 24)
  have hs0 : (w.alloc (.cells #[.int .i64 0, .int .i64 0, .int .i64 0, .int .i64 0, .int .i64 0, .int .u32 0, .int .i64 0, .int .i64 0, .string ⟨#[]⟩, .string ⟨#[]⟩] 24)).heap.size = w.heap.size + 1 := by simp
  have hbel0 := below_alloc (Below.refl w.heap.size w) (.cells #[.int .i64 0, .int .i64 0, .int .i64 0, .int .i64 0, .int .i64 0, .int .u32 0, .int .i64 0, .int .i64 0, .string ⟨#[]⟩, .string ⟨#[]⟩] 24)
  have HR0 := Aside0.mk hR
  have HG0 := Aside0.mk hbel0
  have HS0 := Aside0.mk hs0
  clear hC hy hF hR hs0 hbel0
  rw [hE] at HF
  obtain ⟨ha0, ha1⟩ := fields_ok_le hE
  have b1 : (0 : Int) ≤ at_ + 30 := by omega
  have b2 : at_ + 30 ≤ 140737488355328 := by omega
  have b3 : at_ + 30 ≤ (l.length : Int) := by omega
  have HT := Aside0.mk hT
  clear hE hT ha0 ha1
  go_enter Try.func35, Try.ntmps35
  go_wp2_with fail
  generalize w.alloc (.cells #[.int .i64 0, .int .i64 0, .int .i64 0, .int .i64 0, .int .i64 0, .int .u32 0, .int .i64 0, .int .i64 0, .string ⟨#[]⟩, .string ⟨#[]⟩] 24) = w0 at HF HR0 HG0 HS0 ⊢
  generalize hrx : w.heap.size = rx at HR0 HG0 HS0 ⊢
  have HRX := Aside0.mk hrx
  clear hrx
  refine HF.out.mono ?_
  rintro e w1 hpost
  obtain ⟨g, B, rfl, hg, hB, hcur, hbel⟩ := hpost.2 rfl
  have hlt := cur_lt hcur
  have HR := Aside0.mk (blk_below HR0.out hbel)
  have HG := Aside0.mk (HG0.out.trans (hbel.mono (by rw [HS0.out]; omega)))
  have h1 : rx < g := by rw [HS0.out] at hg; omega
  have HCU := Aside0.mk hcur
  have HBS := Aside0.mk hB
  clear hpost hbel HF HR0 HG0 HS0 hcur hB hg
  go_wp2_with fail
  refine (getShared_calls _ B g _ HCU.out HBS.out).mono ?_
  rintro e w2 ⟨rfl, hcur, hF⟩
  have hS := St.begin (TX := 24) (X := #[.int .i64 (nm ((fieldsC l at_ 30).next 2)), .int .i64 (nm (((fieldsC l at_ 30).adv 2).next 2)), .int .i64 (nm ((((fieldsC l at_ 30).adv 2).adv 2).next 2)), .int .i64 (nm (((((fieldsC l at_ 30).adv 2).adv 2).adv 2).next 2)), .int .i64 (nm ((((((fieldsC l at_ 30).adv 2).adv 2).adv 2).adv 2).next 2)), .int .u32 (nm (((((((fieldsC l at_ 30).adv 2).adv 2).adv 2).adv 2).adv 2).next 4) % 4294967296), .int .i64 (nm ((((((((fieldsC l at_ 30).adv 2).adv 2).adv 2).adv 2).adv 2).adv 4).next 4)), .int .i64 (nm (((((((((fieldsC l at_ 30).adv 2).adv 2).adv 2).adv 2).adv 2).adv 4).adv 4).next 4)), .string ⟨#[]⟩, .string ⟨#[]⟩]) (w := w) (rx := rx) hcur (hF.blk HR.out (by omega)) (HG.out.trans (hF.to_below (by rw [← HRX.out]; exact HG.out.size) (fun q hq => by omega))) (Nat.le_trans HBS.out hF.size) h1 hlt HRX.out
  have HS := Aside0.mk hS
  clear HCU HBS HR HG hS hcur hF
  go_wp2_with fail
  have hy2 : ∀ c : CS, c.data = (fieldsC l at_ 30).data → 0 ≤ nm (c.next 2) ∧ nm (c.next 2) ≤ 4294967295 := fun c hc => nm_ok (by rw [hc]; exact fieldsC_data HY.out) (by omega)
  have HNM : Aside0 (∀ n ∈ ([nm ((((((((((fieldsC l at_ 30).adv 2).adv 2).adv 2).adv 2).adv 2).adv 4).adv 4).adv 4).next 2), nm (((((((((((fieldsC l at_ 30).adv 2).adv 2).adv 2).adv 2).adv 2).adv 4).adv 4).adv 4).adv 2).next 2)] : List Int), 0 ≤ n ∧ n ≤ 4294967295) := ⟨fun n hn => by
    rcases List.mem_cons.1 hn with rfl | hn
    · exact hy2 _ (by simp only [adv_data])
    · rw [List.mem_singleton.1 hn]; exact hy2 _ (by simp only [adv_data])⟩
  clear hy2
  have HSZ : Aside0 ((w2.alloc (.cells #[.int .i64 (nm ((fieldsC l at_ 30).next 2)), .int .i64 (nm (((fieldsC l at_ 30).adv 2).next 2)), .int .i64 (nm ((((fieldsC l at_ 30).adv 2).adv 2).next 2)), .int .i64 (nm (((((fieldsC l at_ 30).adv 2).adv 2).adv 2).next 2)), .int .i64 (nm ((((((fieldsC l at_ 30).adv 2).adv 2).adv 2).adv 2).next 2)), .int .u32 (nm (((((((fieldsC l at_ 30).adv 2).adv 2).adv 2).adv 2).adv 2).next 4) % 4294967296), .int .i64 (nm ((((((((fieldsC l at_ 30).adv 2).adv 2).adv 2).adv 2).adv 2).adv 4).next 4)), .int .i64 (nm (((((((((fieldsC l at_ 30).adv 2).adv 2).adv 2).adv 2).adv 2).adv 4).adv 4).next 4)), .string ⟨#[]⟩, .string ⟨#[]⟩] 24)).heap.size = w2.heap.size + 1) := ⟨by simp⟩
  generalize w2.alloc (.cells #[.int .i64 (nm ((fieldsC l at_ 30).next 2)), .int .i64 (nm (((fieldsC l at_ 30).adv 2).next 2)), .int .i64 (nm ((((fieldsC l at_ 30).adv 2).adv 2).next 2)), .int .i64 (nm (((((fieldsC l at_ 30).adv 2).adv 2).adv 2).next 2)), .int .i64 (nm ((((((fieldsC l at_ 30).adv 2).adv 2).adv 2).adv 2).next 2)), .int .u32 (nm (((((((fieldsC l at_ 30).adv 2).adv 2).adv 2).adv 2).adv 2).next 4) % 4294967296), .int .i64 (nm ((((((((fieldsC l at_ 30).adv 2).adv 2).adv 2).adv 2).adv 2).adv 4).next 4)), .int .i64 (nm (((((((((fieldsC l at_ 30).adv 2).adv 2).adv 2).adv 2).adv 2).adv 4).adv 4).next 4)), .string ⟨#[]⟩, .string ⟨#[]⟩] 24) = w3 at HS HSZ ⊢
  generalize w2.heap.size = bx at HS HSZ ⊢
  have hblk := blk_new w3 (.cells #[.int .i64 (nm ((((((((((fieldsC l at_ 30).adv 2).adv 2).adv 2).adv 2).adv 2).adv 4).adv 4).adv 4).next 2)), .int .i64 (nm (((((((((((fieldsC l at_ 30).adv 2).adv 2).adv 2).adv 2).adv 2).adv 4).adv 4).adv 4).adv 2).next 2))] 3)
  rw [HSZ.out] at hblk
  replace HS := Aside0.mk (HS.out.below (below_alloc (Below.refl _ w3) (.cells #[.int .i64 (nm ((((((((((fieldsC l at_ 30).adv 2).adv 2).adv 2).adv 2).adv 2).adv 4).adv 4).adv 4).next 2)), .int .i64 (nm (((((((((((fieldsC l at_ 30).adv 2).adv 2).adv 2).adv 2).adv 2).adv 4).adv 4).adv 4).adv 2).next 2))] 3)))
  have hC2 := C_below' HC.out (by rw [HRX.out]; exact HS.out.bel)
  have hT2 := texts_calls (w3.alloc (.cells #[.int .i64 (nm ((((((((((fieldsC l at_ 30).adv 2).adv 2).adv 2).adv 2).adv 2).adv 4).adv 4).adv 4).next 2)), .int .i64 (nm (((((((((((fieldsC l at_ 30).adv 2).adv 2).adv 2).adv 2).adv 2).adv 4).adv 4).adv 4).adv 2).next 2))] 3)) A cp l (at_ + 30) (some ⟨bx + 1, 0, none⟩) 2 [nm ((((((((((fieldsC l at_ 30).adv 2).adv 2).adv 2).adv 2).adv 2).adv 4).adv 4).adv 4).next 2), nm (((((((((((fieldsC l at_ 30).adv 2).adv 2).adv 2).adv 2).adv 2).adv 4).adv 4).adv 4).adv 2).next 2)] hC2 hcp hl b1 b3 (C_block hblk rfl (by simp)) (by simp) HNM.out
  generalize w3.alloc (.cells #[.int .i64 (nm ((((((((((fieldsC l at_ 30).adv 2).adv 2).adv 2).adv 2).adv 2).adv 4).adv 4).adv 4).next 2)), .int .i64 (nm (((((((((((fieldsC l at_ 30).adv 2).adv 2).adv 2).adv 2).adv 2).adv 4).adv 4).adv 4).adv 2).next 2))] 3) = wt at HS hT2 ⊢
  have HT2 := Aside0.mk hT2
  clear hT2 hblk hC2 HSZ
  refine HT2.out.mono ?_
  rintro e w4 hpost
  obtain ⟨rfl, hbel⟩ := hpost.1 HT.out
  have hS4 := HS.out.below (hbel.mono (Nat.le_refl _))
  have HR := Aside0.mk hS4.r
  have HG := Aside0.mk hS4.bel
  clear hpost hbel hS4 HS HT2
  have y0 : w4.cell? ⟨rx, 0, none⟩ = some (.int .i64 0) := blk_cell HR.out 0
  have z0 : w4.frozen? ⟨rx, 0, none⟩ = false := blk_frozen HR.out 0
  have y1 : w4.cell? ⟨rx, 1, none⟩ = some (.int .i64 0) := blk_cell HR.out 1
  have z1 : w4.frozen? ⟨rx, 1, none⟩ = false := blk_frozen HR.out 1
  have y2 : w4.cell? ⟨rx, 2, none⟩ = some (.int .i64 0) := blk_cell HR.out 2
  have z2 : w4.frozen? ⟨rx, 2, none⟩ = false := blk_frozen HR.out 2
  have y3 : w4.cell? ⟨rx, 3, none⟩ = some (.int .i64 0) := blk_cell HR.out 3
  have z3 : w4.frozen? ⟨rx, 3, none⟩ = false := blk_frozen HR.out 3
  have y4 : w4.cell? ⟨rx, 4, none⟩ = some (.int .i64 0) := blk_cell HR.out 4
  have z4 : w4.frozen? ⟨rx, 4, none⟩ = false := blk_frozen HR.out 4
  have y5 : w4.cell? ⟨rx, 5, none⟩ = some (.int .u32 0) := blk_cell HR.out 5
  have z5 : w4.frozen? ⟨rx, 5, none⟩ = false := blk_frozen HR.out 5
  have y6 : w4.cell? ⟨rx, 6, none⟩ = some (.int .i64 0) := blk_cell HR.out 6
  have z6 : w4.frozen? ⟨rx, 6, none⟩ = false := blk_frozen HR.out 6
  have y7 : w4.cell? ⟨rx, 7, none⟩ = some (.int .i64 0) := blk_cell HR.out 7
  have z7 : w4.frozen? ⟨rx, 7, none⟩ = false := blk_frozen HR.out 7
  have y8 : w4.cell? ⟨rx, 8, none⟩ = some (.string ⟨#[]⟩) := blk_cell HR.out 8
  have z8 : w4.frozen? ⟨rx, 8, none⟩ = false := blk_frozen HR.out 8
  have y9 : w4.cell? ⟨rx, 9, none⟩ = some (.string ⟨#[]⟩) := blk_cell HR.out 9
  have z9 : w4.frozen? ⟨rx, 9, none⟩ = false := blk_frozen HR.out 9
  go_wp2_with fail
  refine bodyPost_ret (results_list (rs := [.cell 4 24, .tmp 5, .tmp 6]) rfl (by simp) (.cell rx 24 #[.int .i64 0, .int .i64 0, .int .i64 0, .int .i64 0, .int .i64 0, .int .u32 0, .int .i64 0, .int .i64 0, .string ⟨#[]⟩, .string ⟨#[]⟩] (0, 0) _ rfl (blk_put (cs := #[.int .i64 0, .int .i64 0, .int .i64 0, .int .i64 0, .int .i64 0, .int .u32 0, .int .i64 0, .int .i64 0, .string ⟨#[]⟩, .string ⟨#[]⟩]) (cs' := #[.int .i64 0, .int .i64 0, .int .i64 0, .int .i64 0, .int .i64 0, .int .u32 0, .int .i64 0, .int .i64 0, .string ⟨#[]⟩, .string ⟨#[]⟩]) (blk_put (cs := #[.int .i64 0, .int .i64 0, .int .i64 0, .int .i64 0, .int .i64 0, .int .u32 0, .int .i64 0, .int .i64 0, .string ⟨#[]⟩, .string ⟨#[]⟩]) (cs' := #[.int .i64 0, .int .i64 0, .int .i64 0, .int .i64 0, .int .i64 0, .int .u32 0, .int .i64 0, .int .i64 0, .string ⟨#[]⟩, .string ⟨#[]⟩]) (blk_put (cs := #[.int .i64 0, .int .i64 0, .int .i64 0, .int .i64 0, .int .i64 0, .int .u32 0, .int .i64 0, .int .i64 0, .string ⟨#[]⟩, .string ⟨#[]⟩]) (cs' := #[.int .i64 0, .int .i64 0, .int .i64 0, .int .i64 0, .int .i64 0, .int .u32 0, .int .i64 0, .int .i64 0, .string ⟨#[]⟩, .string ⟨#[]⟩]) (blk_put (cs := #[.int .i64 0, .int .i64 0, .int .i64 0, .int .i64 0, .int .i64 0, .int .u32 0, .int .i64 0, .int .i64 0, .string ⟨#[]⟩, .string ⟨#[]⟩]) (cs' := #[.int .i64 0, .int .i64 0, .int .i64 0, .int .i64 0, .int .i64 0, .int .u32 0, .int .i64 0, .int .i64 0, .string ⟨#[]⟩, .string ⟨#[]⟩]) (blk_put (cs := #[.int .i64 0, .int .i64 0, .int .i64 0, .int .i64 0, .int .i64 0, .int .u32 0, .int .i64 0, .int .i64 0, .string ⟨#[]⟩, .string ⟨#[]⟩]) (cs' := #[.int .i64 0, .int .i64 0, .int .i64 0, .int .i64 0, .int .i64 0, .int .u32 0, .int .i64 0, .int .i64 0, .string ⟨#[]⟩, .string ⟨#[]⟩]) (blk_put (cs := #[.int .i64 0, .int .i64 0, .int .i64 0, .int .i64 0, .int .i64 0, .int .u32 0, .int .i64 0, .int .i64 0, .string ⟨#[]⟩, .string ⟨#[]⟩]) (cs' := #[.int .i64 0, .int .i64 0, .int .i64 0, .int .i64 0, .int .i64 0, .int .u32 0, .int .i64 0, .int .i64 0, .string ⟨#[]⟩, .string ⟨#[]⟩]) (blk_put (cs := #[.int .i64 0, .int .i64 0, .int .i64 0, .int .i64 0, .int .i64 0, .int .u32 0, .int .i64 0, .int .i64 0, .string ⟨#[]⟩, .string ⟨#[]⟩]) (cs' := #[.int .i64 0, .int .i64 0, .int .i64 0, .int .i64 0, .int .i64 0, .int .u32 0, .int .i64 0, .int .i64 0, .string ⟨#[]⟩, .string ⟨#[]⟩]) (blk_put (cs := #[.int .i64 0, .int .i64 0, .int .i64 0, .int .i64 0, .int .i64 0, .int .u32 0, .int .i64 0, .int .i64 0, .string ⟨#[]⟩, .string ⟨#[]⟩]) (cs' := #[.int .i64 0, .int .i64 0, .int .i64 0, .int .i64 0, .int .i64 0, .int .u32 0, .int .i64 0, .int .i64 0, .string ⟨#[]⟩, .string ⟨#[]⟩]) (blk_put (cs := #[.int .i64 0, .int .i64 0, .int .i64 0, .int .i64 0, .int .i64 0, .int .u32 0, .int .i64 0, .int .i64 0, .string ⟨#[]⟩, .string ⟨#[]⟩]) (cs' := #[.int .i64 0, .int .i64 0, .int .i64 0, .int .i64 0, .int .i64 0, .int .u32 0, .int .i64 0, .int .i64 0, .string ⟨#[]⟩, .string ⟨#[]⟩]) (blk_put (cs := #[.int .i64 0, .int .i64 0, .int .i64 0, .int .i64 0, .int .i64 0, .int .u32 0, .int .i64 0, .int .i64 0, .string ⟨#[]⟩, .string ⟨#[]⟩]) (cs' := #[.int .i64 0, .int .i64 0, .int .i64 0, .int .i64 0, .int .i64 0, .int .u32 0, .int .i64 0, .int .i64 0, .string ⟨#[]⟩, .string ⟨#[]⟩]) HR.out 0 (.int .i64 0) rfl) 1 (.int .i64 0) rfl) 2 (.int .i64 0) rfl) 3 (.int .i64 0) rfl) 4 (.int .i64 0) rfl) 5 (.int .u32 0) rfl) 6 (.int .i64 0) rfl) 7 (.int .i64 0) rfl) 8 (.string ⟨#[]⟩) rfl) 9 (.string ⟨#[]⟩) rfl) Try.underlying24 rfl Try.infoL (.tmp (.tmp .nil)))) rfl ?_
  have hs := (Frm.setCell (Frm.setCell (Frm.setCell (Frm.setCell (Frm.setCell (Frm.setCell (Frm.setCell (Frm.setCell (Frm.setCell (Frm.setCell (Frm.refl (fun q => q = rx) w4) (p := ⟨rx, 0, none⟩) (.inl rfl) (.int .i64 0)) (p := ⟨rx, 1, none⟩) (.inl rfl) (.int .i64 0)) (p := ⟨rx, 2, none⟩) (.inl rfl) (.int .i64 0)) (p := ⟨rx, 3, none⟩) (.inl rfl) (.int .i64 0)) (p := ⟨rx, 4, none⟩) (.inl rfl) (.int .i64 0)) (p := ⟨rx, 5, none⟩) (.inl rfl) (.int .u32 0)) (p := ⟨rx, 6, none⟩) (.inl rfl) (.int .i64 0)) (p := ⟨rx, 7, none⟩) (.inl rfl) (.int .i64 0)) (p := ⟨rx, 8, none⟩) (.inl rfl) (.string ⟨#[]⟩)) (p := ⟨rx, 9, none⟩) (.inl rfl) (.string ⟨#[]⟩))
  exact ⟨rfl, by rw [HRX.out]; exact below_sets HG.out HRX.out hs⟩
set_option maxHeartbeats 16000000 in
set_option maxRecDepth 100000 in
theorem getLocal_ok (w : World) (A : Option Addr) (cp : Nat) (l : List Int) (at_ : Int) (hC : Kd.C (Kd.int .u8) w A l.length l) (hcp : l.length ≤ cp) (hl : l.length ≤ 140737488355328) (hy : ∀ x ∈ l, 0 ≤ x ∧ x < 256) (hE : fieldsE l at_ 30 67324752 = 0) (s1 s2 : ByteArray) (b : Nat) (hT : textsF l (at_ + 30).toNat [nm ((((((((((fieldsC l at_ 30).adv 2).adv 2).adv 2).adv 2).adv 2).adv 4).adv 4).adv 4).next 2), nm (((((((((((fieldsC l at_ 30).adv 2).adv 2).adv 2).adv 2).adv 2).adv 4).adv 4).adv 4).adv 2).next 2)] = some ([s1, s2], b)) :
    Calls Try.prog 35 #[.slice A l.length cp, .int .i64 at_] w fun e w' => e = .returned (.tuple #[.agg #[.int .i64 (nm ((fieldsC l at_ 30).next 2)), .int .i64 (nm (((fieldsC l at_ 30).adv 2).next 2)), .int .i64 (nm ((((fieldsC l at_ 30).adv 2).adv 2).next 2)), .int .i64 (nm (((((fieldsC l at_ 30).adv 2).adv 2).adv 2).next 2)), .int .i64 (nm ((((((fieldsC l at_ 30).adv 2).adv 2).adv 2).adv 2).next 2)), .int .u32 (nm (((((((fieldsC l at_ 30).adv 2).adv 2).adv 2).adv 2).adv 2).next 4) % 4294967296), .int .i64 (nm ((((((((fieldsC l at_ 30).adv 2).adv 2).adv 2).adv 2).adv 2).adv 4).next 4)), .int .i64 (nm (((((((((fieldsC l at_ 30).adv 2).adv 2).adv 2).adv 2).adv 2).adv 4).adv 4).next 4)), .string s1, .string s2], .int .i64 (b : Int), .int .i64 0]) ∧ Below w.heap.size w w' := by
  have HC := Aside0.mk hC
  have HY := Aside0.mk hy
  have hF := fields_calls (w.alloc (.cells #[.int .i64 0, .int .i64 0, .int .i64 0, .int .i64 0, .int .i64 0, .int .u32 0, .int .i64 0, .int .i64 0, .string ⟨#[]⟩, .string ⟨#[]⟩] 24)) A cp l at_ 67324752 30 (C_below' hC (below_alloc (Below.refl _ w) _)) hcp hl hy (by omega) (by omega)
  have HF := Aside0.mk hF
  have hR := blk_new w (.cells #[.int .i64 0, .int .i64 0, .int .i64 0, .int .i64 0, .int .i64 0, .int .u32 0, .int .i64 0, .int .i64 0, .string ⟨#[]⟩, .string ⟨#[]⟩] 24)
  have hs0 : (w.alloc (.cells #[.int .i64 0, .int .i64 0, .int .i64 0, .int .i64 0, .int .i64 0, .int .u32 0, .int .i64 0, .int .i64 0, .string ⟨#[]⟩, .string ⟨#[]⟩] 24)).heap.size = w.heap.size + 1 := by simp
  have hbel0 := below_alloc (Below.refl w.heap.size w) (.cells #[.int .i64 0, .int .i64 0, .int .i64 0, .int .i64 0, .int .i64 0, .int .u32 0, .int .i64 0, .int .i64 0, .string ⟨#[]⟩, .string ⟨#[]⟩] 24)
  have HR0 := Aside0.mk hR
  have HG0 := Aside0.mk hbel0
  have HS0 := Aside0.mk hs0
  clear hC hy hF hR hs0 hbel0
  rw [hE] at HF
  obtain ⟨ha0, ha1⟩ := fields_ok_le hE
  have b1 : (0 : Int) ≤ at_ + 30 := by omega
  have b2 : at_ + 30 ≤ 140737488355328 := by omega
  have b3 : at_ + 30 ≤ (l.length : Int) := by omega
  have HT := Aside0.mk hT
  clear hE hT ha0 ha1
  go_enter Try.func35, Try.ntmps35
  go_wp2_with fail
  generalize w.alloc (.cells #[.int .i64 0, .int .i64 0, .int .i64 0, .int .i64 0, .int .i64 0, .int .u32 0, .int .i64 0, .int .i64 0, .string ⟨#[]⟩, .string ⟨#[]⟩] 24) = w0 at HF HR0 HG0 HS0 ⊢
  generalize hrx : w.heap.size = rx at HR0 HG0 HS0 ⊢
  have HRX := Aside0.mk hrx
  clear hrx
  refine HF.out.mono ?_
  rintro e w1 hpost
  obtain ⟨g, B, rfl, hg, hB, hcur, hbel⟩ := hpost.2 rfl
  have hlt := cur_lt hcur
  have HR := Aside0.mk (blk_below HR0.out hbel)
  have HG := Aside0.mk (HG0.out.trans (hbel.mono (by rw [HS0.out]; omega)))
  have h1 : rx < g := by rw [HS0.out] at hg; omega
  have HCU := Aside0.mk hcur
  have HBS := Aside0.mk hB
  clear hpost hbel HF HR0 HG0 HS0 hcur hB hg
  go_wp2_with fail
  refine (getShared_calls _ B g _ HCU.out HBS.out).mono ?_
  rintro e w2 ⟨rfl, hcur, hF⟩
  have hS := St.begin (TX := 24) (X := #[.int .i64 (nm ((fieldsC l at_ 30).next 2)), .int .i64 (nm (((fieldsC l at_ 30).adv 2).next 2)), .int .i64 (nm ((((fieldsC l at_ 30).adv 2).adv 2).next 2)), .int .i64 (nm (((((fieldsC l at_ 30).adv 2).adv 2).adv 2).next 2)), .int .i64 (nm ((((((fieldsC l at_ 30).adv 2).adv 2).adv 2).adv 2).next 2)), .int .u32 (nm (((((((fieldsC l at_ 30).adv 2).adv 2).adv 2).adv 2).adv 2).next 4) % 4294967296), .int .i64 (nm ((((((((fieldsC l at_ 30).adv 2).adv 2).adv 2).adv 2).adv 2).adv 4).next 4)), .int .i64 (nm (((((((((fieldsC l at_ 30).adv 2).adv 2).adv 2).adv 2).adv 2).adv 4).adv 4).next 4)), .string ⟨#[]⟩, .string ⟨#[]⟩]) (w := w) (rx := rx) hcur (hF.blk HR.out (by omega)) (HG.out.trans (hF.to_below (by rw [← HRX.out]; exact HG.out.size) (fun q hq => by omega))) (Nat.le_trans HBS.out hF.size) h1 hlt HRX.out
  have HS := Aside0.mk hS
  clear HCU HBS HR HG hS hcur hF
  go_wp2_with fail
  have hy2 : ∀ c : CS, c.data = (fieldsC l at_ 30).data → 0 ≤ nm (c.next 2) ∧ nm (c.next 2) ≤ 4294967295 := fun c hc => nm_ok (by rw [hc]; exact fieldsC_data HY.out) (by omega)
  have HNM : Aside0 (∀ n ∈ ([nm ((((((((((fieldsC l at_ 30).adv 2).adv 2).adv 2).adv 2).adv 2).adv 4).adv 4).adv 4).next 2), nm (((((((((((fieldsC l at_ 30).adv 2).adv 2).adv 2).adv 2).adv 2).adv 4).adv 4).adv 4).adv 2).next 2)] : List Int), 0 ≤ n ∧ n ≤ 4294967295) := ⟨fun n hn => by
    rcases List.mem_cons.1 hn with rfl | hn
    · exact hy2 _ (by simp only [adv_data])
    · rw [List.mem_singleton.1 hn]; exact hy2 _ (by simp only [adv_data])⟩
  clear hy2
  have HSZ : Aside0 ((w2.alloc (.cells #[.int .i64 (nm ((fieldsC l at_ 30).next 2)), .int .i64 (nm (((fieldsC l at_ 30).adv 2).next 2)), .int .i64 (nm ((((fieldsC l at_ 30).adv 2).adv 2).next 2)), .int .i64 (nm (((((fieldsC l at_ 30).adv 2).adv 2).adv 2).next 2)), .int .i64 (nm ((((((fieldsC l at_ 30).adv 2).adv 2).adv 2).adv 2).next 2)), .int .u32 (nm (((((((fieldsC l at_ 30).adv 2).adv 2).adv 2).adv 2).adv 2).next 4) % 4294967296), .int .i64 (nm ((((((((fieldsC l at_ 30).adv 2).adv 2).adv 2).adv 2).adv 2).adv 4).next 4)), .int .i64 (nm (((((((((fieldsC l at_ 30).adv 2).adv 2).adv 2).adv 2).adv 2).adv 4).adv 4).next 4)), .string ⟨#[]⟩, .string ⟨#[]⟩] 24)).heap.size = w2.heap.size + 1) := ⟨by simp⟩
  generalize w2.alloc (.cells #[.int .i64 (nm ((fieldsC l at_ 30).next 2)), .int .i64 (nm (((fieldsC l at_ 30).adv 2).next 2)), .int .i64 (nm ((((fieldsC l at_ 30).adv 2).adv 2).next 2)), .int .i64 (nm (((((fieldsC l at_ 30).adv 2).adv 2).adv 2).next 2)), .int .i64 (nm ((((((fieldsC l at_ 30).adv 2).adv 2).adv 2).adv 2).next 2)), .int .u32 (nm (((((((fieldsC l at_ 30).adv 2).adv 2).adv 2).adv 2).adv 2).next 4) % 4294967296), .int .i64 (nm ((((((((fieldsC l at_ 30).adv 2).adv 2).adv 2).adv 2).adv 2).adv 4).next 4)), .int .i64 (nm (((((((((fieldsC l at_ 30).adv 2).adv 2).adv 2).adv 2).adv 2).adv 4).adv 4).next 4)), .string ⟨#[]⟩, .string ⟨#[]⟩] 24) = w3 at HS HSZ ⊢
  generalize w2.heap.size = bx at HS HSZ ⊢
  have hblk := blk_new w3 (.cells #[.int .i64 (nm ((((((((((fieldsC l at_ 30).adv 2).adv 2).adv 2).adv 2).adv 2).adv 4).adv 4).adv 4).next 2)), .int .i64 (nm (((((((((((fieldsC l at_ 30).adv 2).adv 2).adv 2).adv 2).adv 2).adv 4).adv 4).adv 4).adv 2).next 2))] 3)
  rw [HSZ.out] at hblk
  replace HS := Aside0.mk (HS.out.below (below_alloc (Below.refl _ w3) (.cells #[.int .i64 (nm ((((((((((fieldsC l at_ 30).adv 2).adv 2).adv 2).adv 2).adv 2).adv 4).adv 4).adv 4).next 2)), .int .i64 (nm (((((((((((fieldsC l at_ 30).adv 2).adv 2).adv 2).adv 2).adv 2).adv 4).adv 4).adv 4).adv 2).next 2))] 3)))
  have hC2 := C_below' HC.out (by rw [HRX.out]; exact HS.out.bel)
  have hT2 := texts_calls (w3.alloc (.cells #[.int .i64 (nm ((((((((((fieldsC l at_ 30).adv 2).adv 2).adv 2).adv 2).adv 2).adv 4).adv 4).adv 4).next 2)), .int .i64 (nm (((((((((((fieldsC l at_ 30).adv 2).adv 2).adv 2).adv 2).adv 2).adv 4).adv 4).adv 4).adv 2).next 2))] 3)) A cp l (at_ + 30) (some ⟨bx + 1, 0, none⟩) 2 [nm ((((((((((fieldsC l at_ 30).adv 2).adv 2).adv 2).adv 2).adv 2).adv 4).adv 4).adv 4).next 2), nm (((((((((((fieldsC l at_ 30).adv 2).adv 2).adv 2).adv 2).adv 2).adv 4).adv 4).adv 4).adv 2).next 2)] hC2 hcp hl b1 b3 (C_block hblk rfl (by simp)) (by simp) HNM.out
  generalize w3.alloc (.cells #[.int .i64 (nm ((((((((((fieldsC l at_ 30).adv 2).adv 2).adv 2).adv 2).adv 2).adv 4).adv 4).adv 4).next 2)), .int .i64 (nm (((((((((((fieldsC l at_ 30).adv 2).adv 2).adv 2).adv 2).adv 2).adv 4).adv 4).adv 4).adv 2).next 2))] 3) = wt at HS hT2 ⊢
  have HT2 := Aside0.mk hT2
  clear hT2 hblk hC2 HSZ
  refine HT2.out.mono ?_
  rintro e w4 hpost
  obtain ⟨A9, c9, rfl, hR9, hbel⟩ := hpost.2 _ _ HT.out
  have hown := Kd.own_of_R hR9
  obtain ⟨g9, cap9, hv9, hb9, _⟩ := hown.form (by simp)
  have hbs9 := own_base hown g9 (by rw [hv9]; rfl)
  simp only [Value.slice.injEq] at hv9
  obtain ⟨hA9, _, _⟩ := hv9
  subst hA9
  have hrow := hown.cells (g := g9) rfl
  have hrow0 : w4.cell? ⟨g9, 0, none⟩ = some (.string s1) := hrow 0 _ rfl
  have hrow1 : w4.cell? ⟨g9, 1, none⟩ = some (.string s2) := hrow 1 _ rfl
  have h9 : g9 ≠ bx := by have := blk_lt HS.out.x; omega
  have h9' : bx ≠ g9 := Ne.symm h9
  have hS4 := HS.out.below (hbel.mono (Nat.le_refl _))
  have x0 : w4.cell? ⟨bx, 0, none⟩ = some (.int .i64 (nm ((fieldsC l at_ 30).next 2))) := blk_cell hS4.x 0
  have y0 : w4.cell? ⟨rx, 0, none⟩ = some (.int .i64 0) := blk_cell hS4.r 0
  have z0 : w4.frozen? ⟨rx, 0, none⟩ = false := blk_frozen hS4.r 0
  have q0 : w4.frozen? ⟨bx, 0, none⟩ = false := blk_frozen hS4.x 0
  have x1 : w4.cell? ⟨bx, 1, none⟩ = some (.int .i64 (nm (((fieldsC l at_ 30).adv 2).next 2))) := blk_cell hS4.x 1
  have y1 : w4.cell? ⟨rx, 1, none⟩ = some (.int .i64 0) := blk_cell hS4.r 1
  have z1 : w4.frozen? ⟨rx, 1, none⟩ = false := blk_frozen hS4.r 1
  have q1 : w4.frozen? ⟨bx, 1, none⟩ = false := blk_frozen hS4.x 1
  have x2 : w4.cell? ⟨bx, 2, none⟩ = some (.int .i64 (nm ((((fieldsC l at_ 30).adv 2).adv 2).next 2))) := blk_cell hS4.x 2
  have y2 : w4.cell? ⟨rx, 2, none⟩ = some (.int .i64 0) := blk_cell hS4.r 2
  have z2 : w4.frozen? ⟨rx, 2, none⟩ = false := blk_frozen hS4.r 2
  have q2 : w4.frozen? ⟨bx, 2, none⟩ = false := blk_frozen hS4.x 2
  have x3 : w4.cell? ⟨bx, 3, none⟩ = some (.int .i64 (nm (((((fieldsC l at_ 30).adv 2).adv 2).adv 2).next 2))) := blk_cell hS4.x 3
  have y3 : w4.cell? ⟨rx, 3, none⟩ = some (.int .i64 0) := blk_cell hS4.r 3
  have z3 : w4.frozen? ⟨rx, 3, none⟩ = false := blk_frozen hS4.r 3
  have q3 : w4.frozen? ⟨bx, 3, none⟩ = false := blk_frozen hS4.x 3
  have x4 : w4.cell? ⟨bx, 4, none⟩ = some (.int .i64 (nm ((((((fieldsC l at_ 30).adv 2).adv 2).adv 2).adv 2).next 2))) := blk_cell hS4.x 4
  have y4 : w4.cell? ⟨rx, 4, none⟩ = some (.int .i64 0) := blk_cell hS4.r 4
  have z4 : w4.frozen? ⟨rx, 4, none⟩ = false := blk_frozen hS4.r 4
  have q4 : w4.frozen? ⟨bx, 4, none⟩ = false := blk_frozen hS4.x 4
  have x5 : w4.cell? ⟨bx, 5, none⟩ = some (.int .u32 (nm (((((((fieldsC l at_ 30).adv 2).adv 2).adv 2).adv 2).adv 2).next 4) % 4294967296)) := blk_cell hS4.x 5
  have y5 : w4.cell? ⟨rx, 5, none⟩ = some (.int .u32 0) := blk_cell hS4.r 5
  have z5 : w4.frozen? ⟨rx, 5, none⟩ = false := blk_frozen hS4.r 5
  have q5 : w4.frozen? ⟨bx, 5, none⟩ = false := blk_frozen hS4.x 5
  have x6 : w4.cell? ⟨bx, 6, none⟩ = some (.int .i64 (nm ((((((((fieldsC l at_ 30).adv 2).adv 2).adv 2).adv 2).adv 2).adv 4).next 4))) := blk_cell hS4.x 6
  have y6 : w4.cell? ⟨rx, 6, none⟩ = some (.int .i64 0) := blk_cell hS4.r 6
  have z6 : w4.frozen? ⟨rx, 6, none⟩ = false := blk_frozen hS4.r 6
  have q6 : w4.frozen? ⟨bx, 6, none⟩ = false := blk_frozen hS4.x 6
  have x7 : w4.cell? ⟨bx, 7, none⟩ = some (.int .i64 (nm (((((((((fieldsC l at_ 30).adv 2).adv 2).adv 2).adv 2).adv 2).adv 4).adv 4).next 4))) := blk_cell hS4.x 7
  have y7 : w4.cell? ⟨rx, 7, none⟩ = some (.int .i64 0) := blk_cell hS4.r 7
  have z7 : w4.frozen? ⟨rx, 7, none⟩ = false := blk_frozen hS4.r 7
  have q7 : w4.frozen? ⟨bx, 7, none⟩ = false := blk_frozen hS4.x 7
  have x8 : w4.cell? ⟨bx, 8, none⟩ = some (.string ⟨#[]⟩) := blk_cell hS4.x 8
  have y8 : w4.cell? ⟨rx, 8, none⟩ = some (.string ⟨#[]⟩) := blk_cell hS4.r 8
  have z8 : w4.frozen? ⟨rx, 8, none⟩ = false := blk_frozen hS4.r 8
  have q8 : w4.frozen? ⟨bx, 8, none⟩ = false := blk_frozen hS4.x 8
  have x9 : w4.cell? ⟨bx, 9, none⟩ = some (.string ⟨#[]⟩) := blk_cell hS4.x 9
  have y9 : w4.cell? ⟨rx, 9, none⟩ = some (.string ⟨#[]⟩) := blk_cell hS4.r 9
  have z9 : w4.frozen? ⟨rx, 9, none⟩ = false := blk_frozen hS4.r 9
  have q9 : w4.frozen? ⟨bx, 9, none⟩ = false := blk_frozen hS4.x 9
  have hrb : rx ≠ bx := by have := hS4.h1; have := hS4.h2; have := hS4.h3; omega
  have HS4 := Aside0.mk hS4
  have HZ4 := Aside0.mk (St.store (St.store hS4 8 (.string s1) (X' := #[.int .i64 (nm ((fieldsC l at_ 30).next 2)), .int .i64 (nm (((fieldsC l at_ 30).adv 2).next 2)), .int .i64 (nm ((((fieldsC l at_ 30).adv 2).adv 2).next 2)), .int .i64 (nm (((((fieldsC l at_ 30).adv 2).adv 2).adv 2).next 2)), .int .i64 (nm ((((((fieldsC l at_ 30).adv 2).adv 2).adv 2).adv 2).next 2)), .int .u32 (nm (((((((fieldsC l at_ 30).adv 2).adv 2).adv 2).adv 2).adv 2).next 4) % 4294967296), .int .i64 (nm ((((((((fieldsC l at_ 30).adv 2).adv 2).adv 2).adv 2).adv 2).adv 4).next 4)), .int .i64 (nm (((((((((fieldsC l at_ 30).adv 2).adv 2).adv 2).adv 2).adv 2).adv 4).adv 4).next 4)), .string s1, .string ⟨#[]⟩]) rfl) 9 (.string s2) (X' := #[.int .i64 (nm ((fieldsC l at_ 30).next 2)), .int .i64 (nm (((fieldsC l at_ 30).adv 2).next 2)), .int .i64 (nm ((((fieldsC l at_ 30).adv 2).adv 2).next 2)), .int .i64 (nm (((((fieldsC l at_ 30).adv 2).adv 2).adv 2).next 2)), .int .i64 (nm ((((((fieldsC l at_ 30).adv 2).adv 2).adv 2).adv 2).next 2)), .int .u32 (nm (((((((fieldsC l at_ 30).adv 2).adv 2).adv 2).adv 2).adv 2).next 4) % 4294967296), .int .i64 (nm ((((((((fieldsC l at_ 30).adv 2).adv 2).adv 2).adv 2).adv 2).adv 4).next 4)), .int .i64 (nm (((((((((fieldsC l at_ 30).adv 2).adv 2).adv 2).adv 2).adv 2).adv 4).adv 4).next 4)), .string s1, .string s2]) rfl)
  clear hpost hbel hS4 HS HT2 hR9 hown hrow hb9 hbs9
  go_upto_region 8 with fail
  go_region
  have HS5 := Aside0.mk (St.drew HZ4.out)
  clear HZ4 HS4 h9 h9' hrow0 hrow1 x0 y0 z0 q0 x1 y1 z1 q1 x2 y2 z2 q2 x3 y3 z3 q3 x4 y4 z4 q4 x5 y5 z5 q5 x6 y6 z6 q6 x7 y7 z7 q7 x8 y8 z8 q8 x9 y9 z9 q9
  generalize ((w4.setCell ⟨bx, 8, none⟩ (.string s1)).setCell ⟨bx, 9, none⟩ (.string s2)).drew = w5 at HS5 ⊢
  have x0 : w5.cell? ⟨bx, 0, none⟩ = some (.int .i64 (nm ((fieldsC l at_ 30).next 2))) := blk_cell HS5.out.x 0
  have y0 : w5.cell? ⟨rx, 0, none⟩ = some (.int .i64 0) := blk_cell HS5.out.r 0
  have z0 : w5.frozen? ⟨rx, 0, none⟩ = false := blk_frozen HS5.out.r 0
  have x1 : w5.cell? ⟨bx, 1, none⟩ = some (.int .i64 (nm (((fieldsC l at_ 30).adv 2).next 2))) := blk_cell HS5.out.x 1
  have y1 : w5.cell? ⟨rx, 1, none⟩ = some (.int .i64 0) := blk_cell HS5.out.r 1
  have z1 : w5.frozen? ⟨rx, 1, none⟩ = false := blk_frozen HS5.out.r 1
  have x2 : w5.cell? ⟨bx, 2, none⟩ = some (.int .i64 (nm ((((fieldsC l at_ 30).adv 2).adv 2).next 2))) := blk_cell HS5.out.x 2
  have y2 : w5.cell? ⟨rx, 2, none⟩ = some (.int .i64 0) := blk_cell HS5.out.r 2
  have z2 : w5.frozen? ⟨rx, 2, none⟩ = false := blk_frozen HS5.out.r 2
  have x3 : w5.cell? ⟨bx, 3, none⟩ = some (.int .i64 (nm (((((fieldsC l at_ 30).adv 2).adv 2).adv 2).next 2))) := blk_cell HS5.out.x 3
  have y3 : w5.cell? ⟨rx, 3, none⟩ = some (.int .i64 0) := blk_cell HS5.out.r 3
  have z3 : w5.frozen? ⟨rx, 3, none⟩ = false := blk_frozen HS5.out.r 3
  have x4 : w5.cell? ⟨bx, 4, none⟩ = some (.int .i64 (nm ((((((fieldsC l at_ 30).adv 2).adv 2).adv 2).adv 2).next 2))) := blk_cell HS5.out.x 4
  have y4 : w5.cell? ⟨rx, 4, none⟩ = some (.int .i64 0) := blk_cell HS5.out.r 4
  have z4 : w5.frozen? ⟨rx, 4, none⟩ = false := blk_frozen HS5.out.r 4
  have x5 : w5.cell? ⟨bx, 5, none⟩ = some (.int .u32 (nm (((((((fieldsC l at_ 30).adv 2).adv 2).adv 2).adv 2).adv 2).next 4) % 4294967296)) := blk_cell HS5.out.x 5
  have y5 : w5.cell? ⟨rx, 5, none⟩ = some (.int .u32 0) := blk_cell HS5.out.r 5
  have z5 : w5.frozen? ⟨rx, 5, none⟩ = false := blk_frozen HS5.out.r 5
  have x6 : w5.cell? ⟨bx, 6, none⟩ = some (.int .i64 (nm ((((((((fieldsC l at_ 30).adv 2).adv 2).adv 2).adv 2).adv 2).adv 4).next 4))) := blk_cell HS5.out.x 6
  have y6 : w5.cell? ⟨rx, 6, none⟩ = some (.int .i64 0) := blk_cell HS5.out.r 6
  have z6 : w5.frozen? ⟨rx, 6, none⟩ = false := blk_frozen HS5.out.r 6
  have x7 : w5.cell? ⟨bx, 7, none⟩ = some (.int .i64 (nm (((((((((fieldsC l at_ 30).adv 2).adv 2).adv 2).adv 2).adv 2).adv 4).adv 4).next 4))) := blk_cell HS5.out.x 7
  have y7 : w5.cell? ⟨rx, 7, none⟩ = some (.int .i64 0) := blk_cell HS5.out.r 7
  have z7 : w5.frozen? ⟨rx, 7, none⟩ = false := blk_frozen HS5.out.r 7
  have x8 : w5.cell? ⟨bx, 8, none⟩ = some (.string s1) := blk_cell HS5.out.x 8
  have y8 : w5.cell? ⟨rx, 8, none⟩ = some (.string ⟨#[]⟩) := blk_cell HS5.out.r 8
  have z8 : w5.frozen? ⟨rx, 8, none⟩ = false := blk_frozen HS5.out.r 8
  have x9 : w5.cell? ⟨bx, 9, none⟩ = some (.string s2) := blk_cell HS5.out.x 9
  have y9 : w5.cell? ⟨rx, 9, none⟩ = some (.string ⟨#[]⟩) := blk_cell HS5.out.r 9
  have z9 : w5.frozen? ⟨rx, 9, none⟩ = false := blk_frozen HS5.out.r 9
  go_wp2_with fail
  have HR := Aside0.mk HS5.out.r
  have HG := Aside0.mk HS5.out.bel
  refine bodyPost_ret (results_list (rs := [.cell 4 24, .tmp 5, .tmp 6]) rfl (by simp) (.cell rx 24 #[.int .i64 (nm ((fieldsC l at_ 30).next 2)), .int .i64 (nm (((fieldsC l at_ 30).adv 2).next 2)), .int .i64 (nm ((((fieldsC l at_ 30).adv 2).adv 2).next 2)), .int .i64 (nm (((((fieldsC l at_ 30).adv 2).adv 2).adv 2).next 2)), .int .i64 (nm ((((((fieldsC l at_ 30).adv 2).adv 2).adv 2).adv 2).next 2)), .int .u32 (nm (((((((fieldsC l at_ 30).adv 2).adv 2).adv 2).adv 2).adv 2).next 4) % 4294967296), .int .i64 (nm ((((((((fieldsC l at_ 30).adv 2).adv 2).adv 2).adv 2).adv 2).adv 4).next 4)), .int .i64 (nm (((((((((fieldsC l at_ 30).adv 2).adv 2).adv 2).adv 2).adv 2).adv 4).adv 4).next 4)), .string s1, .string s2] (0, 0) _ rfl (blk_put (cs := #[.int .i64 (nm ((fieldsC l at_ 30).next 2)), .int .i64 (nm (((fieldsC l at_ 30).adv 2).next 2)), .int .i64 (nm ((((fieldsC l at_ 30).adv 2).adv 2).next 2)), .int .i64 (nm (((((fieldsC l at_ 30).adv 2).adv 2).adv 2).next 2)), .int .i64 (nm ((((((fieldsC l at_ 30).adv 2).adv 2).adv 2).adv 2).next 2)), .int .u32 (nm (((((((fieldsC l at_ 30).adv 2).adv 2).adv 2).adv 2).adv 2).next 4) % 4294967296), .int .i64 (nm ((((((((fieldsC l at_ 30).adv 2).adv 2).adv 2).adv 2).adv 2).adv 4).next 4)), .int .i64 (nm (((((((((fieldsC l at_ 30).adv 2).adv 2).adv 2).adv 2).adv 2).adv 4).adv 4).next 4)), .string s1, .string ⟨#[]⟩]) (cs' := #[.int .i64 (nm ((fieldsC l at_ 30).next 2)), .int .i64 (nm (((fieldsC l at_ 30).adv 2).next 2)), .int .i64 (nm ((((fieldsC l at_ 30).adv 2).adv 2).next 2)), .int .i64 (nm (((((fieldsC l at_ 30).adv 2).adv 2).adv 2).next 2)), .int .i64 (nm ((((((fieldsC l at_ 30).adv 2).adv 2).adv 2).adv 2).next 2)), .int .u32 (nm (((((((fieldsC l at_ 30).adv 2).adv 2).adv 2).adv 2).adv 2).next 4) % 4294967296), .int .i64 (nm ((((((((fieldsC l at_ 30).adv 2).adv 2).adv 2).adv 2).adv 2).adv 4).next 4)), .int .i64 (nm (((((((((fieldsC l at_ 30).adv 2).adv 2).adv 2).adv 2).adv 2).adv 4).adv 4).next 4)), .string s1, .string s2]) (blk_put (cs := #[.int .i64 (nm ((fieldsC l at_ 30).next 2)), .int .i64 (nm (((fieldsC l at_ 30).adv 2).next 2)), .int .i64 (nm ((((fieldsC l at_ 30).adv 2).adv 2).next 2)), .int .i64 (nm (((((fieldsC l at_ 30).adv 2).adv 2).adv 2).next 2)), .int .i64 (nm ((((((fieldsC l at_ 30).adv 2).adv 2).adv 2).adv 2).next 2)), .int .u32 (nm (((((((fieldsC l at_ 30).adv 2).adv 2).adv 2).adv 2).adv 2).next 4) % 4294967296), .int .i64 (nm ((((((((fieldsC l at_ 30).adv 2).adv 2).adv 2).adv 2).adv 2).adv 4).next 4)), .int .i64 (nm (((((((((fieldsC l at_ 30).adv 2).adv 2).adv 2).adv 2).adv 2).adv 4).adv 4).next 4)), .string ⟨#[]⟩, .string ⟨#[]⟩]) (cs' := #[.int .i64 (nm ((fieldsC l at_ 30).next 2)), .int .i64 (nm (((fieldsC l at_ 30).adv 2).next 2)), .int .i64 (nm ((((fieldsC l at_ 30).adv 2).adv 2).next 2)), .int .i64 (nm (((((fieldsC l at_ 30).adv 2).adv 2).adv 2).next 2)), .int .i64 (nm ((((((fieldsC l at_ 30).adv 2).adv 2).adv 2).adv 2).next 2)), .int .u32 (nm (((((((fieldsC l at_ 30).adv 2).adv 2).adv 2).adv 2).adv 2).next 4) % 4294967296), .int .i64 (nm ((((((((fieldsC l at_ 30).adv 2).adv 2).adv 2).adv 2).adv 2).adv 4).next 4)), .int .i64 (nm (((((((((fieldsC l at_ 30).adv 2).adv 2).adv 2).adv 2).adv 2).adv 4).adv 4).next 4)), .string s1, .string ⟨#[]⟩]) (blk_put (cs := #[.int .i64 (nm ((fieldsC l at_ 30).next 2)), .int .i64 (nm (((fieldsC l at_ 30).adv 2).next 2)), .int .i64 (nm ((((fieldsC l at_ 30).adv 2).adv 2).next 2)), .int .i64 (nm (((((fieldsC l at_ 30).adv 2).adv 2).adv 2).next 2)), .int .i64 (nm ((((((fieldsC l at_ 30).adv 2).adv 2).adv 2).adv 2).next 2)), .int .u32 (nm (((((((fieldsC l at_ 30).adv 2).adv 2).adv 2).adv 2).adv 2).next 4) % 4294967296), .int .i64 (nm ((((((((fieldsC l at_ 30).adv 2).adv 2).adv 2).adv 2).adv 2).adv 4).next 4)), .int .i64 0, .string ⟨#[]⟩, .string ⟨#[]⟩]) (cs' := #[.int .i64 (nm ((fieldsC l at_ 30).next 2)), .int .i64 (nm (((fieldsC l at_ 30).adv 2).next 2)), .int .i64 (nm ((((fieldsC l at_ 30).adv 2).adv 2).next 2)), .int .i64 (nm (((((fieldsC l at_ 30).adv 2).adv 2).adv 2).next 2)), .int .i64 (nm ((((((fieldsC l at_ 30).adv 2).adv 2).adv 2).adv 2).next 2)), .int .u32 (nm (((((((fieldsC l at_ 30).adv 2).adv 2).adv 2).adv 2).adv 2).next 4) % 4294967296), .int .i64 (nm ((((((((fieldsC l at_ 30).adv 2).adv 2).adv 2).adv 2).adv 2).adv 4).next 4)), .int .i64 (nm (((((((((fieldsC l at_ 30).adv 2).adv 2).adv 2).adv 2).adv 2).adv 4).adv 4).next 4)), .string ⟨#[]⟩, .string ⟨#[]⟩]) (blk_put (cs := #[.int .i64 (nm ((fieldsC l at_ 30).next 2)), .int .i64 (nm (((fieldsC l at_ 30).adv 2).next 2)), .int .i64 (nm ((((fieldsC l at_ 30).adv 2).adv 2).next 2)), .int .i64 (nm (((((fieldsC l at_ 30).adv 2).adv 2).adv 2).next 2)), .int .i64 (nm ((((((fieldsC l at_ 30).adv 2).adv 2).adv 2).adv 2).next 2)), .int .u32 (nm (((((((fieldsC l at_ 30).adv 2).adv 2).adv 2).adv 2).adv 2).next 4) % 4294967296), .int .i64 0, .int .i64 0, .string ⟨#[]⟩, .string ⟨#[]⟩]) (cs' := #[.int .i64 (nm ((fieldsC l at_ 30).next 2)), .int .i64 (nm (((fieldsC l at_ 30).adv 2).next 2)), .int .i64 (nm ((((fieldsC l at_ 30).adv 2).adv 2).next 2)), .int .i64 (nm (((((fieldsC l at_ 30).adv 2).adv 2).adv 2).next 2)), .int .i64 (nm ((((((fieldsC l at_ 30).adv 2).adv 2).adv 2).adv 2).next 2)), .int .u32 (nm (((((((fieldsC l at_ 30).adv 2).adv 2).adv 2).adv 2).adv 2).next 4) % 4294967296), .int .i64 (nm ((((((((fieldsC l at_ 30).adv 2).adv 2).adv 2).adv 2).adv 2).adv 4).next 4)), .int .i64 0, .string ⟨#[]⟩, .string ⟨#[]⟩]) (blk_put (cs := #[.int .i64 (nm ((fieldsC l at_ 30).next 2)), .int .i64 (nm (((fieldsC l at_ 30).adv 2).next 2)), .int .i64 (nm ((((fieldsC l at_ 30).adv 2).adv 2).next 2)), .int .i64 (nm (((((fieldsC l at_ 30).adv 2).adv 2).adv 2).next 2)), .int .i64 (nm ((((((fieldsC l at_ 30).adv 2).adv 2).adv 2).adv 2).next 2)), .int .u32 0, .int .i64 0, .int .i64 0, .string ⟨#[]⟩, .string ⟨#[]⟩]) (cs' := #[.int .i64 (nm ((fieldsC l at_ 30).next 2)), .int .i64 (nm (((fieldsC l at_ 30).adv 2).next 2)), .int .i64 (nm ((((fieldsC l at_ 30).adv 2).adv 2).next 2)), .int .i64 (nm (((((fieldsC l at_ 30).adv 2).adv 2).adv 2).next 2)), .int .i64 (nm ((((((fieldsC l at_ 30).adv 2).adv 2).adv 2).adv 2).next 2)), .int .u32 (nm (((((((fieldsC l at_ 30).adv 2).adv 2).adv 2).adv 2).adv 2).next 4) % 4294967296), .int .i64 0, .int .i64 0, .string ⟨#[]⟩, .string ⟨#[]⟩]) (blk_put (cs := #[.int .i64 (nm ((fieldsC l at_ 30).next 2)), .int .i64 (nm (((fieldsC l at_ 30).adv 2).next 2)), .int .i64 (nm ((((fieldsC l at_ 30).adv 2).adv 2).next 2)), .int .i64 (nm (((((fieldsC l at_ 30).adv 2).adv 2).adv 2).next 2)), .int .i64 0, .int .u32 0, .int .i64 0, .int .i64 0, .string ⟨#[]⟩, .string ⟨#[]⟩]) (cs' := #[.int .i64 (nm ((fieldsC l at_ 30).next 2)), .int .i64 (nm (((fieldsC l at_ 30).adv 2).next 2)), .int .i64 (nm ((((fieldsC l at_ 30).adv 2).adv 2).next 2)), .int .i64 (nm (((((fieldsC l at_ 30).adv 2).adv 2).adv 2).next 2)), .int .i64 (nm ((((((fieldsC l at_ 30).adv 2).adv 2).adv 2).adv 2).next 2)), .int .u32 0, .int .i64 0, .int .i64 0, .string ⟨#[]⟩, .string ⟨#[]⟩]) (blk_put (cs := #[.int .i64 (nm ((fieldsC l at_ 30).next 2)), .int .i64 (nm (((fieldsC l at_ 30).adv 2).next 2)), .int .i64 (nm ((((fieldsC l at_ 30).adv 2).adv 2).next 2)), .int .i64 0, .int .i64 0, .int .u32 0, .int .i64 0, .int .i64 0, .string ⟨#[]⟩, .string ⟨#[]⟩]) (cs' := #[.int .i64 (nm ((fieldsC l at_ 30).next 2)), .int .i64 (nm (((fieldsC l at_ 30).adv 2).next 2)), .int .i64 (nm ((((fieldsC l at_ 30).adv 2).adv 2).next 2)), .int .i64 (nm (((((fieldsC l at_ 30).adv 2).adv 2).adv 2).next 2)), .int .i64 0, .int .u32 0, .int .i64 0, .int .i64 0, .string ⟨#[]⟩, .string ⟨#[]⟩]) (blk_put (cs := #[.int .i64 (nm ((fieldsC l at_ 30).next 2)), .int .i64 (nm (((fieldsC l at_ 30).adv 2).next 2)), .int .i64 0, .int .i64 0, .int .i64 0, .int .u32 0, .int .i64 0, .int .i64 0, .string ⟨#[]⟩, .string ⟨#[]⟩]) (cs' := #[.int .i64 (nm ((fieldsC l at_ 30).next 2)), .int .i64 (nm (((fieldsC l at_ 30).adv 2).next 2)), .int .i64 (nm ((((fieldsC l at_ 30).adv 2).adv 2).next 2)), .int .i64 0, .int .i64 0, .int .u32 0, .int .i64 0, .int .i64 0, .string ⟨#[]⟩, .string ⟨#[]⟩]) (blk_put (cs := #[.int .i64 (nm ((fieldsC l at_ 30).next 2)), .int .i64 0, .int .i64 0, .int .i64 0, .int .i64 0, .int .u32 0, .int .i64 0, .int .i64 0, .string ⟨#[]⟩, .string ⟨#[]⟩]) (cs' := #[.int .i64 (nm ((fieldsC l at_ 30).next 2)), .int .i64 (nm (((fieldsC l at_ 30).adv 2).next 2)), .int .i64 0, .int .i64 0, .int .i64 0, .int .u32 0, .int .i64 0, .int .i64 0, .string ⟨#[]⟩, .string ⟨#[]⟩]) (blk_put (cs := #[.int .i64 0, .int .i64 0, .int .i64 0, .int .i64 0, .int .i64 0, .int .u32 0, .int .i64 0, .int .i64 0, .string ⟨#[]⟩, .string ⟨#[]⟩]) (cs' := #[.int .i64 (nm ((fieldsC l at_ 30).next 2)), .int .i64 0, .int .i64 0, .int .i64 0, .int .i64 0, .int .u32 0, .int .i64 0, .int .i64 0, .string ⟨#[]⟩, .string ⟨#[]⟩]) HR.out 0 (.int .i64 (nm ((fieldsC l at_ 30).next 2))) rfl) 1 (.int .i64 (nm (((fieldsC l at_ 30).adv 2).next 2))) rfl) 2 (.int .i64 (nm ((((fieldsC l at_ 30).adv 2).adv 2).next 2))) rfl) 3 (.int .i64 (nm (((((fieldsC l at_ 30).adv 2).adv 2).adv 2).next 2))) rfl) 4 (.int .i64 (nm ((((((fieldsC l at_ 30).adv 2).adv 2).adv 2).adv 2).next 2))) rfl) 5 (.int .u32 (nm (((((((fieldsC l at_ 30).adv 2).adv 2).adv 2).adv 2).adv 2).next 4) % 4294967296)) rfl) 6 (.int .i64 (nm ((((((((fieldsC l at_ 30).adv 2).adv 2).adv 2).adv 2).adv 2).adv 4).next 4))) rfl) 7 (.int .i64 (nm (((((((((fieldsC l at_ 30).adv 2).adv 2).adv 2).adv 2).adv 2).adv 4).adv 4).next 4))) rfl) 8 (.string s1) rfl) 9 (.string s2) rfl) Try.underlying24 rfl Try.infoL (.tmp (.tmp .nil)))) rfl ?_
  have hs := (Frm.setCell (Frm.setCell (Frm.setCell (Frm.setCell (Frm.setCell (Frm.setCell (Frm.setCell (Frm.setCell (Frm.setCell (Frm.setCell (Frm.refl (fun q => q = rx) w5) (p := ⟨rx, 0, none⟩) (.inl rfl) (.int .i64 (nm ((fieldsC l at_ 30).next 2)))) (p := ⟨rx, 1, none⟩) (.inl rfl) (.int .i64 (nm (((fieldsC l at_ 30).adv 2).next 2)))) (p := ⟨rx, 2, none⟩) (.inl rfl) (.int .i64 (nm ((((fieldsC l at_ 30).adv 2).adv 2).next 2)))) (p := ⟨rx, 3, none⟩) (.inl rfl) (.int .i64 (nm (((((fieldsC l at_ 30).adv 2).adv 2).adv 2).next 2)))) (p := ⟨rx, 4, none⟩) (.inl rfl) (.int .i64 (nm ((((((fieldsC l at_ 30).adv 2).adv 2).adv 2).adv 2).next 2)))) (p := ⟨rx, 5, none⟩) (.inl rfl) (.int .u32 (nm (((((((fieldsC l at_ 30).adv 2).adv 2).adv 2).adv 2).adv 2).next 4) % 4294967296))) (p := ⟨rx, 6, none⟩) (.inl rfl) (.int .i64 (nm ((((((((fieldsC l at_ 30).adv 2).adv 2).adv 2).adv 2).adv 2).adv 4).next 4)))) (p := ⟨rx, 7, none⟩) (.inl rfl) (.int .i64 (nm (((((((((fieldsC l at_ 30).adv 2).adv 2).adv 2).adv 2).adv 2).adv 4).adv 4).next 4)))) (p := ⟨rx, 8, none⟩) (.inl rfl) (.string s1)) (p := ⟨rx, 9, none⟩) (.inl rfl) (.string s2))
  exact ⟨rfl, by rw [HRX.out]; exact below_sets HG.out HRX.out hs⟩
end Go.Proofs.Ytkmnhlhpmfkloaa.Fld
