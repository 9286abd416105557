/- What GetDescriptor of record does: walked by hand. -/
import Derived.Test.YtkmnhlhpmfkloaaFldC
import Derived.Test.YtkmnhlhpmfkloaaFldP
import Derived.Test.YtkmnhlhpmfkloaaAgg
namespace Go.Proofs.Ytkmnhlhpmfkloaa.Fld
open Go.RowKit Go.Proofs.YtkmnhlhpmfkloaaW.PrintWords Go.Proofs.YtkmnhlhpmfkloaaW.PrintLast Go.Proofs.YtkmnhlhpmfkloaaW.PrintMore Go.Proofs.Ytkmnhlhpmfkloaa.Mem
set_option linter.unusedVariables false
set_option linter.unusedSimpArgs false
theorem Try.infoAggL : (Try.prog.info? 24).map (fun i => (i.zero, i.size, i.bytes)) = some (some (.agg #[.int .i64 0, .int .i64 0, .int .i64 0, .int .i64 0, .int .i64 0, .int .u32 0, .int .i64 0, .int .i64 0, .string ⟨#[]⟩, .string ⟨#[]⟩]), 10, 96) := by kernel_rfl
def hasP (a p : List Int) : Bool := (strOfNums (a.take p.length)).toList == (strOfNums p).toList
theorem gnum_ok {b : BS} {v : Int} {n : Nat} (h : (b.num v n).err = 0) : b.err = 0 ∧ 0 ≤ v ∧ v < (256 : Int) ^ n ∧ b.num v n = ⟨b.l ++ le n v, b.lim, 0⟩ := by
  unfold BS.num at h ⊢
  by_cases h1 : b.err ≠ 0
  · rw [if_pos h1] at h; exact absurd h h1
  · rw [if_neg h1] at h ⊢
    have h1' : b.err = 0 := by simpa using h1
    by_cases h2 : v < 0 ∨ (256 : Int) ^ n ≤ v
    · rw [if_pos h2] at h; simp at h
    · rw [if_neg h2] at h ⊢
      by_cases h3 : b.lim - b.l.length < n
      · rw [if_pos h3] at h; simp at h
      · rw [if_neg h3]
        refine ⟨h1', by omega, by omega, by rw [h1']⟩
theorem gnum_fit {b : BS} {v : Int} {n : Nat} (h1 : b.err = 0) (h2 : 0 ≤ v) (h3 : v < (256 : Int) ^ n) (h4 : (b.l.length : Int) + n ≤ b.lim) : b.num v n = ⟨b.l ++ le n v, b.lim, 0⟩ := by
  unfold BS.num
  rw [if_neg (by simpa using h1), if_neg (by omega), if_neg (by omega), h1]
theorem descB_ok (b0 : Int) (b1 : Int) (b2 : Int) (b3 : Int) (b4 : Int) (b5 : Int) (b6 : Int) (b7 : Int) (b8 : ByteArray) (b9 : ByteArray) (h : (descB b0 b1 b2 b3 b4 b5 b6 b7 b8 b9 true).err = 0) : (0 ≤ wrap64 b5 ∧ wrap64 b5 < 4294967296) ∧ (0 ≤ b6 ∧ b6 < 4294967296) ∧ (0 ≤ b7 ∧ b7 < 4294967296) ∧ descB b0 b1 b2 b3 b4 b5 b6 b7 b8 b9 true = ⟨le 4 134695760 ++ le 4 (wrap64 b5) ++ le 4 b6 ++ le 4 b7, 16, 0⟩ := by
  unfold descB at *
  obtain ⟨e3, x3, y3, z3⟩ := gnum_ok h
  obtain ⟨e2, x2, y2, z2⟩ := gnum_ok e3
  obtain ⟨e1, x1, y1, z1⟩ := gnum_ok e2
  have e0 : (⟨[], 16, 0⟩ : BS).num 134695760 4 = ⟨le 4 134695760, 16, 0⟩ := gnum_fit rfl (by omega) (by omega) (by simp)
  refine ⟨⟨x1, by omega⟩, ⟨x2, by omega⟩, ⟨x3, by omega⟩, ?_⟩
  rw [z3, z2, z1, if_pos rfl, e0]
theorem descB_fit (b0 : Int) (b1 : Int) (b2 : Int) (b3 : Int) (b4 : Int) (b5 : Int) (b6 : Int) (b7 : Int) (b8 : ByteArray) (b9 : ByteArray) (h1 : 0 ≤ wrap64 b5) (h1' : wrap64 b5 < 4294967296) (h2 : 0 ≤ b6) (h2' : b6 < 4294967296) (h3 : 0 ≤ b7) (h3' : b7 < 4294967296) : descB b0 b1 b2 b3 b4 b5 b6 b7 b8 b9 true = ⟨le 4 134695760 ++ le 4 (wrap64 b5) ++ le 4 b6 ++ le 4 b7, 16, 0⟩ := by
  unfold descB
  have e0 : (⟨[], 16, 0⟩ : BS).num 134695760 4 = ⟨le 4 134695760, 16, 0⟩ := gnum_fit rfl (by omega) (by omega) (by simp)
  rw [if_pos rfl, e0, gnum_fit rfl h1 (by omega) (by simp [le_length]), gnum_fit rfl h2 (by omega) (by simp [le_length]), gnum_fit rfl h3 (by omega) (by simp [le_length])]
theorem descB_len (b0 : Int) (b1 : Int) (b2 : Int) (b3 : Int) (b4 : Int) (b5 : Int) (b6 : Int) (b7 : Int) (b8 : ByteArray) (b9 : ByteArray) (h : (descB b0 b1 b2 b3 b4 b5 b6 b7 b8 b9 true).err = 0) : (descB b0 b1 b2 b3 b4 b5 b6 b7 b8 b9 true).l.length = 16 := by
  rw [(descB_ok b0 b1 b2 b3 b4 b5 b6 b7 b8 b9 h).2.2.2]
  simp [le_length]
def getDescF (l : List Int) (at_ : Int) (b0 : Int) (b1 : Int) (b2 : Int) (b3 : Int) (b4 : Int) (b5 : Int) (b6 : Int) (b7 : Int) (b8 : ByteArray) (b9 : ByteArray) : Int × Int :=
  if at_ < 0 ∨ (l.length : Int) < at_ then (0, 1)
  else if (descB b0 b1 b2 b3 b4 b5 b6 b7 b8 b9 true).err = 0 then
    (if hasP (l.drop at_.toNat) (descB b0 b1 b2 b3 b4 b5 b6 b7 b8 b9 true).l = true then (16, 0)
     else if hasP (l.drop at_.toNat) ((descB b0 b1 b2 b3 b4 b5 b6 b7 b8 b9 true).l.drop 4) = true then (12, 0)
     else if (l.length : Int) - at_ < 12 then (0, 122) else (0, 123))
  else (0, 124)
theorem below_drewN_ {n : Nat} {w w1 : World} (h : Below n w w1) (k : Nat) : Below n w (w1.drewN k) := pw_below_drewN h k
set_option maxHeartbeats 16000000 in
set_option maxRecDepth 100000 in
theorem getDesc_calls (w : World) (A : Option Addr) (cp : Nat) (l : List Int) (at_ : Int) (b0 : Int) (b1 : Int) (b2 : Int) (b3 : Int) (b4 : Int) (b5 : Int) (b6 : Int) (b7 : Int) (b8 : ByteArray) (b9 : ByteArray) (hC : Kd.C (Kd.int .u8) w A l.length l) (hcp : l.length ≤ cp) (hl : l.length ≤ 140737488355328)
    (hP : ∀ (A0 : Option Addr) (c0 : Nat) (l0 : List Int) (A1 : Option Addr) (c1 : Nat) (l1 : List Int) (w : World), Kd.C (Kd.int .u8) w A0 l0.length l0 → l0.length ≤ c0 → Kd.C (Kd.int .u8) w A1 l1.length l1 → l1.length ≤ c1 → l0.length ≤ 140737488355328 →
      Calls Try.prog 53 #[.slice A0 l0.length c0, .slice A1 l1.length c1] w fun e w' => e = .returned (.bool (hasP l0 l1)) ∧ Drawn0 w w') :
    Calls Try.prog 18 #[.slice A l.length cp, .int .i64 at_, .agg #[.int .i64 b0, .int .i64 b1, .int .i64 b2, .int .i64 b3, .int .i64 b4, .int .u32 b5, .int .i64 b6, .int .i64 b7, .string b8, .string b9]] w fun e w' => e = .returned (.tuple #[.int .i64 (getDescF l at_ b0 b1 b2 b3 b4 b5 b6 b7 b8 b9).1, .int .i64 (getDescF l at_ b0 b1 b2 b3 b4 b5 b6 b7 b8 b9).2]) ∧ Below w.heap.size w w' := by
  have HC := Aside0.mk hC
  have HP := Aside0.mk hP
  have hX := blk_new w (.cells #[.int .i64 b0, .int .i64 b1, .int .i64 b2, .int .i64 b3, .int .i64 b4, .int .u32 b5, .int .i64 b6, .int .i64 b7, .string b8, .string b9] 24)
  have HX := Aside0.mk hX
  have HB0 := Aside0.mk (below_alloc (Below.refl w.heap.size w) (.cells #[.int .i64 b0, .int .i64 b1, .int .i64 b2, .int .i64 b3, .int .i64 b4, .int .u32 b5, .int .i64 b6, .int .i64 b7, .string b8, .string b9] 24))
  obtain ⟨r1, r2, hr⟩ : ∃ r1 r2, getDescF l at_ b0 b1 b2 b3 b4 b5 b6 b7 b8 b9 = (r1, r2) := ⟨_, _, rfl⟩
  rw [hr]
  obtain ⟨i0, hi0, hz0, hz1, hz2⟩ := info_parts Try.infoB
  clear hC hP hX
  by_cases c1 : at_ < 0
  · have d1 : decide (at_ < 0) = true := decide_eq_true c1
    have hr' : getDescF l at_ b0 b1 b2 b3 b4 b5 b6 b7 b8 b9 = (0, 1) := if_pos (Or.inl c1)
    rw [hr'] at hr
    obtain ⟨rfl, rfl⟩ : 0 = r1 ∧ 1 = r2 := by simpa using hr
    clear hr hr'
    go_enter Try.func18, Try.ntmps18
    go_wp2_with fail
    go_ret2
    exact ⟨rfl, HB0.out⟩
  have d1 : decide (at_ < 0) = false := decide_eq_false c1
  by_cases c2 : (l.length : Int) < at_
  · have d2 : decide ((l.length : Int) < at_) = true := decide_eq_true c2
    have hr' : getDescF l at_ b0 b1 b2 b3 b4 b5 b6 b7 b8 b9 = (0, 1) := if_pos (Or.inr c2)
    rw [hr'] at hr
    obtain ⟨rfl, rfl⟩ : 0 = r1 ∧ 1 = r2 := by simpa using hr
    clear hr hr'
    go_enter Try.func18, Try.ntmps18
    go_wp2_with fail
    go_ret2
    exact ⟨rfl, HB0.out⟩
  have d2 : decide ((l.length : Int) < at_) = false := decide_eq_false c2
  unfold getDescF at hr
  rw [if_neg (show ¬ (at_ < 0 ∨ (l.length : Int) < at_) by omega)] at hr
  have hlenD := descB_len b0 b1 b2 b3 b4 b5 b6 b7 b8 b9
  have hans : (descB b0 b1 b2 b3 b4 b5 b6 b7 b8 b9 true).ans = if (descB b0 b1 b2 b3 b4 b5 b6 b7 b8 b9 true).err = 0 then ((descB b0 b1 b2 b3 b4 b5 b6 b7 b8 b9 true).l, 0) else ([], 124) := rfl
  have hput := fun w => putDesc_signed w b0 b1 b2 b3 b4 b5 b6 b7 b8 b9
  rw [hans] at hput
  clear hans
  generalize descB b0 b1 b2 b3 b4 b5 b6 b7 b8 b9 true = D at *
  obtain ⟨D, cpp, er⟩ := D
  simp only at hr hlenD hput
  have HLD := Aside0.mk (show ∀ j v, ([.int .i64 b0, .int .i64 b1, .int .i64 b2, .int .i64 b3, .int .i64 b4, .int .u32 b5, .int .i64 b6, .int .i64 b7, .string b8, .string b9] : List Value)[j]? = some v → (w.alloc (.cells #[.int .i64 b0, .int .i64 b1, .int .i64 b2, .int .i64 b3, .int .i64 b4, .int .u32 b5, .int .i64 b6, .int .i64 b7, .string b8, .string b9] 24)).cell? ((⟨w.heap.size, 0, none⟩ : Addr).add j) = some v from fun j v hj => by
    rw [add_plain]
    exact (blk_cell HX.out j).trans (by simpa using hj))
  by_cases ce : er = 0
  · rw [if_pos ce] at hr
    simp only [if_pos ce] at hput
    have HPUT := Aside0.mk hput
    have hD := hlenD ce
    clear hput hlenD
    obtain ⟨m, rfl⟩ : ∃ m : Nat, at_ = (m : Int) := ⟨at_.toNat, by omega⟩
    have hm : m ≤ l.length := by omega
    have hcut := cut_from (P := Try.prog) 25 5 .i64 Try.underlying25 hi0 1 hz1 A l.length cp (m : Int) (by omega) (by omega)
    rw [Int.toNat_natCast] at hcut hr
    have hld : (l.drop m).length = l.length - m := by simp
    have hC2 := Kd.C_drop HC.out hm hcp
    obtain ⟨A2, hA2⟩ : ∃ A2, A2 = if cp = m then A else A.map (·.add (m * 1)) := ⟨_, rfl⟩
    rw [← hA2, ← hld] at hcut
    have HCd : Aside0 (Kd.C (Kd.int .u8) w A2 (l.drop m).length (l.drop m)) := ⟨by rw [hA2]; exact hC2⟩
    clear hA2 hC2
    generalize l.drop m = E at *
    have HLE := Aside0.mk hld
    have HD := Aside0.mk hD
    have gD : (4 : Int) ≤ (D.length : Int) := by omega
    have gD2 : (D.length : Int) ≤ 16 := by omega
    clear hld hD
    go_enter Try.func18, Try.ntmps18
    go_wp2_with (first | ((with_reducible refine gate_load (ty := 24) rfl ?_); refine agg_load 24 _ rfl rfl _ rfl [.int .i64 b0, .int .i64 b1, .int .i64 b2, .int .i64 b3, .int .i64 b4, .int .u32 b5, .int .i64 b6, .int .i64 b7, .string b8, .string b9] Try.underlying24 rfl Try.infoAggL (HLD.out) ?_))
    refine (HPUT.out _).mono ?_
    rintro e w1 ⟨v, rfl, hR, hb⟩
    obtain ⟨A3, c3, rfl, hc3, hCD⟩ := Kd.R_reads hR
    have HB1 := Aside0.mk (below_step HB0.out hb)
    have HCD := Aside0.mk hCD
    have HCL := Aside0.mk (C_below' HCd.out HB1.out)
    clear hR hb hCD HPUT HLD HX HB0 HCd HC
    have hD := HD.out
    have hc16 : 16 ≤ c3 := by omega
    have hcut4 := cut_from (P := Try.prog) 25 5 .i64 Try.underlying25 hi0 1 hz1 A3 D.length c3 4 (by omega) (by omega)
    have hC4 := Kd.C_drop HCD.out (m := 4) (by omega) hc3
    obtain ⟨A4, hA4⟩ : ∃ A4, A4 = if c3 = 4 then A3 else A3.map (·.add (4 * 1)) := ⟨_, rfl⟩
    rw [show (4 : Int).toNat = 4 from rfl, ← hA4, show D.length - 4 = (D.drop 4).length by simp] at hcut4
    have HC4 : Aside0 (Kd.C (Kd.int .u8) w1 A4 (D.drop 4).length (D.drop 4)) := ⟨by rw [hA4]; exact hC4⟩
    clear hA4 hC4
    have hl4 : (D.drop 4).length = 12 := by rw [List.length_drop]; omega
    have HP1 := Aside0.mk (HP.out A2 (cp - m) (E) A3 c3 D w1 HCL.out (by rw [HLE.out]; omega) HCD.out hc3 (by rw [HLE.out]; omega))
    have HP2 := fun n => HP.out A2 (cp - m) (E) A4 (c3 - 4) (D.drop 4) (w1.drewN n) (Kd.C_drewN HCL.out n) (by rw [HLE.out]; omega) (Kd.C_drewN HC4.out n) (by rw [hl4]; omega) (by rw [HLE.out]; omega)
    have HP2 := Aside0.mk HP2
    clear HP HCL HC4 HCD
    have HL4 := Aside0.mk hl4
    generalize D.drop 4 = D4 at *
    clear hl4 hD
    cases hp1 : hasP E D with
    | true =>
      rw [hp1] at hr HP1
      obtain ⟨rfl, rfl⟩ : 16 = r1 ∧ 0 = r2 := by simpa using hr
      clear hr HP2
      go_wp2_with fail
      refine HP1.out.mono ?_
      rintro e w2 ⟨rfl, n, rfl⟩
      go_wp2_with fail
      go_ret2
      exact ⟨by rw [HD.out]; rfl, below_drewN_ HB1.out n⟩
    | false =>
      rw [hp1] at hr HP1
      cases hp2 : hasP E D4 with
      | true =>
        rw [hp2] at hr HP2
        obtain ⟨rfl, rfl⟩ : 12 = r1 ∧ 0 = r2 := by simpa using hr
        clear hr
        go_wp2_with fail
        refine HP1.out.mono ?_
        rintro e w2 ⟨rfl, n, rfl⟩
        go_wp2_with fail
        refine (HP2.out n).mono ?_
        rintro e w2 ⟨rfl, n2, rfl⟩
        go_wp2_with fail
        go_ret2
        exact ⟨by rw [HD.out]; rfl, below_drewN_ HB1.out (n + n2)⟩
      | false =>
        rw [hp2] at hr HP2
        by_cases h12 : (l.length : Int) - m < 12
        · obtain ⟨rfl, rfl⟩ : 0 = r1 ∧ 122 = r2 := by simpa [h12] using hr
          have d4 : decide ((E.length : Int) < (D.length : Int) - 4) = true := decide_eq_true (by have := HLE.out; have := HD.out; omega)
          clear hr
          go_wp2_with fail
          refine HP1.out.mono ?_
          rintro e w2 ⟨rfl, n, rfl⟩
          go_wp2_with fail
          refine (HP2.out n).mono ?_
          rintro e w2 ⟨rfl, n2, rfl⟩
          go_wp2_with fail
          go_ret2
          exact ⟨rfl, below_drewN_ HB1.out (n + n2)⟩
        · obtain ⟨rfl, rfl⟩ : 0 = r1 ∧ 123 = r2 := by simpa [h12] using hr
          have d4 : decide ((E.length : Int) < (D.length : Int) - 4) = false := decide_eq_false (by have := HLE.out; have := HD.out; omega)
          clear hr
          go_wp2_with fail
          refine HP1.out.mono ?_
          rintro e w2 ⟨rfl, n, rfl⟩
          go_wp2_with fail
          refine (HP2.out n).mono ?_
          rintro e w2 ⟨rfl, n2, rfl⟩
          go_wp2_with fail
          go_ret2
          exact ⟨rfl, below_drewN_ HB1.out (n + n2)⟩
  · rw [if_neg ce] at hr
    simp only [if_neg ce] at hput
    have HPUT := Aside0.mk hput
    obtain ⟨rfl, rfl⟩ : 0 = r1 ∧ 124 = r2 := by simpa using hr
    clear hput hlenD hr
    go_enter Try.func18, Try.ntmps18
    go_wp2_with (first | ((with_reducible refine gate_load (ty := 24) rfl ?_); refine agg_load 24 _ rfl rfl _ rfl [.int .i64 b0, .int .i64 b1, .int .i64 b2, .int .i64 b3, .int .i64 b4, .int .u32 b5, .int .i64 b6, .int .i64 b7, .string b8, .string b9] Try.underlying24 rfl Try.infoAggL (HLD.out) ?_))
    refine (HPUT.out _).mono ?_
    rintro e w1 ⟨v, rfl, hR, hb⟩
    have HB1 := Aside0.mk (below_step HB0.out hb)
    clear hR hb HPUT HLD HX HB0
    go_wp2_with fail
    go_ret2
    exact ⟨rfl, HB1.out⟩
end Go.Proofs.Ytkmnhlhpmfkloaa.Fld
