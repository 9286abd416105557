/- Merged texts: Gds, RecP, Lnt, RecQ, RecS. -/
import Derived.Test.YtkmnhlhpmfkloaaFU0
import Derived.Test.YtkmnhlhpmfkloaaFU1
import Derived.Test.YtkmnhlhpmfkloaaFU2
/- What GetDescriptor of record does: walked by hand. -/
namespace Go.Proofs.Ytkmnhlhpmfkloaa.Fld
open Go.RowKit Go.Proofs.YtkmnhlhpmfkloaaW.PrintWords Go.Proofs.YtkmnhlhpmfkloaaW.PrintLast Go.Proofs.YtkmnhlhpmfkloaaW.PrintMore Go.Proofs.Ytkmnhlhpmfkloaa.Mem
set_option linter.unusedVariables false
set_option linter.unusedSimpArgs false
theorem Try.infoAggL : (Try.prog.info? 24).map (fun i => (i.zero, i.size, i.bytes)) = some (some (.agg #[.int .i64 0, .int .i64 0, .int .i64 0, .int .i64 0, .int .i64 0, .int .u32 0, .int .i64 0, .int .i64 0, .string ⟨#[]⟩, .string ⟨#[]⟩]), 10, 96) := by kernel_rfl
def hasP (a p : List Int) : Bool := (strOfNums (a.take p.length)).toList == (strOfNums p).toList
theorem gnum_ok {b : BS} {v : Int} {n : Nat} (h : (b.num v n).err = 0) : b.err = 0 ∧ 0 ≤ v ∧ v < (256 : Int) ^ n ∧ b.num v n = ⟨b.l ++ le n v, b.lim, 0⟩ := by
  unfold BS.num at h ⊢
  by_cases h1 : b.err ≠ 0
  · rw [if_pos h1] at h; exact absurd h h1
  · rw [if_neg h1] at h ⊢
    have h1' : b.err = 0 := by simpa using h1
    by_cases h2 : v < 0 ∨ (256 : Int) ^ n ≤ v
    · rw [if_pos h2] at h; simp at h
    · rw [if_neg h2] at h ⊢
      by_cases h3 : b.lim - b.l.length < n
      · rw [if_pos h3] at h; simp at h
      · rw [if_neg h3]
        refine ⟨h1', by omega, by omega, by rw [h1']⟩
theorem gnum_fit {b : BS} {v : Int} {n : Nat} (h1 : b.err = 0) (h2 : 0 ≤ v) (h3 : v < (256 : Int) ^ n) (h4 : (b.l.length : Int) + n ≤ b.lim) : b.num v n = ⟨b.l ++ le n v, b.lim, 0⟩ := by
  unfold BS.num
  rw [if_neg (by simpa using h1), if_neg (by omega), if_neg (by omega), h1]
theorem descB_ok (b0 : Int) (b1 : Int) (b2 : Int) (b3 : Int) (b4 : Int) (b5 : Int) (b6 : Int) (b7 : Int) (b8 : ByteArray) (b9 : ByteArray) (h : (descB b0 b1 b2 b3 b4 b5 b6 b7 b8 b9 true).err = 0) : (0 ≤ wrap64 b5 ∧ wrap64 b5 < 4294967296) ∧ (0 ≤ b6 ∧ b6 < 4294967296) ∧ (0 ≤ b7 ∧ b7 < 4294967296) ∧ descB b0 b1 b2 b3 b4 b5 b6 b7 b8 b9 true = ⟨le 4 134695760 ++ le 4 (wrap64 b5) ++ le 4 b6 ++ le 4 b7, 16, 0⟩ := by
  unfold descB at *
  obtain ⟨e3, x3, y3, z3⟩ := gnum_ok h
  obtain ⟨e2, x2, y2, z2⟩ := gnum_ok e3
  obtain ⟨e1, x1, y1, z1⟩ := gnum_ok e2
  have e0 : (⟨[], 16, 0⟩ : BS).num 134695760 4 = ⟨le 4 134695760, 16, 0⟩ := gnum_fit rfl (by omega) (by omega) (by simp)
  refine ⟨⟨x1, by omega⟩, ⟨x2, by omega⟩, ⟨x3, by omega⟩, ?_⟩
  rw [z3, z2, z1, if_pos rfl, e0]
theorem descB_fit (b0 : Int) (b1 : Int) (b2 : Int) (b3 : Int) (b4 : Int) (b5 : Int) (b6 : Int) (b7 : Int) (b8 : ByteArray) (b9 : ByteArray) (h1 : 0 ≤ wrap64 b5) (h1' : wrap64 b5 < 4294967296) (h2 : 0 ≤ b6) (h2' : b6 < 4294967296) (h3 : 0 ≤ b7) (h3' : b7 < 4294967296) : descB b0 b1 b2 b3 b4 b5 b6 b7 b8 b9 true = ⟨le 4 134695760 ++ le 4 (wrap64 b5) ++ le 4 b6 ++ le 4 b7, 16, 0⟩ := by
  unfold descB
  have e0 : (⟨[], 16, 0⟩ : BS).num 134695760 4 = ⟨le 4 134695760, 16, 0⟩ := gnum_fit rfl (by omega) (by omega) (by simp)
  rw [if_pos rfl, e0, gnum_fit rfl h1 (by omega) (by simp [le_length]), gnum_fit rfl h2 (by omega) (by simp [le_length]), gnum_fit rfl h3 (by omega) (by simp [le_length])]
theorem descB_len (b0 : Int) (b1 : Int) (b2 : Int) (b3 : Int) (b4 : Int) (b5 : Int) (b6 : Int) (b7 : Int) (b8 : ByteArray) (b9 : ByteArray) (h : (descB b0 b1 b2 b3 b4 b5 b6 b7 b8 b9 true).err = 0) : (descB b0 b1 b2 b3 b4 b5 b6 b7 b8 b9 true).l.length = 16 := by
  rw [(descB_ok b0 b1 b2 b3 b4 b5 b6 b7 b8 b9 h).2.2.2]
  simp [le_length]
def getDescF (l : List Int) (at_ : Int) (b0 : Int) (b1 : Int) (b2 : Int) (b3 : Int) (b4 : Int) (b5 : Int) (b6 : Int) (b7 : Int) (b8 : ByteArray) (b9 : ByteArray) : Int × Int :=
  if at_ < 0 ∨ (l.length : Int) < at_ then (0, 1)
  else if (descB b0 b1 b2 b3 b4 b5 b6 b7 b8 b9 true).err = 0 then
    (if hasP (l.drop at_.toNat) (descB b0 b1 b2 b3 b4 b5 b6 b7 b8 b9 true).l = true then (16, 0)
     else if hasP (l.drop at_.toNat) ((descB b0 b1 b2 b3 b4 b5 b6 b7 b8 b9 true).l.drop 4) = true then (12, 0)
     else if (l.length : Int) - at_ < 12 then (0, 122) else (0, 123))
  else (0, 124)
theorem below_drewN_ {n : Nat} {w w1 : World} (h : Below n w w1) (k : Nat) : Below n w (w1.drewN k) := pw_below_drewN h k
set_option maxHeartbeats 16000000 in
set_option maxRecDepth 100000 in
theorem getDesc_calls (w : World) (A : Option Addr) (cp : Nat) (l : List Int) (at_ : Int) (b0 : Int) (b1 : Int) (b2 : Int) (b3 : Int) (b4 : Int) (b5 : Int) (b6 : Int) (b7 : Int) (b8 : ByteArray) (b9 : ByteArray) (hC : Kd.C (Kd.int .u8) w A l.length l) (hcp : l.length ≤ cp) (hl : l.length ≤ 140737488355328)
    (hP : ∀ (A0 : Option Addr) (c0 : Nat) (l0 : List Int) (A1 : Option Addr) (c1 : Nat) (l1 : List Int) (w : World), Kd.C (Kd.int .u8) w A0 l0.length l0 → l0.length ≤ c0 → Kd.C (Kd.int .u8) w A1 l1.length l1 → l1.length ≤ c1 → l0.length ≤ 140737488355328 →
      Calls Try.prog 53 #[.slice A0 l0.length c0, .slice A1 l1.length c1] w fun e w' => e = .returned (.bool (hasP l0 l1)) ∧ Drawn0 w w') :
    Calls Try.prog 18 #[.slice A l.length cp, .int .i64 at_, .agg #[.int .i64 b0, .int .i64 b1, .int .i64 b2, .int .i64 b3, .int .i64 b4, .int .u32 b5, .int .i64 b6, .int .i64 b7, .string b8, .string b9]] w fun e w' => e = .returned (.tuple #[.int .i64 (getDescF l at_ b0 b1 b2 b3 b4 b5 b6 b7 b8 b9).1, .int .i64 (getDescF l at_ b0 b1 b2 b3 b4 b5 b6 b7 b8 b9).2]) ∧ Below w.heap.size w w' := by
  have HC := Aside0.mk hC
  have HP := Aside0.mk hP
  have hX := blk_new w (.cells #[.int .i64 b0, .int .i64 b1, .int .i64 b2, .int .i64 b3, .int .i64 b4, .int .u32 b5, .int .i64 b6, .int .i64 b7, .string b8, .string b9] 24)
  have HX := Aside0.mk hX
  have HB0 := Aside0.mk (below_alloc (Below.refl w.heap.size w) (.cells #[.int .i64 b0, .int .i64 b1, .int .i64 b2, .int .i64 b3, .int .i64 b4, .int .u32 b5, .int .i64 b6, .int .i64 b7, .string b8, .string b9] 24))
  obtain ⟨r1, r2, hr⟩ : ∃ r1 r2, getDescF l at_ b0 b1 b2 b3 b4 b5 b6 b7 b8 b9 = (r1, r2) := ⟨_, _, rfl⟩
  rw [hr]
  obtain ⟨i0, hi0, hz0, hz1, hz2⟩ := info_parts Try.infoB
  clear hC hP hX
  by_cases c1 : at_ < 0
  · have d1 : decide (at_ < 0) = true := decide_eq_true c1
    have hr' : getDescF l at_ b0 b1 b2 b3 b4 b5 b6 b7 b8 b9 = (0, 1) := if_pos (Or.inl c1)
    rw [hr'] at hr
    obtain ⟨rfl, rfl⟩ : 0 = r1 ∧ 1 = r2 := by simpa using hr
    clear hr hr'
    go_enter Try.func18, Try.ntmps18
    go_wp2_with fail
    go_ret2
    exact ⟨rfl, HB0.out⟩
  have d1 : decide (at_ < 0) = false := decide_eq_false c1
  by_cases c2 : (l.length : Int) < at_
  · have d2 : decide ((l.length : Int) < at_) = true := decide_eq_true c2
    have hr' : getDescF l at_ b0 b1 b2 b3 b4 b5 b6 b7 b8 b9 = (0, 1) := if_pos (Or.inr c2)
    rw [hr'] at hr
    obtain ⟨rfl, rfl⟩ : 0 = r1 ∧ 1 = r2 := by simpa using hr
    clear hr hr'
    go_enter Try.func18, Try.ntmps18
    go_wp2_with fail
    go_ret2
    exact ⟨rfl, HB0.out⟩
  have d2 : decide ((l.length : Int) < at_) = false := decide_eq_false c2
  unfold getDescF at hr
  rw [if_neg (show ¬ (at_ < 0 ∨ (l.length : Int) < at_) by omega)] at hr
  have hlenD := descB_len b0 b1 b2 b3 b4 b5 b6 b7 b8 b9
  have hans : (descB b0 b1 b2 b3 b4 b5 b6 b7 b8 b9 true).ans = if (descB b0 b1 b2 b3 b4 b5 b6 b7 b8 b9 true).err = 0 then ((descB b0 b1 b2 b3 b4 b5 b6 b7 b8 b9 true).l, 0) else ([], 124) := rfl
  have hput := fun w => putDesc_signed w b0 b1 b2 b3 b4 b5 b6 b7 b8 b9
  rw [hans] at hput
  clear hans
  generalize descB b0 b1 b2 b3 b4 b5 b6 b7 b8 b9 true = D at *
  obtain ⟨D, cpp, er⟩ := D
  simp only at hr hlenD hput
  have HLD := Aside0.mk (show ∀ j v, ([.int .i64 b0, .int .i64 b1, .int .i64 b2, .int .i64 b3, .int .i64 b4, .int .u32 b5, .int .i64 b6, .int .i64 b7, .string b8, .string b9] : List Value)[j]? = some v → (w.alloc (.cells #[.int .i64 b0, .int .i64 b1, .int .i64 b2, .int .i64 b3, .int .i64 b4, .int .u32 b5, .int .i64 b6, .int .i64 b7, .string b8, .string b9] 24)).cell? ((⟨w.heap.size, 0, none⟩ : Addr).add j) = some v from fun j v hj => by
    rw [add_plain]
    exact (blk_cell HX.out j).trans (by simpa using hj))
  by_cases ce : er = 0
  · rw [if_pos ce] at hr
    simp only [if_pos ce] at hput
    have HPUT := Aside0.mk hput
    have hD := hlenD ce
    clear hput hlenD
    obtain ⟨m, rfl⟩ : ∃ m : Nat, at_ = (m : Int) := ⟨at_.toNat, by omega⟩
    have hm : m ≤ l.length := by omega
    have hcut := cut_from (P := Try.prog) 25 5 .i64 Try.underlying25 hi0 1 hz1 A l.length cp (m : Int) (by omega) (by omega)
    rw [Int.toNat_natCast] at hcut hr
    have hld : (l.drop m).length = l.length - m := by simp
    have hC2 := Kd.C_drop HC.out hm hcp
    obtain ⟨A2, hA2⟩ : ∃ A2, A2 = if cp = m then A else A.map (·.add (m * 1)) := ⟨_, rfl⟩
    rw [← hA2, ← hld] at hcut
    have HCd : Aside0 (Kd.C (Kd.int .u8) w A2 (l.drop m).length (l.drop m)) := ⟨by rw [hA2]; exact hC2⟩
    clear hA2 hC2
    generalize l.drop m = E at *
    have HLE := Aside0.mk hld
    have HD := Aside0.mk hD
    have gD : (4 : Int) ≤ (D.length : Int) := by omega
    have gD2 : (D.length : Int) ≤ 16 := by omega
    clear hld hD
    go_enter Try.func18, Try.ntmps18
    go_wp2_with (first | ((with_reducible refine gate_load (ty := 24) rfl ?_); refine agg_load 24 _ rfl rfl _ rfl [.int .i64 b0, .int .i64 b1, .int .i64 b2, .int .i64 b3, .int .i64 b4, .int .u32 b5, .int .i64 b6, .int .i64 b7, .string b8, .string b9] Try.underlying24 rfl Try.infoAggL (HLD.out) ?_))
    refine (HPUT.out _).mono ?_
    rintro e w1 ⟨v, rfl, hR, hb⟩
    obtain ⟨A3, c3, rfl, hc3, hCD⟩ := Kd.R_reads hR
    have HB1 := Aside0.mk (below_step HB0.out hb)
    have HCD := Aside0.mk hCD
    have HCL := Aside0.mk (C_below' HCd.out HB1.out)
    clear hR hb hCD HPUT HLD HX HB0 HCd HC
    have hD := HD.out
    have hc16 : 16 ≤ c3 := by omega
    have hcut4 := cut_from (P := Try.prog) 25 5 .i64 Try.underlying25 hi0 1 hz1 A3 D.length c3 4 (by omega) (by omega)
    have hC4 := Kd.C_drop HCD.out (m := 4) (by omega) hc3
    obtain ⟨A4, hA4⟩ : ∃ A4, A4 = if c3 = 4 then A3 else A3.map (·.add (4 * 1)) := ⟨_, rfl⟩
    rw [show (4 : Int).toNat = 4 from rfl, ← hA4, show D.length - 4 = (D.drop 4).length by simp] at hcut4
    have HC4 : Aside0 (Kd.C (Kd.int .u8) w1 A4 (D.drop 4).length (D.drop 4)) := ⟨by rw [hA4]; exact hC4⟩
    clear hA4 hC4
    have hl4 : (D.drop 4).length = 12 := by rw [List.length_drop]; omega
    have HP1 := Aside0.mk (HP.out A2 (cp - m) (E) A3 c3 D w1 HCL.out (by rw [HLE.out]; omega) HCD.out hc3 (by rw [HLE.out]; omega))
    have HP2 := fun n => HP.out A2 (cp - m) (E) A4 (c3 - 4) (D.drop 4) (w1.drewN n) (Kd.C_drewN HCL.out n) (by rw [HLE.out]; omega) (Kd.C_drewN HC4.out n) (by rw [hl4]; omega) (by rw [HLE.out]; omega)
    have HP2 := Aside0.mk HP2
    clear HP HCL HC4 HCD
    have HL4 := Aside0.mk hl4
    generalize D.drop 4 = D4 at *
    clear hl4 hD
    cases hp1 : hasP E D with
    | true =>
      rw [hp1] at hr HP1
      obtain ⟨rfl, rfl⟩ : 16 = r1 ∧ 0 = r2 := by simpa using hr
      clear hr HP2
      go_wp2_with fail
      refine HP1.out.mono ?_
      rintro e w2 ⟨rfl, n, rfl⟩
      go_wp2_with fail
      go_ret2
      exact ⟨by rw [HD.out]; rfl, below_drewN_ HB1.out n⟩
    | false =>
      rw [hp1] at hr HP1
      cases hp2 : hasP E D4 with
      | true =>
        rw [hp2] at hr HP2
        obtain ⟨rfl, rfl⟩ : 12 = r1 ∧ 0 = r2 := by simpa using hr
        clear hr
        go_wp2_with fail
        refine HP1.out.mono ?_
        rintro e w2 ⟨rfl, n, rfl⟩
        go_wp2_with fail
        refine (HP2.out n).mono ?_
        rintro e w2 ⟨rfl, n2, rfl⟩
        go_wp2_with fail
        go_ret2
        exact ⟨by rw [HD.out]; rfl, below_drewN_ HB1.out (n + n2)⟩
      | false =>
        rw [hp2] at hr HP2
        by_cases h12 : (l.length : Int) - m < 12
        · obtain ⟨rfl, rfl⟩ : 0 = r1 ∧ 122 = r2 := by simpa [h12] using hr
          have d4 : decide ((E.length : Int) < (D.length : Int) - 4) = true := decide_eq_true (by have := HLE.out; have := HD.out; omega)
          clear hr
          go_wp2_with fail
          refine HP1.out.mono ?_
          rintro e w2 ⟨rfl, n, rfl⟩
          go_wp2_with fail
          refine (HP2.out n).mono ?_
          rintro e w2 ⟨rfl, n2, rfl⟩
          go_wp2_with fail
          go_ret2
          exact ⟨rfl, below_drewN_ HB1.out (n + n2)⟩
        · obtain ⟨rfl, rfl⟩ : 0 = r1 ∧ 123 = r2 := by simpa [h12] using hr
          have d4 : decide ((E.length : Int) < (D.length : Int) - 4) = false := decide_eq_false (by have := HLE.out; have := HD.out; omega)
          clear hr
          go_wp2_with fail
          refine HP1.out.mono ?_
          rintro e w2 ⟨rfl, n, rfl⟩
          go_wp2_with fail
          refine (HP2.out n).mono ?_
          rintro e w2 ⟨rfl, n2, rfl⟩
          go_wp2_with fail
          go_ret2
          exact ⟨rfl, below_drewN_ HB1.out (n + n2)⟩
  · rw [if_neg ce] at hr
    simp only [if_neg ce] at hput
    have HPUT := Aside0.mk hput
    obtain ⟨rfl, rfl⟩ : 0 = r1 ∧ 124 = r2 := by simpa using hr
    clear hput hlenD hr
    go_enter Try.func18, Try.ntmps18
    go_wp2_with (first | ((with_reducible refine gate_load (ty := 24) rfl ?_); refine agg_load 24 _ rfl rfl _ rfl [.int .i64 b0, .int .i64 b1, .int .i64 b2, .int .i64 b3, .int .i64 b4, .int .u32 b5, .int .i64 b6, .int .i64 b7, .string b8, .string b9] Try.underlying24 rfl Try.infoAggL (HLD.out) ?_))
    refine (HPUT.out _).mono ?_
    rintro e w1 ⟨v, rfl, hR, hb⟩
    have HB1 := Aside0.mk (below_step HB0.out hb)
    clear hR hb HPUT HLD HX HB0
    go_wp2_with fail
    go_ret2
    exact ⟨rfl, HB1.out⟩
end Go.Proofs.Ytkmnhlhpmfkloaa.Fld

/- Records in plain Lean: numbers and their bytes, fields that are joined and split. -/
namespace Go.Proofs.Ytkmnhlhpmfkloaa.Fld
open Go.RowKit Go.Proofs.YtkmnhlhpmfkloaaW.PrintWords Go.Proofs.YtkmnhlhpmfkloaaW.PrintLast Go.Proofs.YtkmnhlhpmfkloaaW.PrintMore Go.Proofs.Ytkmnhlhpmfkloaa.Mem
set_option linter.unusedVariables false
set_option linter.unusedSimpArgs false

/-! #### numbers -/
theorem nm_le : ∀ (n : Nat) (v : Int), 0 ≤ v → v < (256 : Int) ^ n → nm (le n v) = v
  | 0, v, h0, h1 => by simp at h1; simp only [le, nm]; omega
  | n + 1, v, h0, h1 => by
    rw [Int.pow_succ] at h1
    rw [le, nm, nm_le n (v / 256) (by omega) (by omega)]
    omega
theorem le_nm : ∀ (l : List Int), (∀ x ∈ l, 0 ≤ x ∧ x < 256) → le l.length (nm l) = l
  | [], _ => rfl
  | b :: t, h => by
    have h1 := h b List.mem_cons_self
    have h2 := nm_range t (fun x hx => h x (List.mem_cons_of_mem _ hx))
    have e1 : (b + 256 * nm t) % 256 = b := by omega
    have e2 : (b + 256 * nm t) / 256 = nm t := by omega
    rw [List.length_cons, nm, le, e1, e2, le_nm t (fun x hx => h x (List.mem_cons_of_mem _ hx))]
theorem le_mem : ∀ (n : Nat) (v : Int), ∀ x ∈ le n v, 0 ≤ x ∧ x < 256
  | 0, _, x, hx => by simp [le] at hx
  | n + 1, v, x, hx => by
    rw [le, List.mem_cons] at hx
    rcases hx with rfl | hx
    · omega
    · exact le_mem n _ x hx
theorem bytes_mem (s : ByteArray) : ∀ x ∈ bytesOf s, 0 ≤ x ∧ x < 256 := by
  intro x hx
  rw [bytesOf, List.mem_map] at hx
  obtain ⟨b, _, rfl⟩ := hx
  have := b.toNat_lt
  omega
theorem bytesOf_str (l : List Int) (h : ∀ x ∈ l, 0 ≤ x ∧ x < 256) : bytesOf (strOfNums l) = l := by
  unfold bytesOf strOfNums
  simp only [List.map_map]
  conv => rhs; rw [← List.map_id l]
  refine List.map_congr_left fun x hx => ?_
  have := h x hx
  simp only [Function.comp, UInt8.toNat_ofNat', id]
  omega
theorem str_bytesOf (s : ByteArray) : strOfNums (bytesOf s) = s := by
  apply byteArray_ext
  unfold strOfNums bytesOf
  simp only [List.map_map]
  have h : ((fun n : Int => UInt8.ofNat n.toNat) ∘ fun b : UInt8 => (b.toNat : Int)) = id := by
    funext x
    simp
  rw [h, List.map_id]
theorem str_size (l : List Int) : (strOfNums l).size = l.length := by
  unfold strOfNums
  simp [ByteArray.size]
theorem str_append (a b : List Int) : strOfNums (a ++ b) = strOfNums a ++ strOfNums b := by
  apply byteArray_ext
  unfold strOfNums
  simp [ByteArray.data_append]
theorem str_inj {a b : List Int} (ha : ∀ x ∈ a, 0 ≤ x ∧ x < 256) (hb : ∀ x ∈ b, 0 ≤ x ∧ x < 256) (h : strOfNums a = strOfNums b) : a = b := by
  rw [← bytesOf_str a ha, h, bytesOf_str b hb]

/-! #### fields -/
def fldB (f : Int × ByteArray) : List Int := le 2 f.1 ++ le 2 f.2.size ++ bytesOf f.2
def allB (fs : List (Int × ByteArray)) : List Int := fs.flatMap fldB
theorem fldB_len (f : Int × ByteArray) : (fldB f).length = 4 + f.2.size := by
  unfold fldB
  rw [List.length_append, List.length_append, le_length, le_length, bytesOf_length]
theorem fldB_mem (f : Int × ByteArray) : ∀ x ∈ fldB f, 0 ≤ x ∧ x < 256 := by
  intro x hx
  unfold fldB at hx
  rcases List.mem_append.1 hx with hx | hx
  · rcases List.mem_append.1 hx with hx | hx
    · exact le_mem _ _ x hx
    · exact le_mem _ _ x hx
  · exact bytes_mem _ x hx
theorem allB_mem (fs : List (Int × ByteArray)) : ∀ x ∈ allB fs, 0 ≤ x ∧ x < 256 := by
  intro x hx
  unfold allB at hx
  obtain ⟨f, _, hx⟩ := List.mem_flatMap.1 hx
  exact fldB_mem f x hx
def fitF (f : Int × ByteArray) : Prop := 0 ≤ f.1 ∧ f.1 ≤ 65535 ∧ (f.2.size : Int) ≤ 65535
/-- The document's answer of joining, from the bytes that are told already. -/
def joinS : List Int → List (Int × ByteArray) → List Int × Int
  | l, [] => (l, 0)
  | l, f :: fs => if ¬ (0 ≤ f.1 ∧ f.1 ≤ 65535) ∨ 65535 < (f.2.size : Int) then ([], 124) else if 65535 < ((l ++ fldB f).length : Int) then ([], 124) else joinS (l ++ fldB f) fs
theorem joinB_cons (b : BS) (f : Int × ByteArray) (fs : List (Int × ByteArray)) : joinB b (f :: fs) = joinB (((b.num f.1 2).num f.2.size 2).text f.2) fs := rfl
theorem joinB_err : ∀ (fs : List (Int × ByteArray)) (b : BS), b.err ≠ 0 → joinB b fs = b
  | [], b, _ => rfl
  | f :: fs, b, h => by
    rw [joinB_cons, BS.num_err h, BS.num_err h, BS.text_err h, joinB_err fs b h]
theorem ans_err {b : BS} (h : b.err ≠ 0) : b.ans = ([], 124) := if_neg h
theorem num_bad {b : BS} {v : Int} {n : Nat} (h : ¬ (0 ≤ v ∧ v < 256 ^ n) ∨ b.lim - b.l.length < n) : (b.num v n).err ≠ 0 := by
  unfold BS.num
  split
  · assumption
  · split
    · simp
    · rename_i h1
      rw [if_pos (by rcases h with h | h <;> omega)]
      simp
theorem num_fit {l : List Int} {lim v : Int} {n : Nat} (h0 : 0 ≤ v) (h1 : v < 256 ^ n) (h2 : (l.length : Int) + n ≤ lim) : (BS.mk l lim 0).num v n = ⟨l ++ le n v, lim, 0⟩ := by
  unfold BS.num
  rw [if_neg (by simp), if_neg (by omega), if_neg (by simp only; omega)]
theorem text_bad {b : BS} {s : ByteArray} (h : b.lim - b.l.length < s.size) : (b.text s).err ≠ 0 := by
  unfold BS.text
  split
  · assumption
  · simp
theorem text_fit {l : List Int} {lim : Int} {s : ByteArray} (h2 : (l.length : Int) + s.size ≤ lim) : (BS.mk l lim 0).text s = ⟨l ++ bytesOf s, lim, 0⟩ := by
  unfold BS.text
  rw [if_neg (by simp), if_neg (by simp only; omega)]
theorem num_stay {b : BS} {v : Int} {n : Nat} (h : b.err ≠ 0) : (b.num v n).err ≠ 0 := by rw [BS.num_err h]; exact h
theorem text_stay {b : BS} {s : ByteArray} (h : b.err ≠ 0) : (b.text s).err ≠ 0 := by rw [BS.text_err h]; exact h
theorem joinB_ans : ∀ (fs : List (Int × ByteArray)) (l : List Int), (l.length : Int) ≤ 65535 → (joinB ⟨l, 65535, 0⟩ fs).ans = joinS l fs
  | [], l, _ => if_pos rfl
  | f :: fs, l, hl => by
    rw [joinB_cons, joinS]
    by_cases h1 : ¬ (0 ≤ f.1 ∧ f.1 ≤ 65535) ∨ 65535 < (f.2.size : Int)
    · rw [if_pos h1]
      have he : (((BS.mk l 65535 0).num f.1 2).num f.2.size 2).err ≠ 0 := by
        rcases h1 with h1 | h1
        · exact num_stay (num_bad (.inl (by omega)))
        · exact num_bad (.inl (by omega))
      rw [joinB_err _ _ (text_stay he), ans_err (text_stay he)]
    · rw [if_neg h1]
      by_cases h2 : 65535 < ((l ++ fldB f).length : Int)
      · rw [if_pos h2]
        rw [List.length_append, fldB_len] at h2
        have he : ((((BS.mk l 65535 0).num f.1 2).num f.2.size 2).text f.2).err ≠ 0 := by
          by_cases h3 : (l.length : Int) + 2 ≤ 65535
          · rw [num_fit (by omega) (by omega) (by omega)]
            by_cases h4 : (l.length : Int) + 4 ≤ 65535
            · rw [num_fit (by omega) (by omega) (by rw [List.length_append, le_length]; omega)]
              refine text_bad ?_
              simp only [List.length_append, le_length]
              omega
            · refine text_stay (num_bad (.inr ?_))
              simp only [List.length_append, le_length]
              omega
          · refine text_stay (num_stay (num_bad (.inr ?_)))
            simp only
            omega
        rw [joinB_err _ _ he, ans_err he]
      · rw [if_neg h2]
        rw [List.length_append, fldB_len] at h2
        rw [num_fit (by omega) (by omega) (by omega), num_fit (by omega) (by omega) (by rw [List.length_append, le_length]; omega), text_fit (by simp only [List.length_append, le_length]; omega)]
        have hass : l ++ le 2 f.1 ++ le 2 (f.2.size : Int) ++ bytesOf f.2 = l ++ fldB f := by unfold fldB; simp only [List.append_assoc]
        rw [hass]
        exact joinB_ans fs _ (by rw [List.length_append, fldB_len]; omega)
theorem joinS_fit : ∀ (fs : List (Int × ByteArray)) (l : List Int), (∀ f ∈ fs, fitF f) → ((l ++ allB fs).length : Int) ≤ 65535 → joinS l fs = (l ++ allB fs, 0)
  | [], l, _, _ => by simp [joinS, allB]
  | f :: fs, l, h, hl => by
    have hf := h f List.mem_cons_self
    have e : allB (f :: fs) = fldB f ++ allB fs := rfl
    rw [e, ← List.append_assoc] at hl ⊢
    rw [joinS, if_neg (by unfold fitF at hf; omega), if_neg (by rw [List.length_append] at hl; omega)]
    exact joinS_fit fs _ (fun g hg => h g (List.mem_cons_of_mem _ hg)) hl

/-! #### splitting -/
theorem next_ok {l : List Int} {a n : Nat} (h : a + n ≤ l.length) : (CS.mk l a 0).next n = (l.take (a + n)).drop a ∧ (CS.mk l a 0).adv n = ⟨l, a + n, 0⟩ := by
  unfold CS.next CS.adv
  simp only
  rw [if_neg (by simp), if_neg (by omega), if_neg (by simp), if_neg (by omega)]
  exact ⟨rfl, rfl⟩
theorem adv_short {l : List Int} {a n : Nat} (h : l.length < a + n) (ha : a ≤ l.length) : ((CS.mk l a 0).adv n).err ≠ 0 := by
  unfold CS.adv
  simp only
  rw [if_neg (by simp), if_pos (by omega)]
  simp
theorem adv_bad {c : CS} {n : Nat} (h : c.err ≠ 0) : (c.adv n).err ≠ 0 := by
  unfold CS.adv
  rw [if_pos h]
  exact h
theorem split_eq (l : List Int) (hy : ∀ x ∈ l, 0 ≤ x ∧ x < 256) : ∀ (k a : Nat) (acc : List (Int × ByteArray)), a ≤ l.length → splitGo k ⟨l, a, 0⟩ acc = rsplitGo l k a acc
  | 0, a, acc, _ => rfl
  | k + 1, a, acc, ha => by
    by_cases h : a < l.length
    · rw [splitGo_step k ⟨l, a, 0⟩ acc h]
      by_cases h4 : (l.length : Int) - a < 4
      · rw [rsplitGo_bad l k a acc h h4]
        refine if_pos (adv_bad ?_)
        by_cases h2 : a + 2 ≤ l.length
        · rw [(next_ok h2).2]
          exact adv_short (by omega) (by omega)
        · exact adv_bad (adv_short (by omega) (by omega))
      · rw [(next_ok (by omega : a + 2 ≤ l.length)).1, (next_ok (by omega : a + 2 ≤ l.length)).2, (next_ok (by omega : a + 2 + 2 ≤ l.length)).1, (next_ok (by omega : a + 2 + 2 ≤ l.length)).2]
        have hnn := nm_range ((l.take (a + 2 + 2)).drop (a + 2)) (fun x hx => hy x (List.mem_of_mem_take (List.mem_of_mem_drop hx)))
        obtain ⟨n, hn⟩ : ∃ n : Nat, nm ((l.take (a + 2 + 2)).drop (a + 2)) = (n : Int) := ⟨_, (Int.toNat_of_nonneg hnn.1).symm⟩
        rw [hn, Int.toNat_natCast]
        by_cases h5 : (l.length : Int) - a - 4 < n
        · rw [rsplitGo_short l k a acc n h h4 hn h5]
          exact if_pos (adv_short (by omega) (by omega))
        · rw [rsplitGo_step l k a acc n h h4 hn h5, (next_ok (by omega : a + 2 + 2 + n ≤ l.length)).1, (next_ok (by omega : a + 2 + 2 + n ≤ l.length)).2]
          rw [if_neg (by simp)]
          rw [show a + 2 + 2 = a + 4 by omega]
          exact split_eq l hy k _ _ (by omega)
    · rw [splitGo_end _ _ _ h, rsplitGo_end _ _ _ _ h]
theorem splitF_eq (s : ByteArray) : splitF s = rsplitF s := by
  unfold splitF rsplitF
  split
  · rfl
  · exact split_eq _ (bytes_mem s) _ _ _ (Nat.zero_le _)
theorem cut_exact {α : Type} (p x y : List α) (n : Nat) (hn : x.length = n) : ((p ++ (x ++ y)).take (p.length + n)).drop p.length = x := by
  rw [List.take_length_add_append, List.drop_left, ← hn, List.take_left]
theorem cut_drop {α : Type} (l : List α) (a n : Nat) : l.drop a = (l.take (a + n)).drop a ++ l.drop (a + n) := by
  rw [List.drop_take, Nat.add_sub_cancel_left, ← List.drop_drop, List.take_append_drop]
/-- What is joined is split as it was. -/
theorem split_join : ∀ (fs : List (Int × ByteArray)) (p : List Int) (k : Nat) (acc : List (Int × ByteArray)), (∀ f ∈ fs, fitF f) → (∀ x ∈ p, 0 ≤ x ∧ x < 256) → (allB fs).length < k → rsplitGo (p ++ allB fs) k p.length acc = (acc ++ fs, 0)
  | [], p, k, acc, _, _, _ => by rw [rsplitGo_end _ _ _ _ (by simp [allB])]; simp
  | f :: fs, p, k, acc, h, hp, hk => by
    obtain ⟨k, rfl⟩ : ∃ q, k = q + 1 := ⟨k - 1, by omega⟩
    have hf := h f List.mem_cons_self
    have e : allB (f :: fs) = fldB f ++ allB fs := rfl
    have hfl := fldB_len f
    have hL : p ++ allB (f :: fs) = p ++ (le 2 f.1 ++ (le 2 f.2.size ++ (bytesOf f.2 ++ allB fs))) := by rw [e]; unfold fldB; simp only [List.append_assoc]
    have hL2 : p ++ allB (f :: fs) = (p ++ le 2 f.1) ++ (le 2 f.2.size ++ (bytesOf f.2 ++ allB fs)) := by rw [hL, List.append_assoc]
    have hL3 : p ++ allB (f :: fs) = (p ++ le 2 f.1 ++ le 2 f.2.size) ++ (bytesOf f.2 ++ allB fs) := by rw [hL]; simp only [List.append_assoc]
    have hL4 : p ++ allB (f :: fs) = (p ++ fldB f) ++ allB fs := by rw [e, List.append_assoc]
    have hlen : (p ++ allB (f :: fs)).length = p.length + (4 + f.2.size) + (allB fs).length := by rw [hL4, List.length_append, List.length_append, hfl]
    have c1 : ((p ++ allB (f :: fs)).take (p.length + 2)).drop p.length = le 2 f.1 := by rw [hL]; exact cut_exact _ _ _ _ (le_length _ _)
    have c2 : ((p ++ allB (f :: fs)).take (p.length + 2 + 2)).drop (p.length + 2) = le 2 f.2.size := by
      have h := cut_exact (p ++ le 2 f.1) (le 2 (f.2.size : Int)) (bytesOf f.2 ++ allB fs) 2 (le_length _ _)
      rw [← hL2, List.length_append, le_length] at h
      exact h
    have c3 : ((p ++ allB (f :: fs)).take (p.length + 4 + f.2.size)).drop (p.length + 4) = bytesOf f.2 := by
      have h := cut_exact (p ++ le 2 f.1 ++ le 2 (f.2.size : Int)) (bytesOf f.2) (allB fs) f.2.size (bytesOf_length _)
      rw [← hL3, List.length_append, List.length_append, le_length, le_length] at h
      exact h
    unfold fitF at hf
    have n2 : nm (((p ++ allB (f :: fs)).take (p.length + 2 + 2)).drop (p.length + 2)) = (f.2.size : Int) := by rw [c2]; exact nm_le 2 _ (by omega) (by omega)
    rw [rsplitGo_step _ k p.length acc f.2.size (by omega) (by omega) n2 (by omega), c1, nm_le 2 _ hf.1 (by omega), c3, str_bytesOf]
    rw [hL4]
    have h5 : p.length + 4 + f.2.size = (p ++ fldB f).length := by rw [List.length_append, hfl]; omega
    rw [h5, split_join fs (p ++ fldB f) k _ (fun g hg => h g (List.mem_cons_of_mem _ hg)) (fun x hx => by
      rcases List.mem_append.1 hx with hx | hx
      · exact hp x hx
      · exact fldB_mem f x hx) (by rw [e, List.length_append, hfl] at hk; omega)]
    simp
/-- What is split joins to what it was. -/
theorem join_split (l : List Int) (hy : ∀ x ∈ l, 0 ≤ x ∧ x < 256) : ∀ (k a : Nat) (acc r : List (Int × ByteArray)), a ≤ l.length → l.length < a + k → rsplitGo l k a acc = (r, 0) → (∀ f ∈ acc, fitF f) → (∀ f ∈ r, fitF f) ∧ allB r = allB acc ++ l.drop a
  | 0, a, acc, r, ha, hk, h, hacc => by omega
  | k + 1, a, acc, r, ha, hk, h, hacc => by
    by_cases h1 : a < l.length
    · by_cases h4 : (l.length : Int) - a < 4
      · rw [rsplitGo_bad l k a acc h1 h4] at h
        simp at h
      · have hm2 : ∀ x ∈ (l.take (a + 2 + 2)).drop (a + 2), 0 ≤ x ∧ x < 256 := fun x hx => hy x (List.mem_of_mem_take (List.mem_of_mem_drop hx))
        have hm1 : ∀ x ∈ (l.take (a + 2)).drop a, 0 ≤ x ∧ x < 256 := fun x hx => hy x (List.mem_of_mem_take (List.mem_of_mem_drop hx))
        have hl1 := mid_len (l := l) (a := a) (n := 2) (by omega)
        have hl2 := mid_len (l := l) (a := a + 2) (n := 2) (by omega)
        have hnn := nm_range _ hm2
        have htn := nm_range _ hm1
        rw [hl2] at hnn
        rw [hl1] at htn
        obtain ⟨n, hn⟩ : ∃ n : Nat, nm ((l.take (a + 2 + 2)).drop (a + 2)) = (n : Int) := ⟨_, (Int.toNat_of_nonneg hnn.1).symm⟩
        by_cases h5 : (l.length : Int) - a - 4 < n
        · rw [rsplitGo_short l k a acc n h1 h4 hn h5] at h
          simp at h
        · rw [rsplitGo_step l k a acc n h1 h4 hn h5] at h
          have hl3 := mid_len (l := l) (a := a + 4) (n := n) (by omega)
          have hm3 : ∀ x ∈ (l.take (a + 4 + n)).drop (a + 4), 0 ≤ x ∧ x < 256 := fun x hx => hy x (List.mem_of_mem_take (List.mem_of_mem_drop hx))
          have hfit : fitF (nm ((l.take (a + 2)).drop a), strOfNums ((l.take (a + 4 + n)).drop (a + 4))) := ⟨htn.1, by simp only; omega, by simp only [str_size, hl3]; omega⟩
          obtain ⟨r1, r2⟩ := join_split l hy k (a + 4 + n) _ r (by omega) (by omega) h (fun f hf => by
            rcases List.mem_append.1 hf with hf | hf
            · exact hacc f hf
            · rw [List.mem_singleton.1 hf]; exact hfit)
          refine ⟨r1, ?_⟩
          rw [r2]
          unfold allB
          rw [List.flatMap_append, List.append_assoc]
          congr 1
          simp only [List.flatMap_cons, List.flatMap_nil, List.append_nil]
          unfold fldB
          simp only [str_size, hl3, bytesOf_str _ hm3]
          have q1 : le 2 (nm ((l.take (a + 2)).drop a)) = (l.take (a + 2)).drop a := by have h := le_nm _ hm1; rw [hl1] at h; exact h
          have q2 : le 2 (n : Int) = (l.take (a + 2 + 2)).drop (a + 2) := by rw [← hn]; have h := le_nm _ hm2; rw [hl2] at h; exact h
          rw [q1, q2, List.append_assoc, List.append_assoc]
          rw [show l.drop a = (l.take (a + 2)).drop a ++ l.drop (a + 2) from cut_drop l a 2]
          congr 1
          rw [show l.drop (a + 2) = (l.take (a + 2 + 2)).drop (a + 2) ++ l.drop (a + 2 + 2) from cut_drop l (a + 2) 2]
          congr 1
          exact (cut_drop l (a + 4) n).symm
    · rw [rsplitGo_end _ _ _ _ h1] at h
      simp only [Prod.mk.injEq, and_true] at h
      subst h
      exact ⟨hacc, by rw [List.drop_eq_nil_of_le (by omega), List.append_nil]⟩
end Go.Proofs.Ytkmnhlhpmfkloaa.Fld

/- Lists that are lent with marked room behind them: copied, lent, walked by hand. -/
namespace Go.Proofs.Ytkmnhlhpmfkloaa.Fld
open Go.RowKit Go.Proofs.YtkmnhlhpmfkloaaW.PrintWords Go.Proofs.YtkmnhlhpmfkloaaW.PrintLast Go.Proofs.YtkmnhlhpmfkloaaW.PrintMore Go.Proofs.Ytkmnhlhpmfkloaa.Mem
set_option linter.unusedVariables false
set_option linter.unusedSimpArgs false

def pad : List Int := List.replicate 8 165
/-- A list l at v, in new memory, with eight marks behind it. -/
def Lent (w : World) (base : Nat) (v : Value) (l : List Int) : Prop :=
  ∃ g cap, v = .slice (some ⟨g, 0, none⟩) l.length cap ∧ w.ownsRow base 5 1 (.slice (some ⟨g, 0, none⟩) (l.length + 8) cap) (l.length + 8) ((l ++ pad).map (Value.int .u8))
theorem Lent.below {w w1 : World} {base : Nat} {v : Value} {l : List Int} (h : Lent w base v l) (hb : Below w.heap.size w w1) : Lent w1 base v l := by
  obtain ⟨g, cap, rfl, ho⟩ := h
  exact ⟨g, cap, rfl, pw_own_below ho hb⟩
theorem cut_cap {P : Program} (t e : TypeId) (kh : IntKind) {i : TypeInfo} (ht : P.underlying t = some (.slice e)) (hi : P.info? e = some i) (A : Option Addr) (n c : Nat) (j : Int) (h0 : 0 ≤ j) (hm : j ≤ c) :
    ∀ W : World, (Instr.slice t (.slice A n c) none (some (.int kh j)) none).run P W = .ok (.slice A j.toNat c) W := by
  intro W
  have hel : P.elem t = e := by simp [Program.elem, ht]
  have hu : P.underlying t = some (.slice (P.elem t)) := by rw [hel]; exact ht
  have ha : (A.map fun x => x.add 0) = A := by cases A <;> simp [Addr.add]
  rw [run_slice_h W t A n c hu kh j h0 hm, hel]
  simp [sizeOf, typeInfo, hi, sliced, Result.andThen, ha]
theorem row_C {w : World} {base : Nat} {g n cap : Nat} {xs : List Int} (ho : w.ownsRow base 5 1 (.slice (some ⟨g, 0, none⟩) n cap) n (xs.map (Value.int .u8))) : n = xs.length ∧ n ≤ cap ∧ Kd.C (Kd.int .u8) w (some ⟨g, 0, none⟩) xs.length xs := by
  have hn : xs.length = n := by have := ho.1; simpa using this
  subst hn
  have hR : Kd.R (Kd.int .u8) 5 w base (fun _ => True) (.slice (some ⟨g, 0, none⟩) xs.length cap) xs := Kd.R_of_own ho (fun _ _ => trivial)
  obtain ⟨h1, h2, h3⟩ := Kd.R_reads' hR
  exact ⟨rfl, h2, h3⟩
theorem Lent.reads {w : World} {base : Nat} {v : Value} {l : List Int} (h : Lent w base v l) : ∃ A c, v = .slice A l.length c ∧ l.length ≤ c ∧ Kd.C (Kd.int .u8) w A l.length l := by
  obtain ⟨g, cap, rfl, ho⟩ := h
  obtain ⟨_, hcap, hC⟩ := row_C ho
  have hT := Kd.C_take hC (m := l.length) (by simp)
  rw [List.take_left' rfl] at hT
  exact ⟨_, cap, rfl, by omega, hT⟩

set_option maxHeartbeats 8000000 in
set_option maxRecDepth 100000 in
theorem copied_calls (w : World) (A : Option Addr) (cp : Nat) (l : List Int) (hC : Kd.C (Kd.int .u8) w A l.length l) (hl : l.length ≤ 140737488355320) :
    Calls Try.prog 41 #[.slice A l.length cp] w fun e w' => ∃ A1 c1, e = .returned (.slice A1 l.length c1) ∧ w'.ownsRow w.heap.size 5 1 (.slice A1 l.length c1) l.length (l.map (Value.int .u8)) ∧ Below w.heap.size w w' := by
  have HC := Aside0.mk hC
  obtain ⟨i0, hi0, hz0, hz1, hz2⟩ := info_parts Try.infoB
  clear hC
  go_enter Try.func41, Try.ntmps41
  go_wp2
  go_loopg [3, 4] (l.length + 1) (fun gk v3 v4 wr => ∃ (j : Nat) (A3 : Option Addr) (c3 : Nat), v3 = .slice A3 j c3 ∧ v4 = .int .i64 j ∧ j ≤ l.length ∧ l.length + 1 ≤ j + gk ∧ Aside0 (wr.ownsRow w.heap.size 5 1 (.slice A3 j c3) j ((l.take j).map (Value.int .u8))) ∧ Aside0 (Below w.heap.size w wr))
  case atStart => exact ⟨0, none, 0, rfl, rfl, Nat.zero_le _, by omega, ⟨own_nil _ _ _ _⟩, ⟨Below.refl _ _⟩⟩
  case round =>
    obtain ⟨j, A3, c3, rfl, rfl, hj, hjk, HO, HB⟩ := hrel
    by_cases hlt : j < l.length
    · have hltb : decide ((j : Int) < (l.length : Int)) = true := decide_eq_true (by omega)
      obtain ⟨ad, hA, hcell⟩ := ReadsOf.at_ (Kd.reads_of_C (enc := Value.int .u8) (d := (0 : Int)) (h1 := fun _ => rfl) (C_below' HC.out HB.out)) (j : Int) (by omega) (by omega)
      have hd : l.take (j + 1) = l.take j ++ [rdOf 0 l (j : Int)] := by
        rw [List.take_succ_eq_append_getElem hlt, rdOf, Int.toNat_natCast, List.getD_eq_getElem?_getD, List.getElem?_eq_getElem hlt]
        rfl
      rw [Int.toNat_natCast] at hcell
      subst hA
      have HD := Aside0.mk hd
      clear hd
      generalize rdOf 0 l (j : Int) = x at *
      have q3 : (j : Int) < (l.length : Int) := by omega
      have hwl := HB.out.size
      go_wp2_with (at_builtin; refine wpList_append_lies _ (by rfl) _ _ _ (by rfl) w.heap.size 5 i0 _ 1 1 Try.underlying25 hi0 hz0 hz1 hz2 rfl (by omega) (.slice A3 j c3) j ((l.take j).map (Value.int .u8)) ?b1 (HO.out.alloc _) ⟨wr.heap.size, 0, none⟩ 1 1 [.int .u8 x] ?b2 ?b3 ?b4 ?b5 (by omega) ?b7 ?b8 ?b9 (wr.heap.size + 1) ?b10 ?b11; (case b1 => rfl); (case b2 => rfl); (case b3 => rfl); (case b4 => exact World.news_of_block (cs := #[.int .u8 x]) (t := 5) (fr := (0, 0)) (heap_alloc_new wr _)); (case b5 => simp [Value.oneCell']); (case b7 => simp only [maxLen]; omega); (case b8 => omega); (case b9 => simp; omega); (case b10 => simp); intro gg cap w1 hown1 hgrow hat hlt2)
      go_roundg (l.length - j)
      case measure => omega
      case rel =>
        have hb1 : Below w.heap.size w w1 := ((below_alloc HB.out _)).grown hgrow (by simp; omega) (own_base HO.out)
        exact ⟨j + 1, some ⟨gg, 0, none⟩, cap, rfl, by go_num, by omega, by omega, ⟨by rw [HD.out, List.map_append]; exact hown1⟩, ⟨hb1⟩⟩
    · have hltb : decide ((j : Int) < (l.length : Int)) = false := decide_eq_false (by omega)
      have hjl : j = l.length := by omega
      have htk : l.take j = l := List.take_of_length_le (by omega)
      rw [htk] at HO
      subst hjl
      go_wp2
      go_ret
      exact ⟨A3, c3, rfl, HO.out, HB.out⟩
set_option maxHeartbeats 8000000 in
set_option maxRecDepth 100000 in
theorem lent_calls (w : World) (A : Option Addr) (cp : Nat) (l : List Int) (hC : Kd.C (Kd.int .u8) w A l.length l) (hl : l.length ≤ 140737488355320) :
    Calls Try.prog 17 #[.slice A l.length cp] w fun e w' => ∃ v, e = .returned v ∧ Lent w' w.heap.size v l ∧ Below w.heap.size w w' := by
  have HCC := Aside0.mk (copied_calls w A cp l hC hl)
  obtain ⟨i0, hi0, hz0, hz1, hz2⟩ := info_parts Try.infoB
  clear hC
  go_enter Try.func17, Try.ntmps17
  go_wp2_with (first | (go_at_call 41; refine HCC.out.mono ?_; rintro e w1 ⟨A1, c1, rfl, ho, hb⟩))
  have HO0 := Aside0.mk ho
  have HB0 := Aside0.mk hb
  clear ho hb HCC
  go_loopg [3, 4] 10 (fun gk v3 v4 wr => ∃ (j : Nat) (A3 : Option Addr) (c3 : Nat), v3 = .slice A3 (l.length + j) c3 ∧ v4 = .int .i64 j ∧ j ≤ 8 ∧ 9 ≤ j + gk ∧ Aside0 (wr.ownsRow w.heap.size 5 1 (.slice A3 (l.length + j) c3) (l.length + j) ((l ++ List.replicate j 165).map (Value.int .u8))) ∧ Aside0 (Below w.heap.size w wr))
  case atStart => exact ⟨0, A1, c1, rfl, rfl, by omega, by omega, ⟨by simpa using HO0.out⟩, HB0⟩
  case round =>
    obtain ⟨j, A3, c3, rfl, rfl, hj, hjk, HO, HB⟩ := hrel
    clear HO0 HB0
    by_cases hlt : j < 8
    · have hltb : decide ((j : Int) < 8) = true := decide_eq_true (by omega)
      have HD := Aside0.mk (show l ++ List.replicate (j + 1) (165 : Int) = (l ++ List.replicate j 165) ++ [165] by rw [List.replicate_succ', List.append_assoc])
      have hwl := HB.out.size
      go_wp2_with (at_builtin; refine wpList_append_lies _ (by rfl) _ _ _ (by rfl) w.heap.size 5 i0 _ 1 1 Try.underlying25 hi0 hz0 hz1 hz2 rfl (by omega) (.slice A3 (l.length + j) c3) (l.length + j) ((l ++ List.replicate j 165).map (Value.int .u8)) ?b1 (HO.out.alloc _) ⟨wr.heap.size, 0, none⟩ 1 1 [.int .u8 165] ?b2 ?b3 ?b4 ?b5 (by omega) ?b7 ?b8 ?b9 (wr.heap.size + 1) ?b10 ?b11; (case b1 => rfl); (case b2 => rfl); (case b3 => rfl); (case b4 => exact World.news_of_block (cs := #[.int .u8 165]) (t := 5) (fr := (0, 0)) (heap_alloc_new wr _)); (case b5 => simp [Value.oneCell']); (case b7 => simp only [maxLen]; omega); (case b8 => omega); (case b9 => simp; omega); (case b10 => simp); intro gg cap w2 hown1 hgrow hat hlt2)
      go_roundg (8 - j)
      case measure => omega
      case rel =>
        have hb1 : Below w.heap.size w w2 := ((below_alloc HB.out _)).grown hgrow (by simp; omega) (own_base HO.out)
        exact ⟨j + 1, some ⟨gg, 0, none⟩, cap, rfl, by go_num, by omega, by omega, ⟨by rw [HD.out, List.map_append]; exact hown1⟩, ⟨hb1⟩⟩
    · have hltb : decide ((j : Int) < 8) = false := decide_eq_false (by omega)
      obtain rfl : j = 8 := by omega
      obtain ⟨g, hv⟩ : ∃ g, A3 = some ⟨g, 0, none⟩ := by
        obtain ⟨g, cap, hv, _, _⟩ := HO.out.form (by omega)
        simp only [Value.slice.injEq] at hv
        exact ⟨g, hv.1⟩
      subst hv
      have hcap := (row_C HO.out).2.1
      have hcut := cut_to (P := Try.prog) 25 5 .i64 Try.underlying25 hi0 (some ⟨g, 0, none⟩) (l.length + 8) c3 (l.length : Int) (by omega) (by omega) hcap
      rw [Int.toNat_natCast] at hcut
      go_wp2
      go_ret
      exact ⟨_, rfl, ⟨g, c3, rfl, HO.out⟩, HB.out⟩

/-- What lies at v: the list l, and eight marks behind it. -/
def LentV (w : World) (v : Value) (l : List Int) : Prop := ∃ A c, v = .slice A l.length c ∧ Kd.C (Kd.int .u8) w A (l ++ pad).length (l ++ pad) ∧ l.length + 8 ≤ c
theorem LentV.below {w w1 : World} {v : Value} {l : List Int} (h : LentV w v l) (hb : Below w.heap.size w w1) : LentV w1 v l := by
  obtain ⟨A, c, h1, h2, h3⟩ := h
  exact ⟨A, c, h1, Kd.C_below h2 hb, h3⟩
theorem LentV.alloc {w : World} {v : Value} {l : List Int} (h : LentV w v l) (o : Obj) : LentV (w.alloc o) v l := h.below (below_alloc (Below.refl _ _) o)
theorem LentV.drew {w : World} {v : Value} {l : List Int} (h : LentV w v l) : LentV w.drew v l := h.below (below_drew1 (Below.refl _ _))
theorem LentV.drewN {w : World} {v : Value} {l : List Int} (h : LentV w v l) (n : Nat) : LentV (w.drewN n) v l := h.below (pw_below_drewN (Below.refl _ _) n)
theorem LentV.open {w : World} {A : Option Addr} {n c : Nat} {l : List Int} (h : LentV w (.slice A n c) l) : Kd.C (Kd.int .u8) w A (l ++ pad).length (l ++ pad) ∧ l.length + 8 ≤ c := by
  obtain ⟨A', c', he, h2, h3⟩ := h
  simp only [Value.slice.injEq] at he
  obtain ⟨rfl, _, rfl⟩ := he
  exact ⟨h2, h3⟩
theorem lent_callsV (w : World) (A : Option Addr) (cp : Nat) (l : List Int) (hC : Kd.C (Kd.int .u8) w A l.length l) (hl : l.length ≤ 140737488355320) :
    Calls Try.prog 17 #[.slice A l.length cp] w fun e w' => ∃ v, e = .returned v ∧ Kd.R (Kd.int .u8) 5 w' w.heap.size (fun _ => True) v l ∧ Below w.heap.size w w' ∧ LentV w' v l := by
  refine (lent_calls w A cp l hC hl).mono ?_
  rintro e w' ⟨v, he, ⟨g, cap, rfl, ho⟩, hb⟩
  obtain ⟨hn, hcap, hCf⟩ := row_C ho
  have hR : Kd.R (Kd.int .u8) 5 w' w.heap.size (fun _ => True) (.slice (some ⟨g, 0, none⟩) (l.length + 8) cap) (l ++ pad) := Kd.R_of_own (by rw [← hn]; exact ho) (fun _ _ => trivial)
  have hT := Kd.R_take hR (m := l.length) (by simp)
  rw [List.take_left' rfl] at hT
  exact ⟨_, he, hT, hb, _, cap, rfl, hCf, hcap⟩
end Go.Proofs.Ytkmnhlhpmfkloaa.Fld

/- What is put is got: the plain laws of record's putters and getters (end record so far). -/
namespace Go.Proofs.Ytkmnhlhpmfkloaa.Fld
open Go.RowKit Go.Proofs.YtkmnhlhpmfkloaaW.PrintWords Go.Proofs.YtkmnhlhpmfkloaaW.PrintLast Go.Proofs.YtkmnhlhpmfkloaaW.PrintMore Go.Proofs.Ytkmnhlhpmfkloaa.Mem
set_option linter.unusedVariables false
set_option linter.unusedSimpArgs false

theorem cur_le {D : List Int} {k n : Nat} {v : Int} {y : List Int} (h : D.drop k = le n v ++ y) (h0 : 0 ≤ v) (h1 : v < (256 : Int) ^ n) :
    nm ((CS.mk D k 0).next n) = v ∧ (CS.mk D k 0).adv n = ⟨D, k + n, 0⟩ ∧ D.drop (k + n) = y := by
  have hl : D.length - k = n + y.length := by rw [← List.length_drop, h, List.length_append, le_length]
  refine ⟨?_, ?_, ?_⟩
  · unfold CS.next
    rw [if_neg (by simp), if_neg (by simp only; omega)]
    simp only
    rw [List.drop_take, show k + n - k = n by omega, h, List.take_left' (le_length n v), nm_le n v h0 h1]
  · unfold CS.adv
    rw [if_neg (by simp), if_neg (by simp only; omega)]
  · rw [← List.drop_drop, h, List.drop_left' (le_length n v)]
theorem texts_put {l : List Int} {a : Nat} {s : ByteArray} {r : List Int} {ns : List Int} (h : l.drop a = bytesOf s ++ r) {ts : List ByteArray} {b : Nat} (ht : textsF l (a + s.size) ns = some (ts, b)) (ha : a ≤ l.length) :
    textsF l a ((s.size : Int) :: ns) = some (s :: ts, b) := by
  have hl : l.length - a = s.size + r.length := by rw [← List.length_drop, h, List.length_append, bytesOf_length]
  unfold textsF
  rw [if_neg (by omega), Int.toNat_natCast, ht]
  simp only
  rw [List.drop_take, show a + s.size - a = s.size by omega, h, List.take_left' (bytesOf_length s), str_bytesOf]
theorem fields_put {l : List Int} {pre H r : List Int} {sg : Int} {F : List Int} (hl : l = pre ++ (H ++ r)) (hH : H = le 4 sg ++ F) (h0 : 0 ≤ sg) (h1 : sg < 4294967296) :
    fieldsE l (pre.length : Int) H.length sg = 0 ∧ fieldsC l (pre.length : Int) H.length = ⟨H, 4, 0⟩ ∧ l.drop (pre.length + H.length) = r ∧ H.drop 4 = F := by
  have hn : 4 ≤ H.length := by rw [hH, List.length_append, le_length]; omega
  have hlen : l.length = pre.length + (H.length + r.length) := by rw [hl]; simp
  have hd : l.drop pre.length = H ++ r := by rw [hl, List.drop_left' rfl]
  refine ⟨?_, ?_, ?_, ?_⟩
  · unfold fieldsE
    rw [if_neg (by omega), if_neg (by omega), Int.toNat_natCast, List.drop_take, hd, show pre.length + 4 - pre.length = 4 by omega, hH, List.append_assoc, List.take_left' (le_length 4 sg), nm_le 4 sg h0 (by omega), if_neg (by simp)]
  · unfold fieldsC
    rw [Int.toNat_natCast, List.drop_take, hd, show pre.length + H.length - pre.length = H.length by omega, List.take_left' rfl]
  · rw [← List.drop_drop, hd, List.drop_left' rfl]
  · rw [hH, List.drop_left' (le_length 4 sg)]
def hdrE (a0 a1 a2 a3 a4 a5 n : Int) : List Int := le 4 101010256 ++ (le 2 a0 ++ (le 2 a1 ++ (le 2 a2 ++ (le 2 a3 ++ (le 4 a4 ++ (le 4 a5 ++ (le 2 n ++ [])))))))
theorem hdrE_len (a0 a1 a2 a3 a4 a5 n : Int) : (hdrE a0 a1 a2 a3 a4 a5 n).length = 22 := by simp [hdrE, le_length]
structure FitE (a0 a1 a2 a3 a4 a5 : Int) (s : ByteArray) : Prop where
  h0 : 0 ≤ a0 ∧ a0 ≤ 65535
  h1 : 0 ≤ a1 ∧ a1 ≤ 65535
  h2 : 0 ≤ a2 ∧ a2 ≤ 65535
  h3 : 0 ≤ a3 ∧ a3 ≤ 65535
  h4 : 0 ≤ a4 ∧ a4 ≤ 4294967295
  h5 : 0 ≤ a5 ∧ a5 ≤ 4294967295
  hs : s.size ≤ 65535
def encE (a0 a1 a2 a3 a4 a5 : Int) (s : ByteArray) : List Int := hdrE a0 a1 a2 a3 a4 a5 s.size ++ bytesOf s
theorem encE_len (a0 a1 a2 a3 a4 a5 : Int) (s : ByteArray) : (encE a0 a1 a2 a3 a4 a5 s).length = 22 + s.size := by unfold encE; rw [List.length_append, hdrE_len, bytesOf_length]
theorem putE (a0 a1 a2 a3 a4 a5 : Int) (s : ByteArray) (h : FitE a0 a1 a2 a3 a4 a5 s) : (endB a0 a1 a2 a3 a4 a5 s).ans = (encE a0 a1 a2 a3 a4 a5 s, 0) := by
  obtain ⟨h0, h1, h2, h3, h4, h5, hs⟩ := h
  unfold endB
  rw [num_fit (by omega) (by omega) (by simp), num_fit (by omega) (by omega) (by simp [le_length]), num_fit (by omega) (by omega) (by simp [le_length]), num_fit (by omega) (by omega) (by simp [le_length]), num_fit (by omega) (by omega) (by simp [le_length]), num_fit (by omega) (by omega) (by simp [le_length]), num_fit (by omega) (by omega) (by simp [le_length]), num_fit (by omega) (by omega) (by simp [le_length]), text_fit (by simp [le_length]; omega)]
  unfold BS.ans encE hdrE
  simp
theorem text_ok {b : BS} {s : ByteArray} (h : (b.text s).err = 0) : b.err = 0 := by
  unfold BS.text at h
  by_cases h1 : b.err ≠ 0
  · rw [if_pos h1] at h; exact absurd h h1
  · simpa using h1
theorem putE_no (a0 a1 a2 a3 a4 a5 : Int) (s : ByteArray) (h : ¬ FitE a0 a1 a2 a3 a4 a5 s) : (endB a0 a1 a2 a3 a4 a5 s).ans = ([], 124) := by
  unfold BS.ans
  rw [if_neg]
  intro he
  unfold endB at he
  have e8 := text_ok he
  obtain ⟨e7, x7, y7, -⟩ := gnum_ok e8
  obtain ⟨e6, x6, y6, -⟩ := gnum_ok e7
  obtain ⟨e5, x5, y5, -⟩ := gnum_ok e6
  obtain ⟨e4, x4, y4, -⟩ := gnum_ok e5
  obtain ⟨e3, x3, y3, -⟩ := gnum_ok e4
  obtain ⟨e2, x2, y2, -⟩ := gnum_ok e3
  obtain ⟨e1, x1, y1, -⟩ := gnum_ok e2
  exact h ⟨by omega, by omega, by omega, by omega, by omega, by omega, by omega⟩
theorem getE {l pre r : List Int} (a0 a1 a2 a3 a4 a5 : Int) (s : ByteArray) (h : FitE a0 a1 a2 a3 a4 a5 s) (hl : l = pre ++ (encE a0 a1 a2 a3 a4 a5 s ++ r)) :
    getEndF l (pre.length : Int) = (a0, a1, a2, a3, a4, a5, s, ((pre.length + (22 + s.size) : Nat) : Int), 0) := by
  obtain ⟨h0, h1, h2, h3, h4, h5, hs⟩ := h
  unfold encE at hl
  rw [List.append_assoc] at hl
  obtain ⟨hE, hC, hd, hF⟩ := fields_put (sg := 101010256) hl (show hdrE a0 a1 a2 a3 a4 a5 s.size = le 4 101010256 ++ _ from rfl) (by omega) (by omega)
  have hlen : l.length = pre.length + (22 + (s.size + r.length)) := by rw [hl]; simp [hdrE_len, bytesOf_length]
  rw [hdrE_len] at hE hC hd
  generalize hdrE a0 a1 a2 a3 a4 a5 s.size = H at *
  obtain ⟨v0, c0, d0⟩ := cur_le hF h0.1 (by omega)
  obtain ⟨v1, c1, d1⟩ := cur_le d0 h1.1 (by omega)
  obtain ⟨v2, c2, d2⟩ := cur_le d1 h2.1 (by omega)
  obtain ⟨v3, c3, d3⟩ := cur_le d2 h3.1 (by omega)
  obtain ⟨v4, c4, d4⟩ := cur_le d3 h4.1 (by omega)
  obtain ⟨v5, c5, d5⟩ := cur_le d4 h5.1 (by omega)
  obtain ⟨v6, c6, d6⟩ := cur_le d5 (by omega) (by omega)
  have ht := texts_put (ns := []) (ts := []) (b := pre.length + 22 + s.size) hd rfl (by omega)
  unfold getEndF
  rw [if_pos hE, hC, c0, c1, c2, c3, c4, c5, v0, v1, v2, v3, v4, v5, v6, show ((pre.length : Int) + 22).toNat = pre.length + 22 by omega, ht]
  simp only [Prod.mk.injEq, true_and, and_true]
  omega
end Go.Proofs.Ytkmnhlhpmfkloaa.Fld

/- What is put is got: local and central record. -/
namespace Go.Proofs.Ytkmnhlhpmfkloaa.Fld
open Go.RowKit Go.Proofs.YtkmnhlhpmfkloaaW.PrintWords Go.Proofs.YtkmnhlhpmfkloaaW.PrintLast Go.Proofs.YtkmnhlhpmfkloaaW.PrintMore Go.Proofs.Ytkmnhlhpmfkloaa.Mem
set_option linter.unusedVariables false
set_option linter.unusedSimpArgs false
theorem wrap_small {x : Int} (h : 0 ≤ x ∧ x < 4294967296) : wrap64 x = x := by simp only [wrap64, IntKind.wrap_i64]; omega
structure FitL (a0 : Int) (a1 : Int) (a2 : Int) (a3 : Int) (a4 : Int) (a5 : Int) (a6 : Int) (a7 : Int) (a8 : ByteArray) (a9 : ByteArray) : Prop where
  ha0 : 0 ≤ a0 ∧ a0 < 65536
  ha1 : 0 ≤ a1 ∧ a1 < 65536
  ha2 : 0 ≤ a2 ∧ a2 < 65536
  ha3 : 0 ≤ a3 ∧ a3 < 65536
  ha4 : 0 ≤ a4 ∧ a4 < 65536
  ha5 : 0 ≤ a5 ∧ a5 < 4294967296
  ha6 : 0 ≤ a6 ∧ a6 < 4294967296
  ha7 : 0 ≤ a7 ∧ a7 < 4294967296
  ha8 : a8.size ≤ 65535
  ha9 : a9.size ≤ 65535
def hdrL (a0 : Int) (a1 : Int) (a2 : Int) (a3 : Int) (a4 : Int) (a5 : Int) (a6 : Int) (a7 : Int) (a8 : ByteArray) (a9 : ByteArray) : List Int := le 4 67324752 ++ (le 2 a0 ++ (le 2 a1 ++ (le 2 a2 ++ (le 2 a3 ++ (le 2 a4 ++ (le 4 a5 ++ (le 4 a6 ++ (le 4 a7 ++ (le 2 (a8.size : Int) ++ (le 2 (a9.size : Int) ++ []))))))))))
theorem hdrL_len (a0 : Int) (a1 : Int) (a2 : Int) (a3 : Int) (a4 : Int) (a5 : Int) (a6 : Int) (a7 : Int) (a8 : ByteArray) (a9 : ByteArray) : (hdrL a0 a1 a2 a3 a4 a5 a6 a7 a8 a9).length = 30 := by simp [hdrL, le_length]
def encL (a0 : Int) (a1 : Int) (a2 : Int) (a3 : Int) (a4 : Int) (a5 : Int) (a6 : Int) (a7 : Int) (a8 : ByteArray) (a9 : ByteArray) : List Int := hdrL a0 a1 a2 a3 a4 a5 a6 a7 a8 a9 ++ (bytesOf a8 ++ bytesOf a9)
theorem encL_len (a0 : Int) (a1 : Int) (a2 : Int) (a3 : Int) (a4 : Int) (a5 : Int) (a6 : Int) (a7 : Int) (a8 : ByteArray) (a9 : ByteArray) : (encL a0 a1 a2 a3 a4 a5 a6 a7 a8 a9).length = 30 + a8.size + a9.size := by unfold encL; simp only [List.length_append, hdrL_len, bytesOf_length]; omega
theorem putL (a0 : Int) (a1 : Int) (a2 : Int) (a3 : Int) (a4 : Int) (a5 : Int) (a6 : Int) (a7 : Int) (a8 : ByteArray) (a9 : ByteArray) (h : FitL a0 a1 a2 a3 a4 a5 a6 a7 a8 a9) : (localB a0 a1 a2 a3 a4 a5 a6 a7 a8 a9).ans = (encL a0 a1 a2 a3 a4 a5 a6 a7 a8 a9, 0) := by
  obtain ⟨ha0, ha1, ha2, ha3, ha4, ha5, ha6, ha7, ha8, ha9⟩ := h
  unfold localB sharedB
  rw [wrap_small ha5, num_fit (by omega) (by omega) (by simp [le_length]), num_fit (by omega) (by omega) (by simp [le_length]), num_fit (by omega) (by omega) (by simp [le_length]), num_fit (by omega) (by omega) (by simp [le_length]), num_fit (by omega) (by omega) (by simp [le_length]), num_fit (by omega) (by omega) (by simp [le_length]), num_fit (by omega) (by omega) (by simp [le_length]), num_fit (by omega) (by omega) (by simp [le_length]), num_fit (by omega) (by omega) (by simp [le_length]), num_fit (by omega) (by omega) (by simp [le_length]), num_fit (by omega) (by omega) (by simp [le_length]), text_fit (by simp [le_length, bytesOf_length]; omega), text_fit (by simp [le_length, bytesOf_length]; omega)]
  unfold BS.ans encL hdrL
  simp
theorem putL_no (a0 : Int) (a1 : Int) (a2 : Int) (a3 : Int) (a4 : Int) (a5 : Int) (a6 : Int) (a7 : Int) (a8 : ByteArray) (a9 : ByteArray) (h5 : 0 ≤ a5 ∧ a5 < 4294967296) (h : ¬ FitL a0 a1 a2 a3 a4 a5 a6 a7 a8 a9) : (localB a0 a1 a2 a3 a4 a5 a6 a7 a8 a9).ans = ([], 124) := by
  unfold BS.ans
  rw [if_neg]
  intro he
  unfold localB sharedB at he
  rw [wrap_small h5] at he
  have t0 := text_ok he
  have t1 := text_ok t0
  obtain ⟨e0, x0, y0, -⟩ := gnum_ok t1
  obtain ⟨e1, x1, y1, -⟩ := gnum_ok e0
  obtain ⟨e2, x2, y2, -⟩ := gnum_ok e1
  obtain ⟨e3, x3, y3, -⟩ := gnum_ok e2
  obtain ⟨e4, x4, y4, -⟩ := gnum_ok e3
  obtain ⟨e5, x5, y5, -⟩ := gnum_ok e4
  obtain ⟨e6, x6, y6, -⟩ := gnum_ok e5
  obtain ⟨e7, x7, y7, -⟩ := gnum_ok e6
  obtain ⟨e8, x8, y8, -⟩ := gnum_ok e7
  obtain ⟨e9, x9, y9, -⟩ := gnum_ok e8
  exact h ⟨by omega, by omega, by omega, by omega, by omega, by omega, by omega, by omega, by omega, by omega⟩
theorem getL {l pre r : List Int} (a0 : Int) (a1 : Int) (a2 : Int) (a3 : Int) (a4 : Int) (a5 : Int) (a6 : Int) (a7 : Int) (a8 : ByteArray) (a9 : ByteArray) (h : FitL a0 a1 a2 a3 a4 a5 a6 a7 a8 a9) (hl : l = pre ++ (encL a0 a1 a2 a3 a4 a5 a6 a7 a8 a9 ++ r)) :
    getLocalF l (pre.length : Int) = (a0, a1, a2, a3, a4, a5, a6, a7, a8, a9, ((pre.length + (30 + a8.size + a9.size) : Nat) : Int), 0) := by
  obtain ⟨ha0, ha1, ha2, ha3, ha4, ha5, ha6, ha7, ha8, ha9⟩ := h
  unfold encL at hl
  rw [List.append_assoc] at hl
  obtain ⟨hE, hC, hd, hF⟩ := fields_put (sg := 67324752) hl (show hdrL a0 a1 a2 a3 a4 a5 a6 a7 a8 a9 = le 4 67324752 ++ _ from rfl) (by omega) (by omega)
  have hlen : l.length = pre.length + (30 + (a8.size + a9.size + r.length)) := by rw [hl]; simp only [List.length_append, hdrL_len, bytesOf_length] <;> omega
  rw [hdrL_len] at hE hC hd
  generalize hdrL a0 a1 a2 a3 a4 a5 a6 a7 a8 a9 = H at *
  obtain ⟨v0, c0, d0⟩ := cur_le hF ha0.1 (by omega)
  obtain ⟨v1, c1, d1⟩ := cur_le d0 ha1.1 (by omega)
  obtain ⟨v2, c2, d2⟩ := cur_le d1 ha2.1 (by omega)
  obtain ⟨v3, c3, d3⟩ := cur_le d2 ha3.1 (by omega)
  obtain ⟨v4, c4, d4⟩ := cur_le d3 ha4.1 (by omega)
  obtain ⟨v5, c5, d5⟩ := cur_le d4 ha5.1 (by omega)
  obtain ⟨v6, c6, d6⟩ := cur_le d5 ha6.1 (by omega)
  obtain ⟨v7, c7, d7⟩ := cur_le d6 ha7.1 (by omega)
  obtain ⟨v8, c8, d8⟩ := cur_le d7 (by omega) (by omega)
  obtain ⟨v9, c9, d9⟩ := cur_le d8 (by omega) (by omega)
  simp only [List.append_assoc] at hd
  have hd0 : l.drop ((pre.length + 30) + a8.size) = bytesOf a9 ++ r := by rw [← List.drop_drop, hd, List.drop_left' (bytesOf_length a8)]
  have ht1 := texts_put hd0 (ns := []) (ts := []) (b := (pre.length + 30) + a8.size + a9.size) rfl (by omega)
  have ht0 := texts_put hd ht1 (by omega)
  have m5 : a5 % 4294967296 = a5 := by omega
  unfold getLocalF
  rw [if_pos hE, hC]
  simp only [c0, c1, c2, c3, c4, c5, c6, c7, c8, v0, v1, v2, v3, v4, v5, v6, v7, v8, v9]
  rw [show ((pre.length : Int) + 30).toNat = pre.length + 30 by omega, ht0]
  simp only [m5, Prod.mk.injEq, true_and, and_true]
  omega
structure FitC (a0 : Int) (a1 : Int) (a2 : Int) (a3 : Int) (a4 : Int) (a5 : Int) (a6 : Int) (a7 : Int) (a8 : ByteArray) (a9 : ByteArray) (a10 : Int) (a11 : Int) (a12 : Int) (a13 : Int) (a14 : Int) (a15 : ByteArray) : Prop where
  ha10 : 0 ≤ a10 ∧ a10 < 65536
  ha0 : 0 ≤ a0 ∧ a0 < 65536
  ha1 : 0 ≤ a1 ∧ a1 < 65536
  ha2 : 0 ≤ a2 ∧ a2 < 65536
  ha3 : 0 ≤ a3 ∧ a3 < 65536
  ha4 : 0 ≤ a4 ∧ a4 < 65536
  ha5 : 0 ≤ a5 ∧ a5 < 4294967296
  ha6 : 0 ≤ a6 ∧ a6 < 4294967296
  ha7 : 0 ≤ a7 ∧ a7 < 4294967296
  ha8 : a8.size ≤ 65535
  ha9 : a9.size ≤ 65535
  ha15 : a15.size ≤ 65535
  ha11 : 0 ≤ a11 ∧ a11 < 65536
  ha12 : 0 ≤ a12 ∧ a12 < 65536
  ha13 : 0 ≤ a13 ∧ a13 < 4294967296
  ha14 : 0 ≤ a14 ∧ a14 < 4294967296
def hdrC (a0 : Int) (a1 : Int) (a2 : Int) (a3 : Int) (a4 : Int) (a5 : Int) (a6 : Int) (a7 : Int) (a8 : ByteArray) (a9 : ByteArray) (a10 : Int) (a11 : Int) (a12 : Int) (a13 : Int) (a14 : Int) (a15 : ByteArray) : List Int := le 4 33639248 ++ (le 2 a10 ++ (le 2 a0 ++ (le 2 a1 ++ (le 2 a2 ++ (le 2 a3 ++ (le 2 a4 ++ (le 4 a5 ++ (le 4 a6 ++ (le 4 a7 ++ (le 2 (a8.size : Int) ++ (le 2 (a9.size : Int) ++ (le 2 (a15.size : Int) ++ (le 2 a11 ++ (le 2 a12 ++ (le 4 a13 ++ (le 4 a14 ++ []))))))))))))))))
theorem hdrC_len (a0 : Int) (a1 : Int) (a2 : Int) (a3 : Int) (a4 : Int) (a5 : Int) (a6 : Int) (a7 : Int) (a8 : ByteArray) (a9 : ByteArray) (a10 : Int) (a11 : Int) (a12 : Int) (a13 : Int) (a14 : Int) (a15 : ByteArray) : (hdrC a0 a1 a2 a3 a4 a5 a6 a7 a8 a9 a10 a11 a12 a13 a14 a15).length = 46 := by simp [hdrC, le_length]
def encC (a0 : Int) (a1 : Int) (a2 : Int) (a3 : Int) (a4 : Int) (a5 : Int) (a6 : Int) (a7 : Int) (a8 : ByteArray) (a9 : ByteArray) (a10 : Int) (a11 : Int) (a12 : Int) (a13 : Int) (a14 : Int) (a15 : ByteArray) : List Int := hdrC a0 a1 a2 a3 a4 a5 a6 a7 a8 a9 a10 a11 a12 a13 a14 a15 ++ (bytesOf a8 ++ bytesOf a9 ++ bytesOf a15)
theorem encC_len (a0 : Int) (a1 : Int) (a2 : Int) (a3 : Int) (a4 : Int) (a5 : Int) (a6 : Int) (a7 : Int) (a8 : ByteArray) (a9 : ByteArray) (a10 : Int) (a11 : Int) (a12 : Int) (a13 : Int) (a14 : Int) (a15 : ByteArray) : (encC a0 a1 a2 a3 a4 a5 a6 a7 a8 a9 a10 a11 a12 a13 a14 a15).length = 46 + a8.size + a9.size + a15.size := by unfold encC; simp only [List.length_append, hdrC_len, bytesOf_length]; omega
theorem putC (a0 : Int) (a1 : Int) (a2 : Int) (a3 : Int) (a4 : Int) (a5 : Int) (a6 : Int) (a7 : Int) (a8 : ByteArray) (a9 : ByteArray) (a10 : Int) (a11 : Int) (a12 : Int) (a13 : Int) (a14 : Int) (a15 : ByteArray) (h : FitC a0 a1 a2 a3 a4 a5 a6 a7 a8 a9 a10 a11 a12 a13 a14 a15) : (centralB a0 a1 a2 a3 a4 a5 a6 a7 a8 a9 a10 a11 a12 a13 a14 a15).ans = (encC a0 a1 a2 a3 a4 a5 a6 a7 a8 a9 a10 a11 a12 a13 a14 a15, 0) := by
  obtain ⟨ha10, ha0, ha1, ha2, ha3, ha4, ha5, ha6, ha7, ha8, ha9, ha15, ha11, ha12, ha13, ha14⟩ := h
  unfold centralB sharedB
  rw [wrap_small ha5, num_fit (by omega) (by omega) (by simp [le_length]), num_fit (by omega) (by omega) (by simp [le_length]), num_fit (by omega) (by omega) (by simp [le_length]), num_fit (by omega) (by omega) (by simp [le_length]), num_fit (by omega) (by omega) (by simp [le_length]), num_fit (by omega) (by omega) (by simp [le_length]), num_fit (by omega) (by omega) (by simp [le_length]), num_fit (by omega) (by omega) (by simp [le_length]), num_fit (by omega) (by omega) (by simp [le_length]), num_fit (by omega) (by omega) (by simp [le_length]), num_fit (by omega) (by omega) (by simp [le_length]), num_fit (by omega) (by omega) (by simp [le_length]), num_fit (by omega) (by omega) (by simp [le_length]), num_fit (by omega) (by omega) (by simp [le_length]), num_fit (by omega) (by omega) (by simp [le_length]), num_fit (by omega) (by omega) (by simp [le_length]), num_fit (by omega) (by omega) (by simp [le_length]), text_fit (by simp [le_length, bytesOf_length]; omega), text_fit (by simp [le_length, bytesOf_length]; omega), text_fit (by simp [le_length, bytesOf_length]; omega)]
  unfold BS.ans encC hdrC
  simp
theorem putC_no (a0 : Int) (a1 : Int) (a2 : Int) (a3 : Int) (a4 : Int) (a5 : Int) (a6 : Int) (a7 : Int) (a8 : ByteArray) (a9 : ByteArray) (a10 : Int) (a11 : Int) (a12 : Int) (a13 : Int) (a14 : Int) (a15 : ByteArray) (h5 : 0 ≤ a5 ∧ a5 < 4294967296) (h : ¬ FitC a0 a1 a2 a3 a4 a5 a6 a7 a8 a9 a10 a11 a12 a13 a14 a15) : (centralB a0 a1 a2 a3 a4 a5 a6 a7 a8 a9 a10 a11 a12 a13 a14 a15).ans = ([], 124) := by
  unfold BS.ans
  rw [if_neg]
  intro he
  unfold centralB sharedB at he
  rw [wrap_small h5] at he
  have t0 := text_ok he
  have t1 := text_ok t0
  have t2 := text_ok t1
  obtain ⟨e0, x0, y0, -⟩ := gnum_ok t2
  obtain ⟨e1, x1, y1, -⟩ := gnum_ok e0
  obtain ⟨e2, x2, y2, -⟩ := gnum_ok e1
  obtain ⟨e3, x3, y3, -⟩ := gnum_ok e2
  obtain ⟨e4, x4, y4, -⟩ := gnum_ok e3
  obtain ⟨e5, x5, y5, -⟩ := gnum_ok e4
  obtain ⟨e6, x6, y6, -⟩ := gnum_ok e5
  obtain ⟨e7, x7, y7, -⟩ := gnum_ok e6
  obtain ⟨e8, x8, y8, -⟩ := gnum_ok e7
  obtain ⟨e9, x9, y9, -⟩ := gnum_ok e8
  obtain ⟨e10, x10, y10, -⟩ := gnum_ok e9
  obtain ⟨e11, x11, y11, -⟩ := gnum_ok e10
  obtain ⟨e12, x12, y12, -⟩ := gnum_ok e11
  obtain ⟨e13, x13, y13, -⟩ := gnum_ok e12
  obtain ⟨e14, x14, y14, -⟩ := gnum_ok e13
  obtain ⟨e15, x15, y15, -⟩ := gnum_ok e14
  exact h ⟨by omega, by omega, by omega, by omega, by omega, by omega, by omega, by omega, by omega, by omega, by omega, by omega, by omega, by omega, by omega, by omega⟩
theorem getC {l pre r : List Int} (a0 : Int) (a1 : Int) (a2 : Int) (a3 : Int) (a4 : Int) (a5 : Int) (a6 : Int) (a7 : Int) (a8 : ByteArray) (a9 : ByteArray) (a10 : Int) (a11 : Int) (a12 : Int) (a13 : Int) (a14 : Int) (a15 : ByteArray) (h : FitC a0 a1 a2 a3 a4 a5 a6 a7 a8 a9 a10 a11 a12 a13 a14 a15) (hl : l = pre ++ (encC a0 a1 a2 a3 a4 a5 a6 a7 a8 a9 a10 a11 a12 a13 a14 a15 ++ r)) :
    getCentralF l (pre.length : Int) = (a0, a1, a2, a3, a4, a5, a6, a7, a8, a9, a10, a11, a12, a13, a14, a15, ((pre.length + (46 + a8.size + a9.size + a15.size) : Nat) : Int), 0) := by
  obtain ⟨ha10, ha0, ha1, ha2, ha3, ha4, ha5, ha6, ha7, ha8, ha9, ha15, ha11, ha12, ha13, ha14⟩ := h
  unfold encC at hl
  rw [List.append_assoc] at hl
  obtain ⟨hE, hC, hd, hF⟩ := fields_put (sg := 33639248) hl (show hdrC a0 a1 a2 a3 a4 a5 a6 a7 a8 a9 a10 a11 a12 a13 a14 a15 = le 4 33639248 ++ _ from rfl) (by omega) (by omega)
  have hlen : l.length = pre.length + (46 + (a8.size + a9.size + a15.size + r.length)) := by rw [hl]; simp only [List.length_append, hdrC_len, bytesOf_length] <;> omega
  rw [hdrC_len] at hE hC hd
  generalize hdrC a0 a1 a2 a3 a4 a5 a6 a7 a8 a9 a10 a11 a12 a13 a14 a15 = H at *
  obtain ⟨v0, c0, d0⟩ := cur_le hF ha10.1 (by omega)
  obtain ⟨v1, c1, d1⟩ := cur_le d0 ha0.1 (by omega)
  obtain ⟨v2, c2, d2⟩ := cur_le d1 ha1.1 (by omega)
  obtain ⟨v3, c3, d3⟩ := cur_le d2 ha2.1 (by omega)
  obtain ⟨v4, c4, d4⟩ := cur_le d3 ha3.1 (by omega)
  obtain ⟨v5, c5, d5⟩ := cur_le d4 ha4.1 (by omega)
  obtain ⟨v6, c6, d6⟩ := cur_le d5 ha5.1 (by omega)
  obtain ⟨v7, c7, d7⟩ := cur_le d6 ha6.1 (by omega)
  obtain ⟨v8, c8, d8⟩ := cur_le d7 ha7.1 (by omega)
  obtain ⟨v9, c9, d9⟩ := cur_le d8 (by omega) (by omega)
  obtain ⟨v10, c10, d10⟩ := cur_le d9 (by omega) (by omega)
  obtain ⟨v11, c11, d11⟩ := cur_le d10 (by omega) (by omega)
  obtain ⟨v12, c12, d12⟩ := cur_le d11 ha11.1 (by omega)
  obtain ⟨v13, c13, d13⟩ := cur_le d12 ha12.1 (by omega)
  obtain ⟨v14, c14, d14⟩ := cur_le d13 ha13.1 (by omega)
  obtain ⟨v15, c15, d15⟩ := cur_le d14 ha14.1 (by omega)
  simp only [List.append_assoc] at hd
  have hd0 : l.drop ((pre.length + 46) + a8.size) = bytesOf a9 ++ (bytesOf a15 ++ r) := by rw [← List.drop_drop, hd, List.drop_left' (bytesOf_length a8)]
  have hd1 : l.drop ((pre.length + 46) + a8.size + a9.size) = bytesOf a15 ++ r := by rw [← List.drop_drop, hd0, List.drop_left' (bytesOf_length a9)]
  have ht2 := texts_put hd1 (ns := []) (ts := []) (b := (pre.length + 46) + a8.size + a9.size + a15.size) rfl (by omega)
  have ht1 := texts_put hd0 ht2 (by omega)
  have ht0 := texts_put hd ht1 (by omega)
  have m5 : a5 % 4294967296 = a5 := by omega
  unfold getCentralF
  rw [if_pos hE, hC]
  simp only [c0, c1, c2, c3, c4, c5, c6, c7, c8, c9, c10, c11, c12, c13, c14, v0, v1, v2, v3, v4, v5, v6, v7, v8, v9, v10, v11, v12, v13, v14, v15]
  rw [show ((pre.length : Int) + 46).toNat = pre.length + 46 by omega, ht0]
  simp only [m5, Prod.mk.injEq, true_and, and_true]
  omega
end Go.Proofs.Ytkmnhlhpmfkloaa.Fld
