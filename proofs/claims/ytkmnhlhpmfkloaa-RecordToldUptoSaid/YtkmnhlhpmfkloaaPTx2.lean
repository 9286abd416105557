-- written by this session's own program ext.py over the print
import Derived.Test.YtkmnhlhpmfkloaaPTx0
import Derived.Test.YtkmnhlhpmfkloaaPTx1
namespace Go.Proofs.Ytkmnhlhpmfkloaa.PT
open Go.RowKit Go.Proofs.YtkmnhlhpmfkloaaW.PrintWords Go.Proofs.YtkmnhlhpmfkloaaW.PrintLast Go.Proofs.YtkmnhlhpmfkloaaW.PrintMore
attribute [local go_sem] max2_int min2_int max_two min_two max_three min_three max_four min_four   -- for this text's walks alone
set_option linter.unusedVariables false
set_option linter.unusedSimpArgs false

/-! ### valiselaw12_RecordTold: function 4 -/
mutual
def valiselaw12_RecordTold.j0 : Nat → List Int → Bool → List Int → List Int → Int → Bool → Int → Int → Int → Int → Int → Int → Int → Int → ByteArray → ByteArray → Option (Bool)
  | 0, _, _, _, _, _, _, _, _, _, _, _, _, _, _, _, _ => none
  | k + 1, x0, x2, x3, x9, x10, x31, x114000, x114001, x114002, x114003, x114004, x114005, x114006, x114007, x114008, x114009 => if x31 = true then (if x10 = 124 then (some ((x9.length : Int) == 0)) else (some false)) else (if x2 = true then (valiselaw12_RecordTold.j1 k x0 x2 x3 x9 x10 16 x114000 x114001 x114002 x114003 x114004 x114005 x114006 x114007 x114008 x114009) else (valiselaw12_RecordTold.j1 k x0 x2 x3 x9 x10 12 x114000 x114001 x114002 x114003 x114004 x114005 x114006 x114007 x114008 x114009))
def valiselaw12_RecordTold.j1 : Nat → List Int → Bool → List Int → List Int → Int → Int → Int → Int → Int → Int → Int → Int → Int → Int → ByteArray → ByteArray → Option (Bool)
  | 0, _, _, _, _, _, _, _, _, _, _, _, _, _, _, _, _ => none
  | k + 1, x0, x2, x3, x9, x10, x11, x114000, x114001, x114002, x114003, x114004, x114005, x114006, x114007, x114008, x114009 => if x10 = 0 then (valiselaw12_RecordTold.j2 k x0 x2 x3 x9 x11 ((x9.length : Int) != x11) x114000 x114001 x114002 x114003 x114004 x114005 x114006 x114007 x114008 x114009) else (valiselaw12_RecordTold.j2 k x0 x2 x3 x9 x11 true x114000 x114001 x114002 x114003 x114004 x114005 x114006 x114007 x114008 x114009)
def valiselaw12_RecordTold.j2 : Nat → List Int → Bool → List Int → List Int → Int → Bool → Int → Int → Int → Int → Int → Int → Int → Int → ByteArray → ByteArray → Option (Bool)
  | 0, _, _, _, _, _, _, _, _, _, _, _, _, _, _, _, _ => none
  | k + 1, x0, x2, x3, x9, x11, x47, x114000, x114001, x114002, x114003, x114004, x114005, x114006, x114007, x114008, x114009 => if x47 = true then (some false) else ((valiselaw12_joined.f k x0 x9).bind fun t120 => ((valiselaw12_joined.f k t120 x3).bind fun t123 => ((record_GetDescriptor.f t123 (x0.length : Int) x114000 x114001 x114002 x114003 x114004 x114005 x114006 x114007 x114008 x114009).bind fun bt126 => (if bt126.2 = 0 then (if bt126.1 = x11 then (valiselaw12_RecordTold.j3 k x0 x2 t123 false x114000 x114001 x114002 x114003 x114004 x114005 x114006 x114007 x114008 x114009) else (valiselaw12_RecordTold.j3 k x0 x2 t123 (x114005 != 134695760) x114000 x114001 x114002 x114003 x114004 x114005 x114006 x114007 x114008 x114009)) else (valiselaw12_RecordTold.j3 k x0 x2 t123 true x114000 x114001 x114002 x114003 x114004 x114005 x114006 x114007 x114008 x114009)))))
def valiselaw12_RecordTold.j3 : Nat → List Int → Bool → List Int → Bool → Int → Int → Int → Int → Int → Int → Int → Int → ByteArray → ByteArray → Option (Bool)
  | 0, _, _, _, _, _, _, _, _, _, _, _, _, _, _ => none
  | k + 1, x0, x2, x12, x72, x114000, x114001, x114002, x114003, x114004, x114005, x114006, x114007, x114008, x114009 => if x72 = true then (some false) else (if x2 = true then (valiselaw12_RecordTold.j4 k x0 x12 (x114005 != 134695760) x114000 x114001 x114002 x114003 x114004 x114005 x114006 x114007 x114008 x114009) else (valiselaw12_RecordTold.j4 k x0 x12 false x114000 x114001 x114002 x114003 x114004 x114005 x114006 x114007 x114008 x114009))
def valiselaw12_RecordTold.j4 : Nat → List Int → List Int → Bool → Int → Int → Int → Int → Int → Int → Int → Int → ByteArray → ByteArray → Option (Bool)
  | 0, _, _, _, _, _, _, _, _, _, _, _, _, _ => none
  | k + 1, x0, x12, x78, x114000, x114001, x114002, x114003, x114004, x114005, x114006, x114007, x114008, x114009 => if x78 = true then ((record_GetDescriptor.f x12 (wrap64 ((x0.length : Int) + 4)) x114000 x114001 x114002 x114003 x114004 x114005 x114006 x114007 x114008 x114009).bind fun bt128 => (if bt128.2 = 0 then (if bt128.1 = 12 then ((record_GetDescriptor.f x12 (x0.length : Int) x114000 x114001 x114002 x114003 x114004 (Go.bits .xor .u32 x114005 1) x114006 x114007 x114008 x114009).bind fun bt131 => (if bt131.2 = 0 then (if x114005 = 134695760 then (some true) else (some (x114005 == 134695761))) else (some true))) else (some false)) else (some false))) else ((record_GetDescriptor.f x12 (x0.length : Int) x114000 x114001 x114002 x114003 x114004 (Go.bits .xor .u32 x114005 1) x114006 x114007 x114008 x114009).bind fun bt134 => (if bt134.2 = 0 then (if x114005 = 134695760 then (some true) else (some (x114005 == 134695761))) else (some true)))
end
def valiselaw12_RecordTold.f (k : Nat) (l0 : List Int) (a1_0 : Int) (a1_1 : Int) (a1_2 : Int) (a1_3 : Int) (a1_4 : Int) (a1_5 : Int) (a1_6 : Int) (a1_7 : Int) (a1_8 : ByteArray) (a1_9 : ByteArray) (a2 : Bool) (l3 : List Int) : Option (Bool) := (record_PutDescriptor.f a1_0 a1_1 a1_2 a1_3 a1_4 a1_5 a1_6 a1_7 a1_8 a1_9 a2).bind fun bt114 => ((valiselaw12_is32.f a1_6).bind fun t118 => (if t118 = true then ((valiselaw12_is32.f a1_7).bind fun t119 => (valiselaw12_RecordTold.j0 k l0 a2 l3 bt114.1 bt114.2 (!t119) a1_0 a1_1 a1_2 a1_3 a1_4 a1_5 a1_6 a1_7 a1_8 a1_9)) else (valiselaw12_RecordTold.j0 k l0 a2 l3 bt114.1 bt114.2 true a1_0 a1_1 a1_2 a1_3 a1_4 a1_5 a1_6 a1_7 a1_8 a1_9)))
theorem valiselaw12_RecordTold.mono_l : ∀ k, (∀ y0 y1 y2 y3 y4 y5 y6 y7 y8 y9 y10 y11 y12 y13 y14 y15, LeO (valiselaw12_RecordTold.j0 k y0 y1 y2 y3 y4 y5 y6 y7 y8 y9 y10 y11 y12 y13 y14 y15) (valiselaw12_RecordTold.j0 (k + 1) y0 y1 y2 y3 y4 y5 y6 y7 y8 y9 y10 y11 y12 y13 y14 y15)) ∧ (∀ y0 y1 y2 y3 y4 y5 y6 y7 y8 y9 y10 y11 y12 y13 y14 y15, LeO (valiselaw12_RecordTold.j1 k y0 y1 y2 y3 y4 y5 y6 y7 y8 y9 y10 y11 y12 y13 y14 y15) (valiselaw12_RecordTold.j1 (k + 1) y0 y1 y2 y3 y4 y5 y6 y7 y8 y9 y10 y11 y12 y13 y14 y15)) ∧ (∀ y0 y1 y2 y3 y4 y5 y6 y7 y8 y9 y10 y11 y12 y13 y14 y15, LeO (valiselaw12_RecordTold.j2 k y0 y1 y2 y3 y4 y5 y6 y7 y8 y9 y10 y11 y12 y13 y14 y15) (valiselaw12_RecordTold.j2 (k + 1) y0 y1 y2 y3 y4 y5 y6 y7 y8 y9 y10 y11 y12 y13 y14 y15)) ∧ (∀ y0 y1 y2 y3 y4 y5 y6 y7 y8 y9 y10 y11 y12 y13, LeO (valiselaw12_RecordTold.j3 k y0 y1 y2 y3 y4 y5 y6 y7 y8 y9 y10 y11 y12 y13) (valiselaw12_RecordTold.j3 (k + 1) y0 y1 y2 y3 y4 y5 y6 y7 y8 y9 y10 y11 y12 y13)) ∧ (∀ y0 y1 y2 y3 y4 y5 y6 y7 y8 y9 y10 y11 y12, LeO (valiselaw12_RecordTold.j4 k y0 y1 y2 y3 y4 y5 y6 y7 y8 y9 y10 y11 y12) (valiselaw12_RecordTold.j4 (k + 1) y0 y1 y2 y3 y4 y5 y6 y7 y8 y9 y10 y11 y12))
  | 0 => ⟨fun _ _ _ _ _ _ _ _ _ _ _ _ _ _ _ _ r h => by simp [valiselaw12_RecordTold.j0] at h, fun _ _ _ _ _ _ _ _ _ _ _ _ _ _ _ _ r h => by simp [valiselaw12_RecordTold.j1] at h, fun _ _ _ _ _ _ _ _ _ _ _ _ _ _ _ _ r h => by simp [valiselaw12_RecordTold.j2] at h, fun _ _ _ _ _ _ _ _ _ _ _ _ _ _ r h => by simp [valiselaw12_RecordTold.j3] at h, fun _ _ _ _ _ _ _ _ _ _ _ _ _ r h => by simp [valiselaw12_RecordTold.j4] at h⟩
  | k + 1 => by
    obtain ⟨ih0, ih1, ih2, ih3, ih4⟩ := valiselaw12_RecordTold.mono_l k
    refine ⟨?_, ?_, ?_, ?_, ?_⟩
    · intro y0 y1 y2 y3 y4 y5 y6 y7 y8 y9 y10 y11 y12 y13 y14 y15
      unfold valiselaw12_RecordTold.j0
      repeat' first
      | (with_reducible exact ih0 _ _ _ _ _ _ _ _ _ _ _ _ _ _ _ _)
      | (with_reducible exact ih1 _ _ _ _ _ _ _ _ _ _ _ _ _ _ _ _)
      | (with_reducible exact ih2 _ _ _ _ _ _ _ _ _ _ _ _ _ _ _ _)
      | (with_reducible exact ih3 _ _ _ _ _ _ _ _ _ _ _ _ _ _)
      | (with_reducible exact ih4 _ _ _ _ _ _ _ _ _ _ _ _ _)
      | (with_reducible exact valiselaw12_joined.mono _ _ _)
      | (with_reducible exact LeO.refl _)
      | (with_reducible exact LeO.none _)
      | (with_reducible refine LeO.ite ?_ ?_)
      | (with_reducible refine LeO.bind ?_ (fun _ => ?_))
      | exact ih0 _ _ _ _ _ _ _ _ _ _ _ _ _ _ _ _
      | exact ih1 _ _ _ _ _ _ _ _ _ _ _ _ _ _ _ _
      | exact ih2 _ _ _ _ _ _ _ _ _ _ _ _ _ _ _ _
      | exact ih3 _ _ _ _ _ _ _ _ _ _ _ _ _ _
      | exact ih4 _ _ _ _ _ _ _ _ _ _ _ _ _
      | exact valiselaw12_joined.mono _ _ _
      | exact LeO.none _
      | refine LeO.ite ?_ ?_
      | refine LeO.bind ?_ (fun _ => ?_)
    · intro y0 y1 y2 y3 y4 y5 y6 y7 y8 y9 y10 y11 y12 y13 y14 y15
      unfold valiselaw12_RecordTold.j1
      repeat' first
      | (with_reducible exact ih0 _ _ _ _ _ _ _ _ _ _ _ _ _ _ _ _)
      | (with_reducible exact ih1 _ _ _ _ _ _ _ _ _ _ _ _ _ _ _ _)
      | (with_reducible exact ih2 _ _ _ _ _ _ _ _ _ _ _ _ _ _ _ _)
      | (with_reducible exact ih3 _ _ _ _ _ _ _ _ _ _ _ _ _ _)
      | (with_reducible exact ih4 _ _ _ _ _ _ _ _ _ _ _ _ _)
      | (with_reducible exact valiselaw12_joined.mono _ _ _)
      | (with_reducible exact LeO.refl _)
      | (with_reducible exact LeO.none _)
      | (with_reducible refine LeO.ite ?_ ?_)
      | (with_reducible refine LeO.bind ?_ (fun _ => ?_))
      | exact ih0 _ _ _ _ _ _ _ _ _ _ _ _ _ _ _ _
      | exact ih1 _ _ _ _ _ _ _ _ _ _ _ _ _ _ _ _
      | exact ih2 _ _ _ _ _ _ _ _ _ _ _ _ _ _ _ _
      | exact ih3 _ _ _ _ _ _ _ _ _ _ _ _ _ _
      | exact ih4 _ _ _ _ _ _ _ _ _ _ _ _ _
      | exact valiselaw12_joined.mono _ _ _
      | exact LeO.none _
      | refine LeO.ite ?_ ?_
      | refine LeO.bind ?_ (fun _ => ?_)
    · intro y0 y1 y2 y3 y4 y5 y6 y7 y8 y9 y10 y11 y12 y13 y14 y15
      unfold valiselaw12_RecordTold.j2
      repeat' first
      | (with_reducible exact ih0 _ _ _ _ _ _ _ _ _ _ _ _ _ _ _ _)
      | (with_reducible exact ih1 _ _ _ _ _ _ _ _ _ _ _ _ _ _ _ _)
      | (with_reducible exact ih2 _ _ _ _ _ _ _ _ _ _ _ _ _ _ _ _)
      | (with_reducible exact ih3 _ _ _ _ _ _ _ _ _ _ _ _ _ _)
      | (with_reducible exact ih4 _ _ _ _ _ _ _ _ _ _ _ _ _)
      | (with_reducible exact valiselaw12_joined.mono _ _ _)
      | (with_reducible exact LeO.refl _)
      | (with_reducible exact LeO.none _)
      | (with_reducible refine LeO.ite ?_ ?_)
      | (with_reducible refine LeO.bind ?_ (fun _ => ?_))
      | exact ih0 _ _ _ _ _ _ _ _ _ _ _ _ _ _ _ _
      | exact ih1 _ _ _ _ _ _ _ _ _ _ _ _ _ _ _ _
      | exact ih2 _ _ _ _ _ _ _ _ _ _ _ _ _ _ _ _
      | exact ih3 _ _ _ _ _ _ _ _ _ _ _ _ _ _
      | exact ih4 _ _ _ _ _ _ _ _ _ _ _ _ _
      | exact valiselaw12_joined.mono _ _ _
      | exact LeO.none _
      | refine LeO.ite ?_ ?_
      | refine LeO.bind ?_ (fun _ => ?_)
    · intro y0 y1 y2 y3 y4 y5 y6 y7 y8 y9 y10 y11 y12 y13
      unfold valiselaw12_RecordTold.j3
      repeat' first
      | (with_reducible exact ih0 _ _ _ _ _ _ _ _ _ _ _ _ _ _ _ _)
      | (with_reducible exact ih1 _ _ _ _ _ _ _ _ _ _ _ _ _ _ _ _)
      | (with_reducible exact ih2 _ _ _ _ _ _ _ _ _ _ _ _ _ _ _ _)
      | (with_reducible exact ih3 _ _ _ _ _ _ _ _ _ _ _ _ _ _)
      | (with_reducible exact ih4 _ _ _ _ _ _ _ _ _ _ _ _ _)
      | (with_reducible exact valiselaw12_joined.mono _ _ _)
      | (with_reducible exact LeO.refl _)
      | (with_reducible exact LeO.none _)
      | (with_reducible refine LeO.ite ?_ ?_)
      | (with_reducible refine LeO.bind ?_ (fun _ => ?_))
      | exact ih0 _ _ _ _ _ _ _ _ _ _ _ _ _ _ _ _
      | exact ih1 _ _ _ _ _ _ _ _ _ _ _ _ _ _ _ _
      | exact ih2 _ _ _ _ _ _ _ _ _ _ _ _ _ _ _ _
      | exact ih3 _ _ _ _ _ _ _ _ _ _ _ _ _ _
      | exact ih4 _ _ _ _ _ _ _ _ _ _ _ _ _
      | exact valiselaw12_joined.mono _ _ _
      | exact LeO.none _
      | refine LeO.ite ?_ ?_
      | refine LeO.bind ?_ (fun _ => ?_)
    · intro y0 y1 y2 y3 y4 y5 y6 y7 y8 y9 y10 y11 y12
      unfold valiselaw12_RecordTold.j4
      repeat' first
      | (with_reducible exact ih0 _ _ _ _ _ _ _ _ _ _ _ _ _ _ _ _)
      | (with_reducible exact ih1 _ _ _ _ _ _ _ _ _ _ _ _ _ _ _ _)
      | (with_reducible exact ih2 _ _ _ _ _ _ _ _ _ _ _ _ _ _ _ _)
      | (with_reducible exact ih3 _ _ _ _ _ _ _ _ _ _ _ _ _ _)
      | (with_reducible exact ih4 _ _ _ _ _ _ _ _ _ _ _ _ _)
      | (with_reducible exact valiselaw12_joined.mono _ _ _)
      | (with_reducible exact LeO.refl _)
      | (with_reducible exact LeO.none _)
      | (with_reducible refine LeO.ite ?_ ?_)
      | (with_reducible refine LeO.bind ?_ (fun _ => ?_))
      | exact ih0 _ _ _ _ _ _ _ _ _ _ _ _ _ _ _ _
      | exact ih1 _ _ _ _ _ _ _ _ _ _ _ _ _ _ _ _
      | exact ih2 _ _ _ _ _ _ _ _ _ _ _ _ _ _ _ _
      | exact ih3 _ _ _ _ _ _ _ _ _ _ _ _ _ _
      | exact ih4 _ _ _ _ _ _ _ _ _ _ _ _ _
      | exact valiselaw12_joined.mono _ _ _
      | exact LeO.none _
      | refine LeO.ite ?_ ?_
      | refine LeO.bind ?_ (fun _ => ?_)
theorem valiselaw12_RecordTold.mono : ∀ a0 a1 a2 a3 a4 a5 a6 a7 a8 a9 a10 a11 a12 k, LeO (valiselaw12_RecordTold.f k a0 a1 a2 a3 a4 a5 a6 a7 a8 a9 a10 a11 a12) (valiselaw12_RecordTold.f (k + 1) a0 a1 a2 a3 a4 a5 a6 a7 a8 a9 a10 a11 a12) := by
  intro a0 a1 a2 a3 a4 a5 a6 a7 a8 a9 a10 a11 a12 k
  obtain ⟨ih0, ih1, ih2, ih3, ih4⟩ := valiselaw12_RecordTold.mono_l k
  unfold valiselaw12_RecordTold.f
  repeat' first
      | (with_reducible exact ih0 _ _ _ _ _ _ _ _ _ _ _ _ _ _ _ _)
      | (with_reducible exact ih1 _ _ _ _ _ _ _ _ _ _ _ _ _ _ _ _)
      | (with_reducible exact ih2 _ _ _ _ _ _ _ _ _ _ _ _ _ _ _ _)
      | (with_reducible exact ih3 _ _ _ _ _ _ _ _ _ _ _ _ _ _)
      | (with_reducible exact ih4 _ _ _ _ _ _ _ _ _ _ _ _ _)
      | (with_reducible exact valiselaw12_joined.mono _ _ _)
      | (with_reducible exact LeO.refl _)
      | (with_reducible exact LeO.none _)
      | (with_reducible refine LeO.ite ?_ ?_)
      | (with_reducible refine LeO.bind ?_ (fun _ => ?_))
      | exact ih0 _ _ _ _ _ _ _ _ _ _ _ _ _ _ _ _
      | exact ih1 _ _ _ _ _ _ _ _ _ _ _ _ _ _ _ _
      | exact ih2 _ _ _ _ _ _ _ _ _ _ _ _ _ _ _ _
      | exact ih3 _ _ _ _ _ _ _ _ _ _ _ _ _ _
      | exact ih4 _ _ _ _ _ _ _ _ _ _ _ _ _
      | exact valiselaw12_joined.mono _ _ _
      | exact LeO.none _
      | refine LeO.ite ?_ ?_
      | refine LeO.bind ?_ (fun _ => ?_)
set_option maxHeartbeats 8000000 in
set_option maxRecDepth 100000 in
theorem valiselaw12_RecordTold.calls (k : Nat) (A0 : Option Addr) (c0 : Nat) (l0 : List Int) (a1_0 : Int) (a1_1 : Int) (a1_2 : Int) (a1_3 : Int) (a1_4 : Int) (a1_5 : Int) (a1_6 : Int) (a1_7 : Int) (a1_8 : ByteArray) (a1_9 : ByteArray) (a2 : Bool) (A3 : Option Addr) (c3 : Nat) (l3 : List Int) (r : Bool) (w : World) (hr0 : Kd.C (Kd.int .u8) w A0 l0.length l0) (hc0 : l0.length ≤ c0) (hr3 : Kd.C (Kd.int .u8) w A3 l3.length l3) (hc3 : l3.length ≤ c3) (h : valiselaw12_RecordTold.f k l0 a1_0 a1_1 a1_2 a1_3 a1_4 a1_5 a1_6 a1_7 a1_8 a1_9 a2 l3 = some r) :
    Calls Try.prog 4 #[.slice A0 l0.length c0, .agg #[.int .i64 a1_0, .int .i64 a1_1, .int .i64 a1_2, .int .i64 a1_3, .int .i64 a1_4, .int .u32 a1_5, .int .i64 a1_6, .int .i64 a1_7, .string a1_8, .string a1_9], .bool a2, .slice A3 l3.length c3] w fun e w' => e = .returned (.bool r) ∧ Below w.heap.size w w' := by
  have hu24 := Try.underlying24
  have HR0 := Aside0.mk hr0
  have HC0 := Aside0.mk hc0
  clear hr0 hc0
  have HR3 := Aside0.mk hr3
  have HC3 := Aside0.mk hc3
  clear hr3 hc3
  have HB := Aside0.mk (Below.refl w.heap.size w)
  have H : ((record_PutDescriptor.f a1_0 a1_1 a1_2 a1_3 a1_4 a1_5 a1_6 a1_7 a1_8 a1_9 a2).bind fun bt114 => ((valiselaw12_is32.f a1_6).bind fun t118 => (if t118 = true then ((valiselaw12_is32.f a1_7).bind fun t119 => (valiselaw12_RecordTold.j0 k l0 a2 l3 bt114.1 bt114.2 (!t119) a1_0 a1_1 a1_2 a1_3 a1_4 a1_5 a1_6 a1_7 a1_8 a1_9)) else (valiselaw12_RecordTold.j0 k l0 a2 l3 bt114.1 bt114.2 true a1_0 a1_1 a1_2 a1_3 a1_4 a1_5 a1_6 a1_7 a1_8 a1_9)))) = some r := h
  clear h
  replace H := Option.bind_eq_some_iff.mp H
  obtain ⟨⟨t114, t117⟩, A50, H⟩ := H
  replace H : ((valiselaw12_is32.f a1_6).bind fun t118 => (if t118 = true then ((valiselaw12_is32.f a1_7).bind fun t119 => (valiselaw12_RecordTold.j0 k l0 a2 l3 t114 t117 (!t119) a1_0 a1_1 a1_2 a1_3 a1_4 a1_5 a1_6 a1_7 a1_8 a1_9)) else (valiselaw12_RecordTold.j0 k l0 a2 l3 t114 t117 true a1_0 a1_1 a1_2 a1_3 a1_4 a1_5 a1_6 a1_7 a1_8 a1_9))) = some r := H
  have A5 := Aside0.mk A50
  clear A50
  have HC6 := Aside0.mk H
  clear H
  go_enter Try.func4, Try.ntmps4
  go_upto_region 2 with (first | ((with_reducible refine gate_dst (N := 5) rfl ?_); (try (refine gate_guard (by rfl) ?_; dsimp only)); refine box_event ?hg (N := 5) ?hd (cs := #[.int .i64 a1_0, .int .i64 a1_1, .int .i64 a1_2, .int .i64 a1_3, .int .i64 a1_4, .int .u32 a1_5, .int .i64 a1_6, .int .i64 a1_7, .string a1_8, .string a1_9]) (t := 24) ?hr ?_; (case hd => rfl); (case hg => rfl); (case hr => first | (go_simp; done) | (go_simp; rfl)); intro gb113 hg w7 hbox hb; have n0_ := Aside0.mk (below_step (by repeat (first | (with_reducible first | exact HB.out | apply below_alloc | apply pw_below_drewN | apply below_drew1) | exact HB.out)) hb); have n1_ := Aside0.mk (hbox); have n2_ := Aside0.mk ((by rw [hg]; exact (below_size (by repeat (first | (with_reducible first | exact HB.out | apply below_alloc | apply pw_below_drewN | apply below_drew1) | exact HB.out))) : w.heap.size ≤ gb113)); have n3_ := Aside0.mk ((by rw [hg]; exact (below_size (by repeat (first | (with_reducible first | exact HB.out | apply below_alloc | apply pw_below_drewN | apply below_drew1) | exact HB.out))) : w.heap.size ≤ gb113)); clear HB; have HB := n0_; have BK113 := n1_; have GW113 := n2_; have GE113 := n3_; clear n0_ n1_ n2_ n3_; clear hb hbox hg; have hcz8_0 : w7.cell? ⟨gb113, 0, none⟩ = some (.int .i64 a1_0) := (blk_cell BK113.out 0).trans rfl; have hcz8_1 : w7.cell? ⟨gb113, 1, none⟩ = some (.int .i64 a1_1) := (blk_cell BK113.out 1).trans rfl; have hcz8_2 : w7.cell? ⟨gb113, 2, none⟩ = some (.int .i64 a1_2) := (blk_cell BK113.out 2).trans rfl; have hcz8_3 : w7.cell? ⟨gb113, 3, none⟩ = some (.int .i64 a1_3) := (blk_cell BK113.out 3).trans rfl; have hcz8_4 : w7.cell? ⟨gb113, 4, none⟩ = some (.int .i64 a1_4) := (blk_cell BK113.out 4).trans rfl; have hcz8_5 : w7.cell? ⟨gb113, 5, none⟩ = some (.int .u32 a1_5) := (blk_cell BK113.out 5).trans rfl; have hcz8_6 : w7.cell? ⟨gb113, 6, none⟩ = some (.int .i64 a1_6) := (blk_cell BK113.out 6).trans rfl; have hcz8_7 : w7.cell? ⟨gb113, 7, none⟩ = some (.int .i64 a1_7) := (blk_cell BK113.out 7).trans rfl; have hcz8_8 : w7.cell? ⟨gb113, 8, none⟩ = some (.string a1_8) := (blk_cell BK113.out 8).trans rfl; have hcz8_9 : w7.cell? ⟨gb113, 9, none⟩ = some (.string a1_9) := (blk_cell BK113.out 9).trans rfl; have hfz8_0 := blk_frozen BK113.out 0; have hfz8_1 := blk_frozen BK113.out 1; have hfz8_2 := blk_frozen BK113.out 2; have hfz8_3 := blk_frozen BK113.out 3; have hfz8_4 := blk_frozen BK113.out 4; have hfz8_5 := blk_frozen BK113.out 5; have hfz8_6 := blk_frozen BK113.out 6; have hfz8_7 := blk_frozen BK113.out 7; have hfz8_8 := blk_frozen BK113.out 8; have hfz8_9 := blk_frozen BK113.out 9) | ((with_reducible refine gate_callee (f := 13) rfl ?_); refine goesL_ (some 19) rfl rfl Try.func13 (by kernel_rfl) rfl #[.agg #[.int .i64 a1_0, .int .i64 a1_1, .int .i64 a1_2, .int .i64 a1_3, .int .i64 a1_4, .int .u32 a1_5, .int .i64 a1_6, .int .i64 a1_7, .string a1_8, .string a1_9], .bool a2] rfl (by (try simp only [List.map_toArray, List.map_cons, List.map_nil]); first | done | rfl | (simp only [List.length_drop, List.length_take]; rfl)) ?_; (with_reducible refine (record_PutDescriptor.calls a1_0 a1_1 a1_2 a1_3 a1_4 a1_5 a1_6 a1_7 a1_8 a1_9 a2 t114 t117 _ A5.out).mono ?_); rintro e w9 ⟨v115, rfl, ho0, hb⟩; refine ⟨_, rfl, ?_⟩; have n0_ := Aside0.mk (Kd.R_lower ho0 (below_size (by repeat (first | (with_reducible first | exact HB.out | apply below_alloc | apply pw_below_drewN | apply below_drew1 | refine below_set ?_ GE113.out) | exact HB.out)))); have n1_ := Aside0.mk (blk_below (g := gb113) (o := .cells #[.int .i64 a1_0, .int .i64 a1_1, .int .i64 a1_2, .int .i64 a1_3, .int .i64 a1_4, .int .u32 a1_5, .int .i64 a1_6, .int .i64 a1_7, .string a1_8, .string a1_9] 24 (0, 0)) (by (with_reducible repeat (first | refine blk_drewN ?_ _ | refine blk_drew ?_ | refine blk_alloc ?_ _)); exact BK113.out) hb); have n2_ := Aside0.mk (below_step (by repeat (first | (with_reducible first | exact HB.out | apply below_alloc | apply pw_below_drewN | apply below_drew1 | refine below_set ?_ GE113.out) | exact HB.out)) hb); clear BK113; clear HB; have HO116 := n0_; have BK113 := n1_; have HB := n2_; clear n0_ n1_ n2_; (try clear hb); (try clear hb2); (try clear hk); (try clear hi); (try clear ho0)))
  (try simp only [Act.put, List.setIfInBounds_toArray, List.set_cons_zero, List.set_cons_succ])
  go_cut [31] (fun v31 wc => ∃ (kq : Nat) (x31_5 : Bool), v31 = .bool x31_5 ∧ Aside0 (valiselaw12_RecordTold.j0 kq l0 a2 l3 t114 t117 x31_5 a1_0 a1_1 a1_2 a1_3 a1_4 a1_5 a1_6 a1_7 a1_8 a1_9 = some r) ∧ Aside0 (kq ≤ k) ∧ Aside0 (Kd.R (Kd.int .u8) 5 wc w.heap.size (fun _ => True) v115 t114) ∧ Aside0 (wc.heap[gb113]? = some (.cells #[.int .i64 a1_0, .int .i64 a1_1, .int .i64 a1_2, .int .i64 a1_3, .int .i64 a1_4, .int .u32 a1_5, .int .i64 a1_6, .int .i64 a1_7, .string a1_8, .string a1_9] 24 (0, 0))) ∧ Aside0 (Below w.heap.size w wc))
  case first =>
    have H := HC6.out
    clear HC6
    replace H := Option.bind_eq_some_iff.mp H
    obtain ⟨t118, A100, H⟩ := H
    replace H : (if t118 = true then ((valiselaw12_is32.f a1_7).bind fun t119 => (valiselaw12_RecordTold.j0 k l0 a2 l3 t114 t117 (!t119) a1_0 a1_1 a1_2 a1_3 a1_4 a1_5 a1_6 a1_7 a1_8 a1_9)) else (valiselaw12_RecordTold.j0 k l0 a2 l3 t114 t117 true a1_0 a1_1 a1_2 a1_3 a1_4 a1_5 a1_6 a1_7 a1_8 a1_9)) = some r := H
    have A10 := Aside0.mk A100
    clear A100
    by_cases c11 : t118 = true
    · subst c11
      have H1 : ((valiselaw12_is32.f a1_7).bind fun t119 => (valiselaw12_RecordTold.j0 k l0 a2 l3 t114 t117 (!t119) a1_0 a1_1 a1_2 a1_3 a1_4 a1_5 a1_6 a1_7 a1_8 a1_9)) = some r := by rw [if_pos rfl] at H; exact H
      clear H
      have H := H1
      clear H1
      replace H := Option.bind_eq_some_iff.mp H
      obtain ⟨t119, A120, H⟩ := H
      replace H : (valiselaw12_RecordTold.j0 k l0 a2 l3 t114 t117 (!t119) a1_0 a1_1 a1_2 a1_3 a1_4 a1_5 a1_6 a1_7 a1_8 a1_9) = some r := H
      have A12 := Aside0.mk A120
      clear A120
      have H' := Aside0.mk H
      clear H
      have hcz13_0 : w9.cell? ⟨gb113, 0, none⟩ = some (.int .i64 a1_0) := (blk_cell BK113.out 0).trans rfl
      have hcz13_1 : w9.cell? ⟨gb113, 1, none⟩ = some (.int .i64 a1_1) := (blk_cell BK113.out 1).trans rfl
      have hcz13_2 : w9.cell? ⟨gb113, 2, none⟩ = some (.int .i64 a1_2) := (blk_cell BK113.out 2).trans rfl
      have hcz13_3 : w9.cell? ⟨gb113, 3, none⟩ = some (.int .i64 a1_3) := (blk_cell BK113.out 3).trans rfl
      have hcz13_4 : w9.cell? ⟨gb113, 4, none⟩ = some (.int .i64 a1_4) := (blk_cell BK113.out 4).trans rfl
      have hcz13_5 : w9.cell? ⟨gb113, 5, none⟩ = some (.int .u32 a1_5) := (blk_cell BK113.out 5).trans rfl
      have hcz13_6 : w9.cell? ⟨gb113, 6, none⟩ = some (.int .i64 a1_6) := (blk_cell BK113.out 6).trans rfl
      have hcz13_7 : w9.cell? ⟨gb113, 7, none⟩ = some (.int .i64 a1_7) := (blk_cell BK113.out 7).trans rfl
      have hcz13_8 : w9.cell? ⟨gb113, 8, none⟩ = some (.string a1_8) := (blk_cell BK113.out 8).trans rfl
      have hcz13_9 : w9.cell? ⟨gb113, 9, none⟩ = some (.string a1_9) := (blk_cell BK113.out 9).trans rfl
      have hfz13_0 := blk_frozen BK113.out 0
      have hfz13_1 := blk_frozen BK113.out 1
      have hfz13_2 := blk_frozen BK113.out 2
      have hfz13_3 := blk_frozen BK113.out 3
      have hfz13_4 := blk_frozen BK113.out 4
      have hfz13_5 := blk_frozen BK113.out 5
      have hfz13_6 := blk_frozen BK113.out 6
      have hfz13_7 := blk_frozen BK113.out 7
      have hfz13_8 := blk_frozen BK113.out 8
      have hfz13_9 := blk_frozen BK113.out 9
      go_wp2_with (first | ((with_reducible refine gate_callee (f := 21) rfl ?_); refine goesL_ (some 24) rfl rfl Try.func21 (by kernel_rfl) rfl #[.int .i64 a1_6] rfl (by (try simp only [List.map_toArray, List.map_cons, List.map_nil]); first | done | rfl | (simp only [List.length_drop, List.length_take]; rfl)) ?_; (with_reducible refine (valiselaw12_is32.calls a1_6 true _ A10.out).mono ?_); rintro e w' ⟨rfl, ⟨nd, rfl⟩⟩; refine ⟨_, rfl, ?_⟩) | (go_at_call 21; (with_reducible refine (valiselaw12_is32.calls a1_7 t119 _ A12.out).mono ?_); rintro e w' ⟨rfl, ⟨nd, rfl⟩⟩))
      go_meet
      case rel => exact ⟨_, (!t119), (by first | rfl | (simp; done) | (simp [*]; done)), H', ⟨by first | omega | exact Nat.le_refl _⟩, ⟨by (with_reducible repeat (first | apply Kd.R_alloc | apply Kd.R_drewN | apply Kd.R_drew)); exact HO116.out⟩, ⟨by (with_reducible repeat (first | refine blk_drewN ?_ _ | refine blk_drew ?_ | refine blk_alloc ?_ _)); exact BK113.out⟩, ⟨by repeat (first | (with_reducible first | exact HB.out | apply below_alloc | apply pw_below_drewN | apply below_drew1 | refine below_set ?_ GE113.out) | exact HB.out)⟩⟩
    · replace c11 := Bool.eq_false_iff.mpr c11
      subst c11
      have H1 : (valiselaw12_RecordTold.j0 k l0 a2 l3 t114 t117 true a1_0 a1_1 a1_2 a1_3 a1_4 a1_5 a1_6 a1_7 a1_8 a1_9) = some r := by rw [if_neg (show ¬ (false = true) by decide)] at H; exact H
      clear H
      have H := H1
      clear H1
      have H' := Aside0.mk H
      clear H
      have hcz14_0 : w9.cell? ⟨gb113, 0, none⟩ = some (.int .i64 a1_0) := (blk_cell BK113.out 0).trans rfl
      have hcz14_1 : w9.cell? ⟨gb113, 1, none⟩ = some (.int .i64 a1_1) := (blk_cell BK113.out 1).trans rfl
      have hcz14_2 : w9.cell? ⟨gb113, 2, none⟩ = some (.int .i64 a1_2) := (blk_cell BK113.out 2).trans rfl
      have hcz14_3 : w9.cell? ⟨gb113, 3, none⟩ = some (.int .i64 a1_3) := (blk_cell BK113.out 3).trans rfl
      have hcz14_4 : w9.cell? ⟨gb113, 4, none⟩ = some (.int .i64 a1_4) := (blk_cell BK113.out 4).trans rfl
      have hcz14_5 : w9.cell? ⟨gb113, 5, none⟩ = some (.int .u32 a1_5) := (blk_cell BK113.out 5).trans rfl
      have hcz14_6 : w9.cell? ⟨gb113, 6, none⟩ = some (.int .i64 a1_6) := (blk_cell BK113.out 6).trans rfl
      have hcz14_7 : w9.cell? ⟨gb113, 7, none⟩ = some (.int .i64 a1_7) := (blk_cell BK113.out 7).trans rfl
      have hcz14_8 : w9.cell? ⟨gb113, 8, none⟩ = some (.string a1_8) := (blk_cell BK113.out 8).trans rfl
      have hcz14_9 : w9.cell? ⟨gb113, 9, none⟩ = some (.string a1_9) := (blk_cell BK113.out 9).trans rfl
      have hfz14_0 := blk_frozen BK113.out 0
      have hfz14_1 := blk_frozen BK113.out 1
      have hfz14_2 := blk_frozen BK113.out 2
      have hfz14_3 := blk_frozen BK113.out 3
      have hfz14_4 := blk_frozen BK113.out 4
      have hfz14_5 := blk_frozen BK113.out 5
      have hfz14_6 := blk_frozen BK113.out 6
      have hfz14_7 := blk_frozen BK113.out 7
      have hfz14_8 := blk_frozen BK113.out 8
      have hfz14_9 := blk_frozen BK113.out 9
      go_wp2_with (first | ((with_reducible refine gate_callee (f := 21) rfl ?_); refine goesL_ (some 24) rfl rfl Try.func21 (by kernel_rfl) rfl #[.int .i64 a1_6] rfl (by (try simp only [List.map_toArray, List.map_cons, List.map_nil]); first | done | rfl | (simp only [List.length_drop, List.length_take]; rfl)) ?_; (with_reducible refine (valiselaw12_is32.calls a1_6 false _ A10.out).mono ?_); rintro e w' ⟨rfl, ⟨nd, rfl⟩⟩; refine ⟨_, rfl, ?_⟩))
      go_meet
      case rel => exact ⟨_, (true), (by first | rfl | (simp; done) | (simp [*]; done)), H', ⟨by first | omega | exact Nat.le_refl _⟩, ⟨by (with_reducible repeat (first | apply Kd.R_alloc | apply Kd.R_drewN | apply Kd.R_drew)); exact HO116.out⟩, ⟨by (with_reducible repeat (first | refine blk_drewN ?_ _ | refine blk_drew ?_ | refine blk_alloc ?_ _)); exact BK113.out⟩, ⟨by repeat (first | (with_reducible first | exact HB.out | apply below_alloc | apply pw_below_drewN | apply below_drew1 | refine below_set ?_ GE113.out) | exact HB.out)⟩⟩
  case rest =>
    clear HC6
    try clear c1
    try clear c2
    try clear p2
    try clear c3
    try clear c4
    try clear c11
    try clear c13
    try clear hcz13_0
    try clear hcz13_1
    try clear hcz13_2
    try clear hcz13_3
    try clear hcz13_4
    try clear hcz13_5
    try clear hcz13_6
    try clear hcz13_7
    try clear hcz13_8
    try clear hcz13_9
    try clear hcz14_0
    try clear hcz14_1
    try clear hcz14_2
    try clear hcz14_3
    try clear hcz14_4
    try clear hcz14_5
    try clear hcz14_6
    try clear hcz14_7
    try clear hcz14_8
    try clear hcz14_9
    try clear hcz8_0
    try clear hcz8_1
    try clear hcz8_2
    try clear hcz8_3
    try clear hcz8_4
    try clear hcz8_5
    try clear hcz8_6
    try clear hcz8_7
    try clear hcz8_8
    try clear hcz8_9
    try clear hfz13_0
    try clear hfz13_1
    try clear hfz13_2
    try clear hfz13_3
    try clear hfz13_4
    try clear hfz13_5
    try clear hfz13_6
    try clear hfz13_7
    try clear hfz13_8
    try clear hfz13_9
    try clear hfz14_0
    try clear hfz14_1
    try clear hfz14_2
    try clear hfz14_3
    try clear hfz14_4
    try clear hfz14_5
    try clear hfz14_6
    try clear hfz14_7
    try clear hfz14_8
    try clear hfz14_9
    try clear hfz8_0
    try clear hfz8_1
    try clear hfz8_2
    try clear hfz8_3
    try clear hfz8_4
    try clear hfz8_5
    try clear hfz8_6
    try clear hfz8_7
    try clear hfz8_8
    try clear hfz8_9
    obtain ⟨kq, x31_5, rfl, HA, HJ5, HO_9, BK113, HB⟩ := hcut
    cases kq with
    | zero => exact absurd HA.out (by simp [valiselaw12_RecordTold.j0])
    | succ kj5 =>
      have H := HA.out
      clear HA
      simp only [valiselaw12_RecordTold.j0] at H
      by_cases c15 : x31_5 = true
      · subst c15
        have H1 : (if t117 = 124 then (some ((t114.length : Int) == 0)) else (some false)) = some r := by rw [if_pos rfl] at H; exact H
        clear H
        have H := H1
        clear H1
        by_cases c16 : t117 = 124
        · rw [if_pos c16] at H
          have c16b0 : (t117 == 124) = true := beq_iff_eq.mpr c16
          have c16b1 : (t117 != 124) = false := bne_eq_false_iff_eq.mpr c16
          clear c16
          obtain rfl := Option.some.inj H
          obtain ⟨Ao17, co17, eo17⟩ := Kd.R_slice HO_9.out
          subst eo17
          go_wp2
          go_ret
          exact ⟨by first | rfl | (simp [errW_none, errW_some] <;> rfl) | (simp [*, errW_none, errW_some] <;> rfl), by repeat (first | (with_reducible first | exact HB.out | apply below_alloc | apply pw_below_drewN | apply below_drew1 | refine below_set ?_ GE113.out) | exact HB.out)⟩
        · rw [if_neg c16] at H
          have c16b0 : (t117 == 124) = false := beq_eq_false_iff_ne.mpr c16
          have c16b1 : (t117 != 124) = true := bne_iff_ne.mpr c16
          obtain rfl := Option.some.inj H
          go_wp2
          go_ret
          exact ⟨by first | rfl | (simp [errW_none, errW_some] <;> rfl) | (simp [*, errW_none, errW_some] <;> rfl), by repeat (first | (with_reducible first | exact HB.out | apply below_alloc | apply pw_below_drewN | apply below_drew1 | refine below_set ?_ GE113.out) | exact HB.out)⟩
      · replace c15 := Bool.eq_false_iff.mpr c15
        subst c15
        have H1 : (if a2 = true then (valiselaw12_RecordTold.j1 kj5 l0 a2 l3 t114 t117 16 a1_0 a1_1 a1_2 a1_3 a1_4 a1_5 a1_6 a1_7 a1_8 a1_9) else (valiselaw12_RecordTold.j1 kj5 l0 a2 l3 t114 t117 12 a1_0 a1_1 a1_2 a1_3 a1_4 a1_5 a1_6 a1_7 a1_8 a1_9)) = some r := by rw [if_neg (show ¬ (false = true) by decide)] at H; exact H
        clear H
        have H := H1
        clear H1
        have HC18 := Aside0.mk H
        clear H
        go_upto_if 39 with (fail)
        go_cut [11] (fun v11 wc => ∃ (kq : Nat) (x11_17 : Int), v11 = .int .i64 x11_17 ∧ Aside0 (valiselaw12_RecordTold.j1 kq l0 a2 l3 t114 t117 x11_17 a1_0 a1_1 a1_2 a1_3 a1_4 a1_5 a1_6 a1_7 a1_8 a1_9 = some r) ∧ Aside0 (kq ≤ kj5) ∧ Aside0 (Kd.R (Kd.int .u8) 5 wc w.heap.size (fun _ => True) v115 t114) ∧ Aside0 (wc.heap[gb113]? = some (.cells #[.int .i64 a1_0, .int .i64 a1_1, .int .i64 a1_2, .int .i64 a1_3, .int .i64 a1_4, .int .u32 a1_5, .int .i64 a1_6, .int .i64 a1_7, .string a1_8, .string a1_9] 24 (0, 0))) ∧ Aside0 (Below w.heap.size w wc))
        case first =>
          have H := HC18.out
          clear HC18
          by_cases c19 : a2 = true
          · subst c19
            have H1 : (valiselaw12_RecordTold.j1 kj5 l0 true l3 t114 t117 16 a1_0 a1_1 a1_2 a1_3 a1_4 a1_5 a1_6 a1_7 a1_8 a1_9) = some r := by rw [if_pos rfl] at H; exact H
            clear H
            have H := H1
            clear H1
            have H' := Aside0.mk H
            clear H
            go_wp2
            go_meet
            case rel => exact ⟨_, (16), (by first | rfl | (simp; done) | (simp [*]; done)), H', ⟨by have := HJ5.out; first | omega | exact Nat.le_refl _⟩, ⟨by (with_reducible repeat (first | apply Kd.R_alloc | apply Kd.R_drewN | apply Kd.R_drew)); exact HO_9.out⟩, ⟨by (with_reducible repeat (first | refine blk_drewN ?_ _ | refine blk_drew ?_ | refine blk_alloc ?_ _)); exact BK113.out⟩, ⟨by repeat (first | (with_reducible first | exact HB.out | apply below_alloc | apply pw_below_drewN | apply below_drew1 | refine below_set ?_ GE113.out) | exact HB.out)⟩⟩
          · replace c19 := Bool.eq_false_iff.mpr c19
            subst c19
            have H1 : (valiselaw12_RecordTold.j1 kj5 l0 false l3 t114 t117 12 a1_0 a1_1 a1_2 a1_3 a1_4 a1_5 a1_6 a1_7 a1_8 a1_9) = some r := by rw [if_neg (show ¬ (false = true) by decide)] at H; exact H
            clear H
            have H := H1
            clear H1
            have H' := Aside0.mk H
            clear H
            go_wp2
            go_meet
            case rel => exact ⟨_, (12), (by first | rfl | (simp; done) | (simp [*]; done)), H', ⟨by have := HJ5.out; first | omega | exact Nat.le_refl _⟩, ⟨by (with_reducible repeat (first | apply Kd.R_alloc | apply Kd.R_drewN | apply Kd.R_drew)); exact HO_9.out⟩, ⟨by (with_reducible repeat (first | refine blk_drewN ?_ _ | refine blk_drew ?_ | refine blk_alloc ?_ _)); exact BK113.out⟩, ⟨by repeat (first | (with_reducible first | exact HB.out | apply below_alloc | apply pw_below_drewN | apply below_drew1 | refine below_set ?_ GE113.out) | exact HB.out)⟩⟩
        case rest =>
          clear HC18
          try clear c1
          try clear c2
          try clear p2
          try clear c3
          try clear c4
          try clear c11
          try clear c13
          try clear c15
          try clear c16
          try clear c16b0
          try clear c16b1
          try clear c19
          try clear hcz13_0
          try clear hcz13_1
          try clear hcz13_2
          try clear hcz13_3
          try clear hcz13_4
          try clear hcz13_5
          try clear hcz13_6
          try clear hcz13_7
          try clear hcz13_8
          try clear hcz13_9
          try clear hcz14_0
          try clear hcz14_1
          try clear hcz14_2
          try clear hcz14_3
          try clear hcz14_4
          try clear hcz14_5
          try clear hcz14_6
          try clear hcz14_7
          try clear hcz14_8
          try clear hcz14_9
          try clear hcz8_0
          try clear hcz8_1
          try clear hcz8_2
          try clear hcz8_3
          try clear hcz8_4
          try clear hcz8_5
          try clear hcz8_6
          try clear hcz8_7
          try clear hcz8_8
          try clear hcz8_9
          try clear hfz13_0
          try clear hfz13_1
          try clear hfz13_2
          try clear hfz13_3
          try clear hfz13_4
          try clear hfz13_5
          try clear hfz13_6
          try clear hfz13_7
          try clear hfz13_8
          try clear hfz13_9
          try clear hfz14_0
          try clear hfz14_1
          try clear hfz14_2
          try clear hfz14_3
          try clear hfz14_4
          try clear hfz14_5
          try clear hfz14_6
          try clear hfz14_7
          try clear hfz14_8
          try clear hfz14_9
          try clear hfz8_0
          try clear hfz8_1
          try clear hfz8_2
          try clear hfz8_3
          try clear hfz8_4
          try clear hfz8_5
          try clear hfz8_6
          try clear hfz8_7
          try clear hfz8_8
          try clear hfz8_9
          try clear p2
          obtain ⟨kq, x11_17, rfl, HA, HJ17, HO_9, BK113, HB⟩ := hcut
          cases kq with
          | zero => exact absurd HA.out (by simp [valiselaw12_RecordTold.j1])
          | succ kj17 =>
            have H := HA.out
            clear HA
            simp only [valiselaw12_RecordTold.j1] at H
            have HC20 := Aside0.mk H
            clear H
            go_upto_region 7 with (fail)
            go_cut [47] (fun v47 wc => ∃ (kq : Nat) (x47_19 : Bool), v47 = .bool x47_19 ∧ Aside0 (valiselaw12_RecordTold.j2 kq l0 a2 l3 t114 x11_17 x47_19 a1_0 a1_1 a1_2 a1_3 a1_4 a1_5 a1_6 a1_7 a1_8 a1_9 = some r) ∧ Aside0 (kq ≤ kj17) ∧ Aside0 (Kd.R (Kd.int .u8) 5 wc w.heap.size (fun _ => True) v115 t114) ∧ Aside0 (wc.heap[gb113]? = some (.cells #[.int .i64 a1_0, .int .i64 a1_1, .int .i64 a1_2, .int .i64 a1_3, .int .i64 a1_4, .int .u32 a1_5, .int .i64 a1_6, .int .i64 a1_7, .string a1_8, .string a1_9] 24 (0, 0))) ∧ Aside0 (Below w.heap.size w wc))
            case first =>
              have H := HC20.out
              clear HC20
              by_cases c21 : t117 = 0
              · rw [if_pos c21] at H
                have c21b0 : (t117 == 0) = true := beq_iff_eq.mpr c21
                have c21b1 : (t117 != 0) = false := bne_eq_false_iff_eq.mpr c21
                clear c21
                (first | rw [c21b0] | (simp only [i64_w, i32_w]; rw [c21b0]) | skip)
                have H' := Aside0.mk H
                clear H
                obtain ⟨Ao22, co22, eo22⟩ := Kd.R_slice HO_9.out
                subst eo22
                go_wp2
                go_meet
                case rel => exact ⟨_, (((t114.length : Int) != x11_17)), (by first | rfl | (simp; done) | (simp [*]; done)), H', ⟨by have := HJ5.out; have := HJ17.out; first | omega | exact Nat.le_refl _⟩, ⟨by (with_reducible repeat (first | apply Kd.R_alloc | apply Kd.R_drewN | apply Kd.R_drew)); exact HO_9.out⟩, ⟨by (with_reducible repeat (first | refine blk_drewN ?_ _ | refine blk_drew ?_ | refine blk_alloc ?_ _)); exact BK113.out⟩, ⟨by repeat (first | (with_reducible first | exact HB.out | apply below_alloc | apply pw_below_drewN | apply below_drew1 | refine below_set ?_ GE113.out) | exact HB.out)⟩⟩
              · rw [if_neg c21] at H
                have c21b0 : (t117 == 0) = false := beq_eq_false_iff_ne.mpr c21
                have c21b1 : (t117 != 0) = true := bne_iff_ne.mpr c21
                (first | rw [c21b0] | (simp only [i64_w, i32_w]; rw [c21b0]) | skip)
                have H' := Aside0.mk H
                clear H
                go_wp2
                go_meet
                case rel => exact ⟨_, (true), (by first | rfl | (simp; done) | (simp [*]; done)), H', ⟨by have := HJ5.out; have := HJ17.out; first | omega | exact Nat.le_refl _⟩, ⟨by (with_reducible repeat (first | apply Kd.R_alloc | apply Kd.R_drewN | apply Kd.R_drew)); exact HO_9.out⟩, ⟨by (with_reducible repeat (first | refine blk_drewN ?_ _ | refine blk_drew ?_ | refine blk_alloc ?_ _)); exact BK113.out⟩, ⟨by repeat (first | (with_reducible first | exact HB.out | apply below_alloc | apply pw_below_drewN | apply below_drew1 | refine below_set ?_ GE113.out) | exact HB.out)⟩⟩
            case rest =>
              clear HC20
              try clear c1
              try clear c2
              try clear p2
              try clear c3
              try clear c4
              try clear c11
              try clear c13
              try clear c15
              try clear c16
              try clear c16b0
              try clear c16b1
              try clear c19
              try clear c21
              try clear c21b0
              try clear c21b1
              try clear hcz13_0
              try clear hcz13_1
              try clear hcz13_2
              try clear hcz13_3
              try clear hcz13_4
              try clear hcz13_5
              try clear hcz13_6
              try clear hcz13_7
              try clear hcz13_8
              try clear hcz13_9
              try clear hcz14_0
              try clear hcz14_1
              try clear hcz14_2
              try clear hcz14_3
              try clear hcz14_4
              try clear hcz14_5
              try clear hcz14_6
              try clear hcz14_7
              try clear hcz14_8
              try clear hcz14_9
              try clear hcz8_0
              try clear hcz8_1
              try clear hcz8_2
              try clear hcz8_3
              try clear hcz8_4
              try clear hcz8_5
              try clear hcz8_6
              try clear hcz8_7
              try clear hcz8_8
              try clear hcz8_9
              try clear hfz13_0
              try clear hfz13_1
              try clear hfz13_2
              try clear hfz13_3
              try clear hfz13_4
              try clear hfz13_5
              try clear hfz13_6
              try clear hfz13_7
              try clear hfz13_8
              try clear hfz13_9
              try clear hfz14_0
              try clear hfz14_1
              try clear hfz14_2
              try clear hfz14_3
              try clear hfz14_4
              try clear hfz14_5
              try clear hfz14_6
              try clear hfz14_7
              try clear hfz14_8
              try clear hfz14_9
              try clear hfz8_0
              try clear hfz8_1
              try clear hfz8_2
              try clear hfz8_3
              try clear hfz8_4
              try clear hfz8_5
              try clear hfz8_6
              try clear hfz8_7
              try clear hfz8_8
              try clear hfz8_9
              try clear p2
              obtain ⟨kq, x47_19, rfl, HA, HJ19, HO_9, BK113, HB⟩ := hcut
              cases kq with
              | zero => exact absurd HA.out (by simp [valiselaw12_RecordTold.j2])
              | succ kj19 =>
                have H := HA.out
                clear HA
                simp only [valiselaw12_RecordTold.j2] at H
                by_cases c23 : x47_19 = true
                · subst c23
                  have H1 : (some false) = some r := by rw [if_pos rfl] at H; exact H
                  clear H
                  have H := H1
                  clear H1
                  obtain rfl := Option.some.inj H
                  go_wp2
                  go_ret
                  exact ⟨by first | rfl | (simp [errW_none, errW_some] <;> rfl) | (simp [*, errW_none, errW_some] <;> rfl), by repeat (first | (with_reducible first | exact HB.out | apply below_alloc | apply pw_below_drewN | apply below_drew1 | refine below_set ?_ GE113.out) | exact HB.out)⟩
                · replace c23 := Bool.eq_false_iff.mpr c23
                  subst c23
                  have H1 : ((valiselaw12_joined.f kj19 l0 t114).bind fun t120 => ((valiselaw12_joined.f kj19 t120 l3).bind fun t123 => ((record_GetDescriptor.f t123 (l0.length : Int) a1_0 a1_1 a1_2 a1_3 a1_4 a1_5 a1_6 a1_7 a1_8 a1_9).bind fun bt126 => (if bt126.2 = 0 then (if bt126.1 = x11_17 then (valiselaw12_RecordTold.j3 kj19 l0 a2 t123 false a1_0 a1_1 a1_2 a1_3 a1_4 a1_5 a1_6 a1_7 a1_8 a1_9) else (valiselaw12_RecordTold.j3 kj19 l0 a2 t123 (a1_5 != 134695760) a1_0 a1_1 a1_2 a1_3 a1_4 a1_5 a1_6 a1_7 a1_8 a1_9)) else (valiselaw12_RecordTold.j3 kj19 l0 a2 t123 true a1_0 a1_1 a1_2 a1_3 a1_4 a1_5 a1_6 a1_7 a1_8 a1_9))))) = some r := by rw [if_neg (show ¬ (false = true) by decide)] at H; exact H
                  clear H
                  have H := H1
                  clear H1
                  replace H := Option.bind_eq_some_iff.mp H
                  obtain ⟨t120, A240, H⟩ := H
                  replace H : ((valiselaw12_joined.f kj19 t120 l3).bind fun t123 => ((record_GetDescriptor.f t123 (l0.length : Int) a1_0 a1_1 a1_2 a1_3 a1_4 a1_5 a1_6 a1_7 a1_8 a1_9).bind fun bt126 => (if bt126.2 = 0 then (if bt126.1 = x11_17 then (valiselaw12_RecordTold.j3 kj19 l0 a2 t123 false a1_0 a1_1 a1_2 a1_3 a1_4 a1_5 a1_6 a1_7 a1_8 a1_9) else (valiselaw12_RecordTold.j3 kj19 l0 a2 t123 (a1_5 != 134695760) a1_0 a1_1 a1_2 a1_3 a1_4 a1_5 a1_6 a1_7 a1_8 a1_9)) else (valiselaw12_RecordTold.j3 kj19 l0 a2 t123 true a1_0 a1_1 a1_2 a1_3 a1_4 a1_5 a1_6 a1_7 a1_8 a1_9)))) = some r := H
                  have A24 := Aside0.mk A240
                  clear A240
                  replace H := Option.bind_eq_some_iff.mp H
                  obtain ⟨t123, A250, H⟩ := H
                  replace H : ((record_GetDescriptor.f t123 (l0.length : Int) a1_0 a1_1 a1_2 a1_3 a1_4 a1_5 a1_6 a1_7 a1_8 a1_9).bind fun bt126 => (if bt126.2 = 0 then (if bt126.1 = x11_17 then (valiselaw12_RecordTold.j3 kj19 l0 a2 t123 false a1_0 a1_1 a1_2 a1_3 a1_4 a1_5 a1_6 a1_7 a1_8 a1_9) else (valiselaw12_RecordTold.j3 kj19 l0 a2 t123 (a1_5 != 134695760) a1_0 a1_1 a1_2 a1_3 a1_4 a1_5 a1_6 a1_7 a1_8 a1_9)) else (valiselaw12_RecordTold.j3 kj19 l0 a2 t123 true a1_0 a1_1 a1_2 a1_3 a1_4 a1_5 a1_6 a1_7 a1_8 a1_9))) = some r := H
                  have A25 := Aside0.mk A250
                  clear A250
                  replace H := Option.bind_eq_some_iff.mp H
                  obtain ⟨⟨t126, t127⟩, A260, H⟩ := H
                  replace H : (if t127 = 0 then (if t126 = x11_17 then (valiselaw12_RecordTold.j3 kj19 l0 a2 t123 false a1_0 a1_1 a1_2 a1_3 a1_4 a1_5 a1_6 a1_7 a1_8 a1_9) else (valiselaw12_RecordTold.j3 kj19 l0 a2 t123 (a1_5 != 134695760) a1_0 a1_1 a1_2 a1_3 a1_4 a1_5 a1_6 a1_7 a1_8 a1_9)) else (valiselaw12_RecordTold.j3 kj19 l0 a2 t123 true a1_0 a1_1 a1_2 a1_3 a1_4 a1_5 a1_6 a1_7 a1_8 a1_9)) = some r := H
                  have A26 := Aside0.mk A260
                  clear A260
                  have HC27 := Aside0.mk H
                  clear H
                  obtain ⟨Ao28, co28, eo28⟩ := Kd.R_slice HO_9.out
                  subst eo28
                  go_upto_region 11 with (first | ((with_reducible refine gate_callee (f := 22) rfl ?_); refine goesL_ (some 50) rfl rfl Try.func22 (by kernel_rfl) rfl #[.slice A0 l0.length c0, .slice Ao28 t114.length co28] rfl (by (try simp only [List.map_toArray, List.map_cons, List.map_nil]); first | done | rfl | (simp only [List.length_drop, List.length_take]; rfl)) ?_; (with_reducible refine (valiselaw12_joined.calls kj19 _ _ l0 _ _ t114 t120 _ ?side1 ?side2 ?side3 ?side4 A24.out).mono ?_); (case side1 => repeat (first | exact (Kd.C_below HR0.out HB.out) | (with_reducible refine Kd.C_alloc ?_ _) | (with_reducible refine Kd.C_drewN ?_ _) | (with_reducible refine Kd.C_drew ?_))); (case side2 => exact HC0.out); (case side3 => repeat (first | exact (Kd.R_reads' HO_9.out).2.2 | (with_reducible refine Kd.C_alloc ?_ _) | (with_reducible refine Kd.C_drewN ?_ _) | (with_reducible refine Kd.C_drew ?_))); (case side4 => exact (Kd.R_reads' HO_9.out).2.1); rintro e w29 ⟨v121, rfl, ho0, hb⟩; refine ⟨_, rfl, ?_⟩; have n0_ := Aside0.mk (Kd.R_elder' (by (with_reducible repeat (first | apply Kd.R_alloc | apply Kd.R_drewN | apply Kd.R_drew)); exact HO_9.out) (Kd.R_base ho0) hb); have n1_ := Aside0.mk (Kd.R_lower (Kd.R_new' ho0 (Kd.R_lt (by (with_reducible repeat (first | apply Kd.R_alloc | apply Kd.R_drewN | apply Kd.R_drew)); exact HO_9.out))) (below_size (by repeat (first | (with_reducible first | exact HB.out | apply below_alloc | apply pw_below_drewN | apply below_drew1 | refine below_set ?_ GE113.out) | exact HB.out)))); have n2_ := Aside0.mk (blk_below (g := gb113) (o := .cells #[.int .i64 a1_0, .int .i64 a1_1, .int .i64 a1_2, .int .i64 a1_3, .int .i64 a1_4, .int .u32 a1_5, .int .i64 a1_6, .int .i64 a1_7, .string a1_8, .string a1_9] 24 (0, 0)) (by (with_reducible repeat (first | refine blk_drewN ?_ _ | refine blk_drew ?_ | refine blk_alloc ?_ _)); exact BK113.out) hb); have n3_ := Aside0.mk (below_step (by repeat (first | (with_reducible first | exact HB.out | apply below_alloc | apply pw_below_drewN | apply below_drew1 | refine below_set ?_ GE113.out) | exact HB.out)) hb); clear HO_9; clear BK113; clear HB; have HO_9 := n0_; have HO122 := n1_; have BK113 := n2_; have HB := n3_; clear n0_ n1_ n2_ n3_; (try clear hb); (try clear hb2); (try clear hk); (try clear hi); (try clear ho0); obtain ⟨Ao30, co30, eo30⟩ := Kd.R_slice HO122.out; subst eo30) | ((with_reducible refine gate_callee (f := 22) rfl ?_); refine goesL_ (some 52) rfl rfl Try.func22 (by kernel_rfl) rfl #[.slice Ao30 t120.length co30, .slice A3 l3.length c3] rfl (by (try simp only [List.map_toArray, List.map_cons, List.map_nil]); first | done | rfl | (simp only [List.length_drop, List.length_take]; rfl)) ?_; (with_reducible refine (valiselaw12_joined.calls kj19 _ _ t120 _ _ l3 t123 _ ?side1 ?side2 ?side3 ?side4 A25.out).mono ?_); (case side1 => repeat (first | exact (Kd.R_reads' HO122.out).2.2 | (with_reducible refine Kd.C_alloc ?_ _) | (with_reducible refine Kd.C_drewN ?_ _) | (with_reducible refine Kd.C_drew ?_))); (case side2 => exact (Kd.R_reads' HO122.out).2.1); (case side3 => repeat (first | exact (Kd.C_below HR3.out HB.out) | (with_reducible refine Kd.C_alloc ?_ _) | (with_reducible refine Kd.C_drewN ?_ _) | (with_reducible refine Kd.C_drew ?_))); (case side4 => exact HC3.out); rintro e w31 ⟨v124, rfl, ho0, hb⟩; refine ⟨_, rfl, ?_⟩; have n0_ := Aside0.mk (Kd.R_elder' (by (with_reducible repeat (first | apply Kd.R_alloc | apply Kd.R_drewN | apply Kd.R_drew)); exact HO_9.out) (Kd.R_base ho0) hb); have n1_ := Aside0.mk (Kd.R_elder' (by (with_reducible repeat (first | apply Kd.R_alloc | apply Kd.R_drewN | apply Kd.R_drew)); exact HO122.out) (Kd.R_base ho0) hb); have n2_ := Aside0.mk (Kd.R_lower (Kd.R_new' (Kd.R_new' ho0 (Kd.R_lt (by (with_reducible repeat (first | apply Kd.R_alloc | apply Kd.R_drewN | apply Kd.R_drew)); exact HO_9.out))) (Kd.R_lt (by (with_reducible repeat (first | apply Kd.R_alloc | apply Kd.R_drewN | apply Kd.R_drew)); exact HO122.out))) (below_size (by repeat (first | (with_reducible first | exact HB.out | apply below_alloc | apply pw_below_drewN | apply below_drew1 | refine below_set ?_ GE113.out) | exact HB.out)))); have n3_ := Aside0.mk (blk_below (g := gb113) (o := .cells #[.int .i64 a1_0, .int .i64 a1_1, .int .i64 a1_2, .int .i64 a1_3, .int .i64 a1_4, .int .u32 a1_5, .int .i64 a1_6, .int .i64 a1_7, .string a1_8, .string a1_9] 24 (0, 0)) (by (with_reducible repeat (first | refine blk_drewN ?_ _ | refine blk_drew ?_ | refine blk_alloc ?_ _)); exact BK113.out) hb); have n4_ := Aside0.mk (below_step (by repeat (first | (with_reducible first | exact HB.out | apply below_alloc | apply pw_below_drewN | apply below_drew1 | refine below_set ?_ GE113.out) | exact HB.out)) hb); clear HO_9; clear HO122; clear BK113; clear HB; have HO_9 := n0_; have HO122 := n1_; have HO125 := n2_; have BK113 := n3_; have HB := n4_; clear n0_ n1_ n2_ n3_ n4_; (try clear hb); (try clear hb2); (try clear hk); (try clear hi); (try clear ho0); have hcz32_0 : w31.cell? ⟨gb113, 0, none⟩ = some (.int .i64 a1_0) := (blk_cell BK113.out 0).trans rfl; have hcz32_1 : w31.cell? ⟨gb113, 1, none⟩ = some (.int .i64 a1_1) := (blk_cell BK113.out 1).trans rfl; have hcz32_2 : w31.cell? ⟨gb113, 2, none⟩ = some (.int .i64 a1_2) := (blk_cell BK113.out 2).trans rfl; have hcz32_3 : w31.cell? ⟨gb113, 3, none⟩ = some (.int .i64 a1_3) := (blk_cell BK113.out 3).trans rfl; have hcz32_4 : w31.cell? ⟨gb113, 4, none⟩ = some (.int .i64 a1_4) := (blk_cell BK113.out 4).trans rfl; have hcz32_5 : w31.cell? ⟨gb113, 5, none⟩ = some (.int .u32 a1_5) := (blk_cell BK113.out 5).trans rfl; have hcz32_6 : w31.cell? ⟨gb113, 6, none⟩ = some (.int .i64 a1_6) := (blk_cell BK113.out 6).trans rfl; have hcz32_7 : w31.cell? ⟨gb113, 7, none⟩ = some (.int .i64 a1_7) := (blk_cell BK113.out 7).trans rfl; have hcz32_8 : w31.cell? ⟨gb113, 8, none⟩ = some (.string a1_8) := (blk_cell BK113.out 8).trans rfl; have hcz32_9 : w31.cell? ⟨gb113, 9, none⟩ = some (.string a1_9) := (blk_cell BK113.out 9).trans rfl; have hfz32_0 := blk_frozen BK113.out 0; have hfz32_1 := blk_frozen BK113.out 1; have hfz32_2 := blk_frozen BK113.out 2; have hfz32_3 := blk_frozen BK113.out 3; have hfz32_4 := blk_frozen BK113.out 4; have hfz32_5 := blk_frozen BK113.out 5; have hfz32_6 := blk_frozen BK113.out 6; have hfz32_7 := blk_frozen BK113.out 7; have hfz32_8 := blk_frozen BK113.out 8; have hfz32_9 := blk_frozen BK113.out 9; obtain ⟨Ao33, co33, eo33⟩ := Kd.R_slice HO125.out; subst eo33) | ((with_reducible refine gate_callee (f := 18) rfl ?_); refine goesL_ (some 58) rfl rfl Try.func18 (by kernel_rfl) rfl #[.slice Ao33 t123.length co33, .int .i64 (l0.length : Int), .agg #[.int .i64 a1_0, .int .i64 a1_1, .int .i64 a1_2, .int .i64 a1_3, .int .i64 a1_4, .int .u32 a1_5, .int .i64 a1_6, .int .i64 a1_7, .string a1_8, .string a1_9]] rfl (by (try simp only [List.map_toArray, List.map_cons, List.map_nil]); first | done | rfl | (simp only [List.length_drop, List.length_take]; rfl)) ?_; (with_reducible refine (record_GetDescriptor.calls _ _ t123 (l0.length : Int) a1_0 a1_1 a1_2 a1_3 a1_4 a1_5 a1_6 a1_7 a1_8 a1_9 t126 t127 _ ?side1 ?side2 A26.out).mono ?_); (case side1 => repeat (first | exact (Kd.R_reads' HO125.out).2.2 | (with_reducible refine Kd.C_alloc ?_ _) | (with_reducible refine Kd.C_drewN ?_ _) | (with_reducible refine Kd.C_drew ?_))); (case side2 => exact (Kd.R_reads' HO125.out).2.1); rintro e w34 ⟨rfl, hb⟩; refine ⟨_, rfl, ?_⟩; have n0_ := Aside0.mk (Kd.R_below (by (with_reducible repeat (first | apply Kd.R_alloc | apply Kd.R_drewN | apply Kd.R_drew)); exact HO_9.out) hb); have n1_ := Aside0.mk (Kd.R_below (by (with_reducible repeat (first | apply Kd.R_alloc | apply Kd.R_drewN | apply Kd.R_drew)); exact HO122.out) hb); have n2_ := Aside0.mk (Kd.R_below (by (with_reducible repeat (first | apply Kd.R_alloc | apply Kd.R_drewN | apply Kd.R_drew)); exact HO125.out) hb); have n3_ := Aside0.mk (blk_below (g := gb113) (o := .cells #[.int .i64 a1_0, .int .i64 a1_1, .int .i64 a1_2, .int .i64 a1_3, .int .i64 a1_4, .int .u32 a1_5, .int .i64 a1_6, .int .i64 a1_7, .string a1_8, .string a1_9] 24 (0, 0)) (by (with_reducible repeat (first | refine blk_drewN ?_ _ | refine blk_drew ?_ | refine blk_alloc ?_ _)); exact BK113.out) hb); have n4_ := Aside0.mk (below_step (by repeat (first | (with_reducible first | exact HB.out | apply below_alloc | apply pw_below_drewN | apply below_drew1 | refine below_set ?_ GE113.out) | exact HB.out)) hb); clear HO_9; clear HO122; clear HO125; clear BK113; clear HB; have HO_9 := n0_; have HO122 := n1_; have HO125 := n2_; have BK113 := n3_; have HB := n4_; clear n0_ n1_ n2_ n3_ n4_; (try clear hb); (try clear hb2); (try clear hk); (try clear hi)))
                  (try simp only [Act.put, List.setIfInBounds_toArray, List.set_cons_zero, List.set_cons_succ])
                  go_cut [72] (fun v72 wc => ∃ (kq : Nat) (x72_26 : Bool), v72 = .bool x72_26 ∧ Aside0 (valiselaw12_RecordTold.j3 kq l0 a2 t123 x72_26 a1_0 a1_1 a1_2 a1_3 a1_4 a1_5 a1_6 a1_7 a1_8 a1_9 = some r) ∧ Aside0 (kq ≤ kj19) ∧ Aside0 (Kd.R (Kd.int .u8) 5 wc w.heap.size (fun _ => True) (.slice Ao33 t123.length co33) t123) ∧ Aside0 (wc.heap[gb113]? = some (.cells #[.int .i64 a1_0, .int .i64 a1_1, .int .i64 a1_2, .int .i64 a1_3, .int .i64 a1_4, .int .u32 a1_5, .int .i64 a1_6, .int .i64 a1_7, .string a1_8, .string a1_9] 24 (0, 0))) ∧ Aside0 (Below w.heap.size w wc))
                  case first =>
                    have H := HC27.out
                    clear HC27
                    by_cases c35 : t127 = 0
                    · rw [if_pos c35] at H
                      have c35b0 : (t127 == 0) = true := beq_iff_eq.mpr c35
                      have c35b1 : (t127 != 0) = false := bne_eq_false_iff_eq.mpr c35
                      clear c35
                      (first | rw [c35b0] | (simp only [i64_w, i32_w]; rw [c35b0]) | skip)
                      by_cases c36 : t126 = x11_17
                      · rw [if_pos c36] at H
                        have c36b0 : (t126 == x11_17) = true := beq_iff_eq.mpr c36
                        have c36b1 : (t126 != x11_17) = false := bne_eq_false_iff_eq.mpr c36
                        clear c36
                        have H' := Aside0.mk H
                        clear H
                        go_wp2
                        go_meet
                        case rel => exact ⟨_, (false), (by first | rfl | (simp; done) | (simp [*]; done)), H', ⟨by have := HJ5.out; have := HJ17.out; have := HJ19.out; first | omega | exact Nat.le_refl _⟩, ⟨by (with_reducible repeat (first | apply Kd.R_alloc | apply Kd.R_drewN | apply Kd.R_drew)); exact Kd.R_mono HO125.out (fun _ hk => trivial)⟩, ⟨by (with_reducible repeat (first | refine blk_drewN ?_ _ | refine blk_drew ?_ | refine blk_alloc ?_ _)); exact BK113.out⟩, ⟨by repeat (first | (with_reducible first | exact HB.out | apply below_alloc | apply pw_below_drewN | apply below_drew1 | refine below_set ?_ GE113.out) | exact HB.out)⟩⟩
                      · rw [if_neg c36] at H
                        have c36b0 : (t126 == x11_17) = false := beq_eq_false_iff_ne.mpr c36
                        have c36b1 : (t126 != x11_17) = true := bne_iff_ne.mpr c36
                        have H' := Aside0.mk H
                        clear H
                        have hcz37_0 : w34.cell? ⟨gb113, 0, none⟩ = some (.int .i64 a1_0) := (blk_cell BK113.out 0).trans rfl
                        have hcz37_1 : w34.cell? ⟨gb113, 1, none⟩ = some (.int .i64 a1_1) := (blk_cell BK113.out 1).trans rfl
                        have hcz37_2 : w34.cell? ⟨gb113, 2, none⟩ = some (.int .i64 a1_2) := (blk_cell BK113.out 2).trans rfl
                        have hcz37_3 : w34.cell? ⟨gb113, 3, none⟩ = some (.int .i64 a1_3) := (blk_cell BK113.out 3).trans rfl
                        have hcz37_4 : w34.cell? ⟨gb113, 4, none⟩ = some (.int .i64 a1_4) := (blk_cell BK113.out 4).trans rfl
                        have hcz37_5 : w34.cell? ⟨gb113, 5, none⟩ = some (.int .u32 a1_5) := (blk_cell BK113.out 5).trans rfl
                        have hcz37_6 : w34.cell? ⟨gb113, 6, none⟩ = some (.int .i64 a1_6) := (blk_cell BK113.out 6).trans rfl
                        have hcz37_7 : w34.cell? ⟨gb113, 7, none⟩ = some (.int .i64 a1_7) := (blk_cell BK113.out 7).trans rfl
                        have hcz37_8 : w34.cell? ⟨gb113, 8, none⟩ = some (.string a1_8) := (blk_cell BK113.out 8).trans rfl
                        have hcz37_9 : w34.cell? ⟨gb113, 9, none⟩ = some (.string a1_9) := (blk_cell BK113.out 9).trans rfl
                        have hfz37_0 := blk_frozen BK113.out 0
                        have hfz37_1 := blk_frozen BK113.out 1
                        have hfz37_2 := blk_frozen BK113.out 2
                        have hfz37_3 := blk_frozen BK113.out 3
                        have hfz37_4 := blk_frozen BK113.out 4
                        have hfz37_5 := blk_frozen BK113.out 5
                        have hfz37_6 := blk_frozen BK113.out 6
                        have hfz37_7 := blk_frozen BK113.out 7
                        have hfz37_8 := blk_frozen BK113.out 8
                        have hfz37_9 := blk_frozen BK113.out 9
                        go_wp2
                        go_meet
                        case rel => exact ⟨_, ((a1_5 != 134695760)), (by first | rfl | (simp; done) | (simp [*]; done)), H', ⟨by have := HJ5.out; have := HJ17.out; have := HJ19.out; first | omega | exact Nat.le_refl _⟩, ⟨by (with_reducible repeat (first | apply Kd.R_alloc | apply Kd.R_drewN | apply Kd.R_drew)); exact Kd.R_mono HO125.out (fun _ hk => trivial)⟩, ⟨by (with_reducible repeat (first | refine blk_drewN ?_ _ | refine blk_drew ?_ | refine blk_alloc ?_ _)); exact BK113.out⟩, ⟨by repeat (first | (with_reducible first | exact HB.out | apply below_alloc | apply pw_below_drewN | apply below_drew1 | refine below_set ?_ GE113.out) | exact HB.out)⟩⟩
                    · rw [if_neg c35] at H
                      have c35b0 : (t127 == 0) = false := beq_eq_false_iff_ne.mpr c35
                      have c35b1 : (t127 != 0) = true := bne_iff_ne.mpr c35
                      (first | rw [c35b0] | (simp only [i64_w, i32_w]; rw [c35b0]) | skip)
                      have H' := Aside0.mk H
                      clear H
                      go_wp2
                      go_meet
                      case rel => exact ⟨_, (true), (by first | rfl | (simp; done) | (simp [*]; done)), H', ⟨by have := HJ5.out; have := HJ17.out; have := HJ19.out; first | omega | exact Nat.le_refl _⟩, ⟨by (with_reducible repeat (first | apply Kd.R_alloc | apply Kd.R_drewN | apply Kd.R_drew)); exact Kd.R_mono HO125.out (fun _ hk => trivial)⟩, ⟨by (with_reducible repeat (first | refine blk_drewN ?_ _ | refine blk_drew ?_ | refine blk_alloc ?_ _)); exact BK113.out⟩, ⟨by repeat (first | (with_reducible first | exact HB.out | apply below_alloc | apply pw_below_drewN | apply below_drew1 | refine below_set ?_ GE113.out) | exact HB.out)⟩⟩
                  case rest =>
                    clear HC27
                    try clear c1
                    try clear c2
                    try clear p2
                    try clear c3
                    try clear c4
                    try clear c11
                    try clear c13
                    try clear c15
                    try clear c16
                    try clear c16b0
                    try clear c16b1
                    try clear c18
                    try clear c19
                    try clear c21
                    try clear c21b0
                    try clear c21b1
                    try clear c22
                    try clear c23
                    try clear c35
                    try clear c35b0
                    try clear c35b1
                    try clear c36
                    try clear c36b0
                    try clear c36b1
                    try clear hcz13_0
                    try clear hcz13_1
                    try clear hcz13_2
                    try clear hcz13_3
                    try clear hcz13_4
                    try clear hcz13_5
                    try clear hcz13_6
                    try clear hcz13_7
                    try clear hcz13_8
                    try clear hcz13_9
                    try clear hcz14_0
                    try clear hcz14_1
                    try clear hcz14_2
                    try clear hcz14_3
                    try clear hcz14_4
                    try clear hcz14_5
                    try clear hcz14_6
                    try clear hcz14_7
                    try clear hcz14_8
                    try clear hcz14_9
                    try clear hcz32_0
                    try clear hcz32_1
                    try clear hcz32_2
                    try clear hcz32_3
                    try clear hcz32_4
                    try clear hcz32_5
                    try clear hcz32_6
                    try clear hcz32_7
                    try clear hcz32_8
                    try clear hcz32_9
                    try clear hcz37_0
                    try clear hcz37_1
                    try clear hcz37_2
                    try clear hcz37_3
                    try clear hcz37_4
                    try clear hcz37_5
                    try clear hcz37_6
                    try clear hcz37_7
                    try clear hcz37_8
                    try clear hcz37_9
                    try clear hcz8_0
                    try clear hcz8_1
                    try clear hcz8_2
                    try clear hcz8_3
                    try clear hcz8_4
                    try clear hcz8_5
                    try clear hcz8_6
                    try clear hcz8_7
                    try clear hcz8_8
                    try clear hcz8_9
                    try clear hfz13_0
                    try clear hfz13_1
                    try clear hfz13_2
                    try clear hfz13_3
                    try clear hfz13_4
                    try clear hfz13_5
                    try clear hfz13_6
                    try clear hfz13_7
                    try clear hfz13_8
                    try clear hfz13_9
                    try clear hfz14_0
                    try clear hfz14_1
                    try clear hfz14_2
                    try clear hfz14_3
                    try clear hfz14_4
                    try clear hfz14_5
                    try clear hfz14_6
                    try clear hfz14_7
                    try clear hfz14_8
                    try clear hfz14_9
                    try clear hfz32_0
                    try clear hfz32_1
                    try clear hfz32_2
                    try clear hfz32_3
                    try clear hfz32_4
                    try clear hfz32_5
                    try clear hfz32_6
                    try clear hfz32_7
                    try clear hfz32_8
                    try clear hfz32_9
                    try clear hfz37_0
                    try clear hfz37_1
                    try clear hfz37_2
                    try clear hfz37_3
                    try clear hfz37_4
                    try clear hfz37_5
                    try clear hfz37_6
                    try clear hfz37_7
                    try clear hfz37_8
                    try clear hfz37_9
                    try clear hfz8_0
                    try clear hfz8_1
                    try clear hfz8_2
                    try clear hfz8_3
                    try clear hfz8_4
                    try clear hfz8_5
                    try clear hfz8_6
                    try clear hfz8_7
                    try clear hfz8_8
                    try clear hfz8_9
                    try clear p2
                    obtain ⟨kq, x72_26, rfl, HA, HJ26, HO_12, BK113, HB⟩ := hcut
                    cases kq with
                    | zero => exact absurd HA.out (by simp [valiselaw12_RecordTold.j3])
                    | succ kj26 =>
                      have H := HA.out
                      clear HA
                      simp only [valiselaw12_RecordTold.j3] at H
                      by_cases c38 : x72_26 = true
                      · subst c38
                        have H1 : (some false) = some r := by rw [if_pos rfl] at H; exact H
                        clear H
                        have H := H1
                        clear H1
                        obtain rfl := Option.some.inj H
                        go_wp2
                        go_ret
                        exact ⟨by first | rfl | (simp [errW_none, errW_some] <;> rfl) | (simp [*, errW_none, errW_some] <;> rfl), by repeat (first | (with_reducible first | exact HB.out | apply below_alloc | apply pw_below_drewN | apply below_drew1 | refine below_set ?_ GE113.out) | exact HB.out)⟩
                      · replace c38 := Bool.eq_false_iff.mpr c38
                        subst c38
                        have H1 : (if a2 = true then (valiselaw12_RecordTold.j4 kj26 l0 t123 (a1_5 != 134695760) a1_0 a1_1 a1_2 a1_3 a1_4 a1_5 a1_6 a1_7 a1_8 a1_9) else (valiselaw12_RecordTold.j4 kj26 l0 t123 false a1_0 a1_1 a1_2 a1_3 a1_4 a1_5 a1_6 a1_7 a1_8 a1_9)) = some r := by rw [if_neg (show ¬ (false = true) by decide)] at H; exact H
                        clear H
                        have H := H1
                        clear H1
                        have HC39 := Aside0.mk H
                        clear H
                        go_upto_region 13 with (fail)
                        go_cut [78] (fun v78 wc => ∃ (kq : Nat) (x78_38 : Bool), v78 = .bool x78_38 ∧ Aside0 (valiselaw12_RecordTold.j4 kq l0 t123 x78_38 a1_0 a1_1 a1_2 a1_3 a1_4 a1_5 a1_6 a1_7 a1_8 a1_9 = some r) ∧ Aside0 (kq ≤ kj26) ∧ Aside0 (Kd.R (Kd.int .u8) 5 wc w.heap.size (fun _ => True) (.slice Ao33 t123.length co33) t123) ∧ Aside0 (wc.heap[gb113]? = some (.cells #[.int .i64 a1_0, .int .i64 a1_1, .int .i64 a1_2, .int .i64 a1_3, .int .i64 a1_4, .int .u32 a1_5, .int .i64 a1_6, .int .i64 a1_7, .string a1_8, .string a1_9] 24 (0, 0))) ∧ Aside0 (Below w.heap.size w wc))
                        case first =>
                          have H := HC39.out
                          clear HC39
                          by_cases c40 : a2 = true
                          · subst c40
                            have H1 : (valiselaw12_RecordTold.j4 kj26 l0 t123 (a1_5 != 134695760) a1_0 a1_1 a1_2 a1_3 a1_4 a1_5 a1_6 a1_7 a1_8 a1_9) = some r := by rw [if_pos rfl] at H; exact H
                            clear H
                            have H := H1
                            clear H1
                            have H' := Aside0.mk H
                            clear H
                            have hcz41_0 : wc.cell? ⟨gb113, 0, none⟩ = some (.int .i64 a1_0) := (blk_cell BK113.out 0).trans rfl
                            have hcz41_1 : wc.cell? ⟨gb113, 1, none⟩ = some (.int .i64 a1_1) := (blk_cell BK113.out 1).trans rfl
                            have hcz41_2 : wc.cell? ⟨gb113, 2, none⟩ = some (.int .i64 a1_2) := (blk_cell BK113.out 2).trans rfl
                            have hcz41_3 : wc.cell? ⟨gb113, 3, none⟩ = some (.int .i64 a1_3) := (blk_cell BK113.out 3).trans rfl
                            have hcz41_4 : wc.cell? ⟨gb113, 4, none⟩ = some (.int .i64 a1_4) := (blk_cell BK113.out 4).trans rfl
                            have hcz41_5 : wc.cell? ⟨gb113, 5, none⟩ = some (.int .u32 a1_5) := (blk_cell BK113.out 5).trans rfl
                            have hcz41_6 : wc.cell? ⟨gb113, 6, none⟩ = some (.int .i64 a1_6) := (blk_cell BK113.out 6).trans rfl
                            have hcz41_7 : wc.cell? ⟨gb113, 7, none⟩ = some (.int .i64 a1_7) := (blk_cell BK113.out 7).trans rfl
                            have hcz41_8 : wc.cell? ⟨gb113, 8, none⟩ = some (.string a1_8) := (blk_cell BK113.out 8).trans rfl
                            have hcz41_9 : wc.cell? ⟨gb113, 9, none⟩ = some (.string a1_9) := (blk_cell BK113.out 9).trans rfl
                            have hfz41_0 := blk_frozen BK113.out 0
                            have hfz41_1 := blk_frozen BK113.out 1
                            have hfz41_2 := blk_frozen BK113.out 2
                            have hfz41_3 := blk_frozen BK113.out 3
                            have hfz41_4 := blk_frozen BK113.out 4
                            have hfz41_5 := blk_frozen BK113.out 5
                            have hfz41_6 := blk_frozen BK113.out 6
                            have hfz41_7 := blk_frozen BK113.out 7
                            have hfz41_8 := blk_frozen BK113.out 8
                            have hfz41_9 := blk_frozen BK113.out 9
                            go_wp2
                            go_meet
                            case rel => exact ⟨_, ((a1_5 != 134695760)), (by first | rfl | (simp; done) | (simp [*]; done)), H', ⟨by have := HJ5.out; have := HJ17.out; have := HJ19.out; have := HJ26.out; first | omega | exact Nat.le_refl _⟩, ⟨by (with_reducible repeat (first | apply Kd.R_alloc | apply Kd.R_drewN | apply Kd.R_drew)); exact HO_12.out⟩, ⟨by (with_reducible repeat (first | refine blk_drewN ?_ _ | refine blk_drew ?_ | refine blk_alloc ?_ _)); exact BK113.out⟩, ⟨by repeat (first | (with_reducible first | exact HB.out | apply below_alloc | apply pw_below_drewN | apply below_drew1 | refine below_set ?_ GE113.out) | exact HB.out)⟩⟩
                          · replace c40 := Bool.eq_false_iff.mpr c40
                            subst c40
                            have H1 : (valiselaw12_RecordTold.j4 kj26 l0 t123 false a1_0 a1_1 a1_2 a1_3 a1_4 a1_5 a1_6 a1_7 a1_8 a1_9) = some r := by rw [if_neg (show ¬ (false = true) by decide)] at H; exact H
                            clear H
                            have H := H1
                            clear H1
                            have H' := Aside0.mk H
                            clear H
                            go_wp2
                            go_meet
                            case rel => exact ⟨_, (false), (by first | rfl | (simp; done) | (simp [*]; done)), H', ⟨by have := HJ5.out; have := HJ17.out; have := HJ19.out; have := HJ26.out; first | omega | exact Nat.le_refl _⟩, ⟨by (with_reducible repeat (first | apply Kd.R_alloc | apply Kd.R_drewN | apply Kd.R_drew)); exact HO_12.out⟩, ⟨by (with_reducible repeat (first | refine blk_drewN ?_ _ | refine blk_drew ?_ | refine blk_alloc ?_ _)); exact BK113.out⟩, ⟨by repeat (first | (with_reducible first | exact HB.out | apply below_alloc | apply pw_below_drewN | apply below_drew1 | refine below_set ?_ GE113.out) | exact HB.out)⟩⟩
                        case rest =>
                          clear HC39
                          try clear c1
                          try clear c2
                          try clear p2
                          try clear c3
                          try clear c4
                          try clear c11
                          try clear c13
                          try clear c15
                          try clear c16
                          try clear c16b0
                          try clear c16b1
                          try clear c18
                          try clear c19
                          try clear c21
                          try clear c21b0
                          try clear c21b1
                          try clear c22
                          try clear c23
                          try clear c35
                          try clear c35b0
                          try clear c35b1
                          try clear c36
                          try clear c36b0
                          try clear c36b1
                          try clear c38
                          try clear c40
                          try clear hcz13_0
                          try clear hcz13_1
                          try clear hcz13_2
                          try clear hcz13_3
                          try clear hcz13_4
                          try clear hcz13_5
                          try clear hcz13_6
                          try clear hcz13_7
                          try clear hcz13_8
                          try clear hcz13_9
                          try clear hcz14_0
                          try clear hcz14_1
                          try clear hcz14_2
                          try clear hcz14_3
                          try clear hcz14_4
                          try clear hcz14_5
                          try clear hcz14_6
                          try clear hcz14_7
                          try clear hcz14_8
                          try clear hcz14_9
                          try clear hcz32_0
                          try clear hcz32_1
                          try clear hcz32_2
                          try clear hcz32_3
                          try clear hcz32_4
                          try clear hcz32_5
                          try clear hcz32_6
                          try clear hcz32_7
                          try clear hcz32_8
                          try clear hcz32_9
                          try clear hcz37_0
                          try clear hcz37_1
                          try clear hcz37_2
                          try clear hcz37_3
                          try clear hcz37_4
                          try clear hcz37_5
                          try clear hcz37_6
                          try clear hcz37_7
                          try clear hcz37_8
                          try clear hcz37_9
                          try clear hcz41_0
                          try clear hcz41_1
                          try clear hcz41_2
                          try clear hcz41_3
                          try clear hcz41_4
                          try clear hcz41_5
                          try clear hcz41_6
                          try clear hcz41_7
                          try clear hcz41_8
                          try clear hcz41_9
                          try clear hcz8_0
                          try clear hcz8_1
                          try clear hcz8_2
                          try clear hcz8_3
                          try clear hcz8_4
                          try clear hcz8_5
                          try clear hcz8_6
                          try clear hcz8_7
                          try clear hcz8_8
                          try clear hcz8_9
                          try clear hfz13_0
                          try clear hfz13_1
                          try clear hfz13_2
                          try clear hfz13_3
                          try clear hfz13_4
                          try clear hfz13_5
                          try clear hfz13_6
                          try clear hfz13_7
                          try clear hfz13_8
                          try clear hfz13_9
                          try clear hfz14_0
                          try clear hfz14_1
                          try clear hfz14_2
                          try clear hfz14_3
                          try clear hfz14_4
                          try clear hfz14_5
                          try clear hfz14_6
                          try clear hfz14_7
                          try clear hfz14_8
                          try clear hfz14_9
                          try clear hfz32_0
                          try clear hfz32_1
                          try clear hfz32_2
                          try clear hfz32_3
                          try clear hfz32_4
                          try clear hfz32_5
                          try clear hfz32_6
                          try clear hfz32_7
                          try clear hfz32_8
                          try clear hfz32_9
                          try clear hfz37_0
                          try clear hfz37_1
                          try clear hfz37_2
                          try clear hfz37_3
                          try clear hfz37_4
                          try clear hfz37_5
                          try clear hfz37_6
                          try clear hfz37_7
                          try clear hfz37_8
                          try clear hfz37_9
                          try clear hfz41_0
                          try clear hfz41_1
                          try clear hfz41_2
                          try clear hfz41_3
                          try clear hfz41_4
                          try clear hfz41_5
                          try clear hfz41_6
                          try clear hfz41_7
                          try clear hfz41_8
                          try clear hfz41_9
                          try clear hfz8_0
                          try clear hfz8_1
                          try clear hfz8_2
                          try clear hfz8_3
                          try clear hfz8_4
                          try clear hfz8_5
                          try clear hfz8_6
                          try clear hfz8_7
                          try clear hfz8_8
                          try clear hfz8_9
                          try clear p2
                          obtain ⟨kq, x78_38, rfl, HA, HJ38, HO_12, BK113, HB⟩ := hcut
                          cases kq with
                          | zero => exact absurd HA.out (by simp [valiselaw12_RecordTold.j4])
                          | succ kj38 =>
                            have H := HA.out
                            clear HA
                            simp only [valiselaw12_RecordTold.j4] at H
                            by_cases c42 : x78_38 = true
                            · subst c42
                              have H1 : ((record_GetDescriptor.f t123 (wrap64 ((l0.length : Int) + 4)) a1_0 a1_1 a1_2 a1_3 a1_4 a1_5 a1_6 a1_7 a1_8 a1_9).bind fun bt128 => (if bt128.2 = 0 then (if bt128.1 = 12 then ((record_GetDescriptor.f t123 (l0.length : Int) a1_0 a1_1 a1_2 a1_3 a1_4 (Go.bits .xor .u32 a1_5 1) a1_6 a1_7 a1_8 a1_9).bind fun bt131 => (if bt131.2 = 0 then (if a1_5 = 134695760 then (some true) else (some (a1_5 == 134695761))) else (some true))) else (some false)) else (some false))) = some r := by rw [if_pos rfl] at H; exact H
                              clear H
                              have H := H1
                              clear H1
                              replace H := Option.bind_eq_some_iff.mp H
                              obtain ⟨⟨t128, t129⟩, A430, H⟩ := H
                              replace H : (if t129 = 0 then (if t128 = 12 then ((record_GetDescriptor.f t123 (l0.length : Int) a1_0 a1_1 a1_2 a1_3 a1_4 (Go.bits .xor .u32 a1_5 1) a1_6 a1_7 a1_8 a1_9).bind fun bt131 => (if bt131.2 = 0 then (if a1_5 = 134695760 then (some true) else (some (a1_5 == 134695761))) else (some true))) else (some false)) else (some false)) = some r := H
                              have A43 := Aside0.mk A430
                              clear A430
                              by_cases c44 : t129 = 0
                              · rw [if_pos c44] at H
                                have c44b0 : (t129 == 0) = true := beq_iff_eq.mpr c44
                                have c44b1 : (t129 != 0) = false := bne_eq_false_iff_eq.mpr c44
                                clear c44
                                by_cases c45 : t128 = 12
                                · rw [if_pos c45] at H
                                  have c45b0 : (t128 == 12) = true := beq_iff_eq.mpr c45
                                  have c45b1 : (t128 != 12) = false := bne_eq_false_iff_eq.mpr c45
                                  clear c45
                                  replace H := Option.bind_eq_some_iff.mp H
                                  obtain ⟨⟨t131, t132⟩, A460, H⟩ := H
                                  replace H : (if t132 = 0 then (if a1_5 = 134695760 then (some true) else (some (a1_5 == 134695761))) else (some true)) = some r := H
                                  have A46 := Aside0.mk A460
                                  clear A460
                                  by_cases c47 : t132 = 0
                                  · rw [if_pos c47] at H
                                    have c47b0 : (t132 == 0) = true := beq_iff_eq.mpr c47
                                    have c47b1 : (t132 != 0) = false := bne_eq_false_iff_eq.mpr c47
                                    clear c47
                                    by_cases c48 : a1_5 = 134695760
                                    · rw [if_pos c48] at H
                                      have c48b0 : (a1_5 == 134695760) = true := beq_iff_eq.mpr c48
                                      have c48b1 : (a1_5 != 134695760) = false := bne_eq_false_iff_eq.mpr c48
                                      clear c48
                                      obtain rfl := Option.some.inj H
                                      have hcz49_0 : wc.cell? ⟨gb113, 0, none⟩ = some (.int .i64 a1_0) := (blk_cell BK113.out 0).trans rfl
                                      have hcz49_1 : wc.cell? ⟨gb113, 1, none⟩ = some (.int .i64 a1_1) := (blk_cell BK113.out 1).trans rfl
                                      have hcz49_2 : wc.cell? ⟨gb113, 2, none⟩ = some (.int .i64 a1_2) := (blk_cell BK113.out 2).trans rfl
                                      have hcz49_3 : wc.cell? ⟨gb113, 3, none⟩ = some (.int .i64 a1_3) := (blk_cell BK113.out 3).trans rfl
                                      have hcz49_4 : wc.cell? ⟨gb113, 4, none⟩ = some (.int .i64 a1_4) := (blk_cell BK113.out 4).trans rfl
                                      have hcz49_5 : wc.cell? ⟨gb113, 5, none⟩ = some (.int .u32 a1_5) := (blk_cell BK113.out 5).trans rfl
                                      have hcz49_6 : wc.cell? ⟨gb113, 6, none⟩ = some (.int .i64 a1_6) := (blk_cell BK113.out 6).trans rfl
                                      have hcz49_7 : wc.cell? ⟨gb113, 7, none⟩ = some (.int .i64 a1_7) := (blk_cell BK113.out 7).trans rfl
                                      have hcz49_8 : wc.cell? ⟨gb113, 8, none⟩ = some (.string a1_8) := (blk_cell BK113.out 8).trans rfl
                                      have hcz49_9 : wc.cell? ⟨gb113, 9, none⟩ = some (.string a1_9) := (blk_cell BK113.out 9).trans rfl
                                      have hfz49_0 := blk_frozen BK113.out 0
                                      have hfz49_1 := blk_frozen BK113.out 1
                                      have hfz49_2 := blk_frozen BK113.out 2
                                      have hfz49_3 := blk_frozen BK113.out 3
                                      have hfz49_4 := blk_frozen BK113.out 4
                                      have hfz49_5 := blk_frozen BK113.out 5
                                      have hfz49_6 := blk_frozen BK113.out 6
                                      have hfz49_7 := blk_frozen BK113.out 7
                                      have hfz49_8 := blk_frozen BK113.out 8
                                      have hfz49_9 := blk_frozen BK113.out 9
                                      go_wp2_with (first | ((with_reducible refine gate_callee (f := 18) rfl ?_); refine goesL_ (some 85) rfl rfl Try.func18 (by kernel_rfl) rfl #[.slice Ao33 t123.length co33, .int .i64 (wrap64 ((l0.length : Int) + 4)), .agg #[.int .i64 a1_0, .int .i64 a1_1, .int .i64 a1_2, .int .i64 a1_3, .int .i64 a1_4, .int .u32 a1_5, .int .i64 a1_6, .int .i64 a1_7, .string a1_8, .string a1_9]] rfl (by (try simp only [List.map_toArray, List.map_cons, List.map_nil]); first | done | rfl | (simp only [List.length_drop, List.length_take]; rfl)) ?_; (with_reducible refine (record_GetDescriptor.calls _ _ t123 (wrap64 ((l0.length : Int) + 4)) a1_0 a1_1 a1_2 a1_3 a1_4 a1_5 a1_6 a1_7 a1_8 a1_9 t128 t129 _ ?side1 ?side2 A43.out).mono ?_); (case side1 => repeat (first | exact (Kd.R_reads' HO_12.out).2.2 | (with_reducible refine Kd.C_alloc ?_ _) | (with_reducible refine Kd.C_drewN ?_ _) | (with_reducible refine Kd.C_drew ?_))); (case side2 => exact (Kd.R_reads' HO_12.out).2.1); rintro e w50 ⟨rfl, hb⟩; refine ⟨_, rfl, ?_⟩; have n0_ := Aside0.mk (Kd.R_below (by (with_reducible repeat (first | apply Kd.R_alloc | apply Kd.R_drewN | apply Kd.R_drew)); exact HO_12.out) hb); have n1_ := Aside0.mk (blk_below (g := gb113) (o := .cells #[.int .i64 a1_0, .int .i64 a1_1, .int .i64 a1_2, .int .i64 a1_3, .int .i64 a1_4, .int .u32 a1_5, .int .i64 a1_6, .int .i64 a1_7, .string a1_8, .string a1_9] 24 (0, 0)) (by (with_reducible repeat (first | refine blk_drewN ?_ _ | refine blk_drew ?_ | refine blk_alloc ?_ _)); exact BK113.out) hb); have n2_ := Aside0.mk (below_step (by repeat (first | (with_reducible first | exact HB.out | apply below_alloc | apply pw_below_drewN | apply below_drew1 | refine below_set ?_ GE113.out) | exact HB.out)) hb); clear HO_12; clear BK113; clear HB; have HO_12 := n0_; have BK113 := n1_; have HB := n2_; clear n0_ n1_ n2_; (try clear hb); (try clear hb2); (try clear hk); (try clear hi); have hcz51_0 : w50.cell? ⟨gb113, 0, none⟩ = some (.int .i64 a1_0) := (blk_cell BK113.out 0).trans rfl; have hcz51_1 : w50.cell? ⟨gb113, 1, none⟩ = some (.int .i64 a1_1) := (blk_cell BK113.out 1).trans rfl; have hcz51_2 : w50.cell? ⟨gb113, 2, none⟩ = some (.int .i64 a1_2) := (blk_cell BK113.out 2).trans rfl; have hcz51_3 : w50.cell? ⟨gb113, 3, none⟩ = some (.int .i64 a1_3) := (blk_cell BK113.out 3).trans rfl; have hcz51_4 : w50.cell? ⟨gb113, 4, none⟩ = some (.int .i64 a1_4) := (blk_cell BK113.out 4).trans rfl; have hcz51_5 : w50.cell? ⟨gb113, 5, none⟩ = some (.int .u32 a1_5) := (blk_cell BK113.out 5).trans rfl; have hcz51_6 : w50.cell? ⟨gb113, 6, none⟩ = some (.int .i64 a1_6) := (blk_cell BK113.out 6).trans rfl; have hcz51_7 : w50.cell? ⟨gb113, 7, none⟩ = some (.int .i64 a1_7) := (blk_cell BK113.out 7).trans rfl; have hcz51_8 : w50.cell? ⟨gb113, 8, none⟩ = some (.string a1_8) := (blk_cell BK113.out 8).trans rfl; have hcz51_9 : w50.cell? ⟨gb113, 9, none⟩ = some (.string a1_9) := (blk_cell BK113.out 9).trans rfl; have hfz51_0 := blk_frozen BK113.out 0; have hfz51_1 := blk_frozen BK113.out 1; have hfz51_2 := blk_frozen BK113.out 2; have hfz51_3 := blk_frozen BK113.out 3; have hfz51_4 := blk_frozen BK113.out 4; have hfz51_5 := blk_frozen BK113.out 5; have hfz51_6 := blk_frozen BK113.out 6; have hfz51_7 := blk_frozen BK113.out 7; have hfz51_8 := blk_frozen BK113.out 8; have hfz51_9 := blk_frozen BK113.out 9) | ((with_reducible refine gate_dst (N := 15) rfl ?_); (try (refine gate_guard (by rfl) ?_; dsimp only)); refine box2_event ?hg (N := 15) ?hd ?hg2 (zs := #[.int .i64 0, .int .i64 0, .int .i64 0, .int .i64 0, .int .i64 0, .int .u32 0, .int .i64 0, .int .i64 0, .string (⟨#[]⟩ : ByteArray), .string (⟨#[]⟩ : ByteArray)]) (cs := [.int .i64 a1_0, .int .i64 a1_1, .int .i64 a1_2, .int .i64 a1_3, .int .i64 a1_4, .int .u32 a1_5, .int .i64 a1_6, .int .i64 a1_7, .string a1_8, .string a1_9]) (t := 24) (.tmp 94) ?ho2 ?hr ?hx ?hy info24 ?hn ?hold ?h1 ?_; (case hd => rfl); (case hg => rfl); (case hg2 => rfl); (case ho2 => rfl); (case hr => first | (go_simp; done) | (go_simp; rfl)); (case hx => rfl); (case hy => first | rfl | (go_simp; done) | (go_simp; rfl)); (case hn => rfl); (case hold => rfl); (case h1 => rfl); intro gb130 hg w52 hbox hb; have n0_ := Aside0.mk (Kd.R_below (by (with_reducible repeat (first | apply Kd.R_alloc | apply Kd.R_drewN | apply Kd.R_drew)); exact HO_12.out) hb); have n1_ := Aside0.mk (blk_below (g := gb113) (o := .cells #[.int .i64 a1_0, .int .i64 a1_1, .int .i64 a1_2, .int .i64 a1_3, .int .i64 a1_4, .int .u32 a1_5, .int .i64 a1_6, .int .i64 a1_7, .string a1_8, .string a1_9] 24 (0, 0)) (by (with_reducible repeat (first | refine blk_drewN ?_ _ | refine blk_drew ?_ | refine blk_alloc ?_ _)); exact BK113.out) hb); have n2_ := Aside0.mk (below_step (by repeat (first | (with_reducible first | exact HB.out | apply below_alloc | apply pw_below_drewN | apply below_drew1 | refine below_set ?_ GE113.out) | exact HB.out)) hb); have n3_ := Aside0.mk (hbox); have n4_ := Aside0.mk ((by rw [hg]; exact (below_size (by repeat (first | (with_reducible first | exact HB.out | apply below_alloc | apply pw_below_drewN | apply below_drew1 | refine below_set ?_ GE113.out) | exact HB.out))) : w.heap.size ≤ gb130)); have n5_ := Aside0.mk ((by rw [hg]; exact (below_size (by repeat (first | (with_reducible first | exact HB.out | apply below_alloc | apply pw_below_drewN | apply below_drew1 | refine below_set ?_ GE113.out) | exact HB.out))) : w.heap.size ≤ gb130)); have n6_ := Aside0.mk ((by rw [hg]; exact Nat.ne_of_lt (blk_lt (g := gb113) (o := .cells #[.int .i64 a1_0, .int .i64 a1_1, .int .i64 a1_2, .int .i64 a1_3, .int .i64 a1_4, .int .u32 a1_5, .int .i64 a1_6, .int .i64 a1_7, .string a1_8, .string a1_9] 24 (0, 0)) (by (with_reducible repeat (first | refine blk_drewN ?_ _ | refine blk_drew ?_ | refine blk_alloc ?_ _)); exact BK113.out)) : gb113 ≠ gb130)); have n7_ := Aside0.mk ((by rw [hg]; exact Nat.ne_of_gt (blk_lt (g := gb113) (o := .cells #[.int .i64 a1_0, .int .i64 a1_1, .int .i64 a1_2, .int .i64 a1_3, .int .i64 a1_4, .int .u32 a1_5, .int .i64 a1_6, .int .i64 a1_7, .string a1_8, .string a1_9] 24 (0, 0)) (by (with_reducible repeat (first | refine blk_drewN ?_ _ | refine blk_drew ?_ | refine blk_alloc ?_ _)); exact BK113.out)) : gb130 ≠ gb113)); clear HO_12; clear BK113; clear HB; have HO_12 := n0_; have BK113 := n1_; have HB := n2_; have BK130 := n3_; have GW130 := n4_; have GE130 := n5_; have NB113_130 := n6_; have NB130_113 := n7_; clear n0_ n1_ n2_ n3_ n4_ n5_ n6_ n7_; clear hb hbox hg; have hnb53 := NB113_130.out; have hnc53 := NB130_113.out; have hcz54_0 : w52.cell? ⟨gb113, 0, none⟩ = some (.int .i64 a1_0) := (blk_cell BK113.out 0).trans rfl; have hcz54_1 : w52.cell? ⟨gb113, 1, none⟩ = some (.int .i64 a1_1) := (blk_cell BK113.out 1).trans rfl; have hcz54_2 : w52.cell? ⟨gb113, 2, none⟩ = some (.int .i64 a1_2) := (blk_cell BK113.out 2).trans rfl; have hcz54_3 : w52.cell? ⟨gb113, 3, none⟩ = some (.int .i64 a1_3) := (blk_cell BK113.out 3).trans rfl; have hcz54_4 : w52.cell? ⟨gb113, 4, none⟩ = some (.int .i64 a1_4) := (blk_cell BK113.out 4).trans rfl; have hcz54_5 : w52.cell? ⟨gb113, 5, none⟩ = some (.int .u32 a1_5) := (blk_cell BK113.out 5).trans rfl; have hcz54_6 : w52.cell? ⟨gb113, 6, none⟩ = some (.int .i64 a1_6) := (blk_cell BK113.out 6).trans rfl; have hcz54_7 : w52.cell? ⟨gb113, 7, none⟩ = some (.int .i64 a1_7) := (blk_cell BK113.out 7).trans rfl; have hcz54_8 : w52.cell? ⟨gb113, 8, none⟩ = some (.string a1_8) := (blk_cell BK113.out 8).trans rfl; have hcz54_9 : w52.cell? ⟨gb113, 9, none⟩ = some (.string a1_9) := (blk_cell BK113.out 9).trans rfl; have hfz54_0 := blk_frozen BK113.out 0; have hfz54_1 := blk_frozen BK113.out 1; have hfz54_2 := blk_frozen BK113.out 2; have hfz54_3 := blk_frozen BK113.out 3; have hfz54_4 := blk_frozen BK113.out 4; have hfz54_5 := blk_frozen BK113.out 5; have hfz54_6 := blk_frozen BK113.out 6; have hfz54_7 := blk_frozen BK113.out 7; have hfz54_8 := blk_frozen BK113.out 8; have hfz54_9 := blk_frozen BK113.out 9; have hcz55_0 : w52.cell? ⟨gb130, 0, none⟩ = some (.int .i64 a1_0) := (blk_cell BK130.out 0).trans rfl; have hcz55_1 : w52.cell? ⟨gb130, 1, none⟩ = some (.int .i64 a1_1) := (blk_cell BK130.out 1).trans rfl; have hcz55_2 : w52.cell? ⟨gb130, 2, none⟩ = some (.int .i64 a1_2) := (blk_cell BK130.out 2).trans rfl; have hcz55_3 : w52.cell? ⟨gb130, 3, none⟩ = some (.int .i64 a1_3) := (blk_cell BK130.out 3).trans rfl; have hcz55_4 : w52.cell? ⟨gb130, 4, none⟩ = some (.int .i64 a1_4) := (blk_cell BK130.out 4).trans rfl; have hcz55_5 : w52.cell? ⟨gb130, 5, none⟩ = some (.int .u32 a1_5) := (blk_cell BK130.out 5).trans rfl; have hcz55_6 : w52.cell? ⟨gb130, 6, none⟩ = some (.int .i64 a1_6) := (blk_cell BK130.out 6).trans rfl; have hcz55_7 : w52.cell? ⟨gb130, 7, none⟩ = some (.int .i64 a1_7) := (blk_cell BK130.out 7).trans rfl; have hcz55_8 : w52.cell? ⟨gb130, 8, none⟩ = some (.string a1_8) := (blk_cell BK130.out 8).trans rfl; have hcz55_9 : w52.cell? ⟨gb130, 9, none⟩ = some (.string a1_9) := (blk_cell BK130.out 9).trans rfl; have hfz55_0 := blk_frozen BK130.out 0; have hfz55_1 := blk_frozen BK130.out 1; have hfz55_2 := blk_frozen BK130.out 2; have hfz55_3 := blk_frozen BK130.out 3; have hfz55_4 := blk_frozen BK130.out 4; have hfz55_5 := blk_frozen BK130.out 5; have hfz55_6 := blk_frozen BK130.out 6; have hfz55_7 := blk_frozen BK130.out 7; have hfz55_8 := blk_frozen BK130.out 8; have hfz55_9 := blk_frozen BK130.out 9) | ((with_reducible refine gate_callee (f := 18) rfl ?_); refine goesL_ (some 104) rfl rfl Try.func18 (by kernel_rfl) rfl #[.slice Ao33 t123.length co33, .int .i64 (l0.length : Int), .agg #[.int .i64 a1_0, .int .i64 a1_1, .int .i64 a1_2, .int .i64 a1_3, .int .i64 a1_4, .int .u32 (Go.bits .xor .u32 a1_5 1), .int .i64 a1_6, .int .i64 a1_7, .string a1_8, .string a1_9]] rfl (by (try simp only [List.map_toArray, List.map_cons, List.map_nil]); first | done | rfl | (simp only [List.length_drop, List.length_take]; rfl)) ?_; (with_reducible refine (record_GetDescriptor.calls _ _ t123 (l0.length : Int) a1_0 a1_1 a1_2 a1_3 a1_4 (Go.bits .xor .u32 a1_5 1) a1_6 a1_7 a1_8 a1_9 t131 t132 _ ?side1 ?side2 A46.out).mono ?_); (case side1 => refine (Kd.R_reads' (e := 5) (base := w.heap.size) (ok := fun k_ => True) (n := t123.length) (c := co33) ?_).2.2; exact (by (with_reducible repeat (first | apply Kd.R_alloc | apply Kd.R_drewN | apply Kd.R_drew)); exact (Kd.R_mono (Kd.R_far (p := ⟨gb130, 5, none⟩) (Kd.R_types HO_12.out BK130.out (by decide)) (fun _ hk => hk.2) (.int .u32 (Go.bits .xor .u32 a1_5 1))) (fun _ h_ => h_.1)))); (case side2 => exact (Kd.R_reads' HO_12.out).2.1); rintro e w56 ⟨rfl, hb⟩; refine ⟨_, rfl, ?_⟩; have n0_ := Aside0.mk (Kd.R_below (by (with_reducible repeat (first | apply Kd.R_alloc | apply Kd.R_drewN | apply Kd.R_drew)); exact (Kd.R_mono (Kd.R_far (p := ⟨gb130, 5, none⟩) (Kd.R_types HO_12.out BK130.out (by decide)) (fun _ hk => hk.2) (.int .u32 (Go.bits .xor .u32 a1_5 1))) (fun _ h_ => h_.1))) hb); have n1_ := Aside0.mk (blk_below (g := gb113) (o := .cells #[.int .i64 a1_0, .int .i64 a1_1, .int .i64 a1_2, .int .i64 a1_3, .int .i64 a1_4, .int .u32 a1_5, .int .i64 a1_6, .int .i64 a1_7, .string a1_8, .string a1_9] 24 (0, 0)) (by (with_reducible repeat (first | refine blk_drewN ?_ _ | refine blk_drew ?_ | refine blk_alloc ?_ _)); refine blk_far ?_ NB113_130.out _; (with_reducible repeat (first | refine blk_drewN ?_ _ | refine blk_drew ?_ | refine blk_alloc ?_ _)); exact BK113.out) hb); have n2_ := Aside0.mk (blk_below (g := gb130) (o := .cells #[.int .i64 a1_0, .int .i64 a1_1, .int .i64 a1_2, .int .i64 a1_3, .int .i64 a1_4, .int .u32 (Go.bits .xor .u32 a1_5 1), .int .i64 a1_6, .int .i64 a1_7, .string a1_8, .string a1_9] 24 (0, 0)) (by (with_reducible repeat (first | refine blk_drewN ?_ _ | refine blk_drew ?_ | refine blk_alloc ?_ _)); refine blk_put (cs := #[.int .i64 a1_0, .int .i64 a1_1, .int .i64 a1_2, .int .i64 a1_3, .int .i64 a1_4, .int .u32 a1_5, .int .i64 a1_6, .int .i64 a1_7, .string a1_8, .string a1_9]) ?_ 5 _ rfl; (with_reducible repeat (first | refine blk_drewN ?_ _ | refine blk_drew ?_ | refine blk_alloc ?_ _)); exact BK130.out) hb); have n3_ := Aside0.mk (below_step (by repeat (first | (with_reducible first | exact HB.out | apply below_alloc | apply pw_below_drewN | apply below_drew1 | refine below_set ?_ GE113.out | refine below_set ?_ GE130.out) | exact HB.out)) hb); clear HO_12; clear BK113; clear BK130; clear HB; have HO_12 := n0_; have BK113 := n1_; have BK130 := n2_; have HB := n3_; clear n0_ n1_ n2_ n3_; (try clear hb); (try clear hb2); (try clear hk); (try clear hi); have hcz57_0 : w56.cell? ⟨gb113, 0, none⟩ = some (.int .i64 a1_0) := (blk_cell BK113.out 0).trans rfl; have hcz57_1 : w56.cell? ⟨gb113, 1, none⟩ = some (.int .i64 a1_1) := (blk_cell BK113.out 1).trans rfl; have hcz57_2 : w56.cell? ⟨gb113, 2, none⟩ = some (.int .i64 a1_2) := (blk_cell BK113.out 2).trans rfl; have hcz57_3 : w56.cell? ⟨gb113, 3, none⟩ = some (.int .i64 a1_3) := (blk_cell BK113.out 3).trans rfl; have hcz57_4 : w56.cell? ⟨gb113, 4, none⟩ = some (.int .i64 a1_4) := (blk_cell BK113.out 4).trans rfl; have hcz57_5 : w56.cell? ⟨gb113, 5, none⟩ = some (.int .u32 a1_5) := (blk_cell BK113.out 5).trans rfl; have hcz57_6 : w56.cell? ⟨gb113, 6, none⟩ = some (.int .i64 a1_6) := (blk_cell BK113.out 6).trans rfl; have hcz57_7 : w56.cell? ⟨gb113, 7, none⟩ = some (.int .i64 a1_7) := (blk_cell BK113.out 7).trans rfl; have hcz57_8 : w56.cell? ⟨gb113, 8, none⟩ = some (.string a1_8) := (blk_cell BK113.out 8).trans rfl; have hcz57_9 : w56.cell? ⟨gb113, 9, none⟩ = some (.string a1_9) := (blk_cell BK113.out 9).trans rfl; have hfz57_0 := blk_frozen BK113.out 0; have hfz57_1 := blk_frozen BK113.out 1; have hfz57_2 := blk_frozen BK113.out 2; have hfz57_3 := blk_frozen BK113.out 3; have hfz57_4 := blk_frozen BK113.out 4; have hfz57_5 := blk_frozen BK113.out 5; have hfz57_6 := blk_frozen BK113.out 6; have hfz57_7 := blk_frozen BK113.out 7; have hfz57_8 := blk_frozen BK113.out 8; have hfz57_9 := blk_frozen BK113.out 9))
                                      go_ret
                                      exact ⟨by first | rfl | (simp [errW_none, errW_some] <;> rfl) | (simp [*, errW_none, errW_some] <;> rfl), by repeat (first | (with_reducible first | exact HB.out | apply below_alloc | apply pw_below_drewN | apply below_drew1 | refine below_set ?_ GE113.out | refine below_set ?_ GE130.out) | exact HB.out)⟩
                                    · rw [if_neg c48] at H
                                      have c48b0 : (a1_5 == 134695760) = false := beq_eq_false_iff_ne.mpr c48
                                      have c48b1 : (a1_5 != 134695760) = true := bne_iff_ne.mpr c48
                                      obtain rfl := Option.some.inj H
                                      have hcz58_0 : wc.cell? ⟨gb113, 0, none⟩ = some (.int .i64 a1_0) := (blk_cell BK113.out 0).trans rfl
                                      have hcz58_1 : wc.cell? ⟨gb113, 1, none⟩ = some (.int .i64 a1_1) := (blk_cell BK113.out 1).trans rfl
                                      have hcz58_2 : wc.cell? ⟨gb113, 2, none⟩ = some (.int .i64 a1_2) := (blk_cell BK113.out 2).trans rfl
                                      have hcz58_3 : wc.cell? ⟨gb113, 3, none⟩ = some (.int .i64 a1_3) := (blk_cell BK113.out 3).trans rfl
                                      have hcz58_4 : wc.cell? ⟨gb113, 4, none⟩ = some (.int .i64 a1_4) := (blk_cell BK113.out 4).trans rfl
                                      have hcz58_5 : wc.cell? ⟨gb113, 5, none⟩ = some (.int .u32 a1_5) := (blk_cell BK113.out 5).trans rfl
                                      have hcz58_6 : wc.cell? ⟨gb113, 6, none⟩ = some (.int .i64 a1_6) := (blk_cell BK113.out 6).trans rfl
                                      have hcz58_7 : wc.cell? ⟨gb113, 7, none⟩ = some (.int .i64 a1_7) := (blk_cell BK113.out 7).trans rfl
                                      have hcz58_8 : wc.cell? ⟨gb113, 8, none⟩ = some (.string a1_8) := (blk_cell BK113.out 8).trans rfl
                                      have hcz58_9 : wc.cell? ⟨gb113, 9, none⟩ = some (.string a1_9) := (blk_cell BK113.out 9).trans rfl
                                      have hfz58_0 := blk_frozen BK113.out 0
                                      have hfz58_1 := blk_frozen BK113.out 1
                                      have hfz58_2 := blk_frozen BK113.out 2
                                      have hfz58_3 := blk_frozen BK113.out 3
                                      have hfz58_4 := blk_frozen BK113.out 4
                                      have hfz58_5 := blk_frozen BK113.out 5
                                      have hfz58_6 := blk_frozen BK113.out 6
                                      have hfz58_7 := blk_frozen BK113.out 7
                                      have hfz58_8 := blk_frozen BK113.out 8
                                      have hfz58_9 := blk_frozen BK113.out 9
                                      go_wp2_with (first | ((with_reducible refine gate_callee (f := 18) rfl ?_); refine goesL_ (some 85) rfl rfl Try.func18 (by kernel_rfl) rfl #[.slice Ao33 t123.length co33, .int .i64 (wrap64 ((l0.length : Int) + 4)), .agg #[.int .i64 a1_0, .int .i64 a1_1, .int .i64 a1_2, .int .i64 a1_3, .int .i64 a1_4, .int .u32 a1_5, .int .i64 a1_6, .int .i64 a1_7, .string a1_8, .string a1_9]] rfl (by (try simp only [List.map_toArray, List.map_cons, List.map_nil]); first | done | rfl | (simp only [List.length_drop, List.length_take]; rfl)) ?_; (with_reducible refine (record_GetDescriptor.calls _ _ t123 (wrap64 ((l0.length : Int) + 4)) a1_0 a1_1 a1_2 a1_3 a1_4 a1_5 a1_6 a1_7 a1_8 a1_9 t128 t129 _ ?side1 ?side2 A43.out).mono ?_); (case side1 => repeat (first | exact (Kd.R_reads' HO_12.out).2.2 | (with_reducible refine Kd.C_alloc ?_ _) | (with_reducible refine Kd.C_drewN ?_ _) | (with_reducible refine Kd.C_drew ?_))); (case side2 => exact (Kd.R_reads' HO_12.out).2.1); rintro e w59 ⟨rfl, hb⟩; refine ⟨_, rfl, ?_⟩; have n0_ := Aside0.mk (Kd.R_below (by (with_reducible repeat (first | apply Kd.R_alloc | apply Kd.R_drewN | apply Kd.R_drew)); exact HO_12.out) hb); have n1_ := Aside0.mk (blk_below (g := gb113) (o := .cells #[.int .i64 a1_0, .int .i64 a1_1, .int .i64 a1_2, .int .i64 a1_3, .int .i64 a1_4, .int .u32 a1_5, .int .i64 a1_6, .int .i64 a1_7, .string a1_8, .string a1_9] 24 (0, 0)) (by (with_reducible repeat (first | refine blk_drewN ?_ _ | refine blk_drew ?_ | refine blk_alloc ?_ _)); exact BK113.out) hb); have n2_ := Aside0.mk (below_step (by repeat (first | (with_reducible first | exact HB.out | apply below_alloc | apply pw_below_drewN | apply below_drew1 | refine below_set ?_ GE113.out) | exact HB.out)) hb); clear HO_12; clear BK113; clear HB; have HO_12 := n0_; have BK113 := n1_; have HB := n2_; clear n0_ n1_ n2_; (try clear hb); (try clear hb2); (try clear hk); (try clear hi); have hcz60_0 : w59.cell? ⟨gb113, 0, none⟩ = some (.int .i64 a1_0) := (blk_cell BK113.out 0).trans rfl; have hcz60_1 : w59.cell? ⟨gb113, 1, none⟩ = some (.int .i64 a1_1) := (blk_cell BK113.out 1).trans rfl; have hcz60_2 : w59.cell? ⟨gb113, 2, none⟩ = some (.int .i64 a1_2) := (blk_cell BK113.out 2).trans rfl; have hcz60_3 : w59.cell? ⟨gb113, 3, none⟩ = some (.int .i64 a1_3) := (blk_cell BK113.out 3).trans rfl; have hcz60_4 : w59.cell? ⟨gb113, 4, none⟩ = some (.int .i64 a1_4) := (blk_cell BK113.out 4).trans rfl; have hcz60_5 : w59.cell? ⟨gb113, 5, none⟩ = some (.int .u32 a1_5) := (blk_cell BK113.out 5).trans rfl; have hcz60_6 : w59.cell? ⟨gb113, 6, none⟩ = some (.int .i64 a1_6) := (blk_cell BK113.out 6).trans rfl; have hcz60_7 : w59.cell? ⟨gb113, 7, none⟩ = some (.int .i64 a1_7) := (blk_cell BK113.out 7).trans rfl; have hcz60_8 : w59.cell? ⟨gb113, 8, none⟩ = some (.string a1_8) := (blk_cell BK113.out 8).trans rfl; have hcz60_9 : w59.cell? ⟨gb113, 9, none⟩ = some (.string a1_9) := (blk_cell BK113.out 9).trans rfl; have hfz60_0 := blk_frozen BK113.out 0; have hfz60_1 := blk_frozen BK113.out 1; have hfz60_2 := blk_frozen BK113.out 2; have hfz60_3 := blk_frozen BK113.out 3; have hfz60_4 := blk_frozen BK113.out 4; have hfz60_5 := blk_frozen BK113.out 5; have hfz60_6 := blk_frozen BK113.out 6; have hfz60_7 := blk_frozen BK113.out 7; have hfz60_8 := blk_frozen BK113.out 8; have hfz60_9 := blk_frozen BK113.out 9) | ((with_reducible refine gate_dst (N := 15) rfl ?_); (try (refine gate_guard (by rfl) ?_; dsimp only)); refine box2_event ?hg (N := 15) ?hd ?hg2 (zs := #[.int .i64 0, .int .i64 0, .int .i64 0, .int .i64 0, .int .i64 0, .int .u32 0, .int .i64 0, .int .i64 0, .string (⟨#[]⟩ : ByteArray), .string (⟨#[]⟩ : ByteArray)]) (cs := [.int .i64 a1_0, .int .i64 a1_1, .int .i64 a1_2, .int .i64 a1_3, .int .i64 a1_4, .int .u32 a1_5, .int .i64 a1_6, .int .i64 a1_7, .string a1_8, .string a1_9]) (t := 24) (.tmp 94) ?ho2 ?hr ?hx ?hy info24 ?hn ?hold ?h1 ?_; (case hd => rfl); (case hg => rfl); (case hg2 => rfl); (case ho2 => rfl); (case hr => first | (go_simp; done) | (go_simp; rfl)); (case hx => rfl); (case hy => first | rfl | (go_simp; done) | (go_simp; rfl)); (case hn => rfl); (case hold => rfl); (case h1 => rfl); intro gb130 hg w61 hbox hb; have n0_ := Aside0.mk (Kd.R_below (by (with_reducible repeat (first | apply Kd.R_alloc | apply Kd.R_drewN | apply Kd.R_drew)); exact HO_12.out) hb); have n1_ := Aside0.mk (blk_below (g := gb113) (o := .cells #[.int .i64 a1_0, .int .i64 a1_1, .int .i64 a1_2, .int .i64 a1_3, .int .i64 a1_4, .int .u32 a1_5, .int .i64 a1_6, .int .i64 a1_7, .string a1_8, .string a1_9] 24 (0, 0)) (by (with_reducible repeat (first | refine blk_drewN ?_ _ | refine blk_drew ?_ | refine blk_alloc ?_ _)); exact BK113.out) hb); have n2_ := Aside0.mk (below_step (by repeat (first | (with_reducible first | exact HB.out | apply below_alloc | apply pw_below_drewN | apply below_drew1 | refine below_set ?_ GE113.out) | exact HB.out)) hb); have n3_ := Aside0.mk (hbox); have n4_ := Aside0.mk ((by rw [hg]; exact (below_size (by repeat (first | (with_reducible first | exact HB.out | apply below_alloc | apply pw_below_drewN | apply below_drew1 | refine below_set ?_ GE113.out) | exact HB.out))) : w.heap.size ≤ gb130)); have n5_ := Aside0.mk ((by rw [hg]; exact (below_size (by repeat (first | (with_reducible first | exact HB.out | apply below_alloc | apply pw_below_drewN | apply below_drew1 | refine below_set ?_ GE113.out) | exact HB.out))) : w.heap.size ≤ gb130)); have n6_ := Aside0.mk ((by rw [hg]; exact Nat.ne_of_lt (blk_lt (g := gb113) (o := .cells #[.int .i64 a1_0, .int .i64 a1_1, .int .i64 a1_2, .int .i64 a1_3, .int .i64 a1_4, .int .u32 a1_5, .int .i64 a1_6, .int .i64 a1_7, .string a1_8, .string a1_9] 24 (0, 0)) (by (with_reducible repeat (first | refine blk_drewN ?_ _ | refine blk_drew ?_ | refine blk_alloc ?_ _)); exact BK113.out)) : gb113 ≠ gb130)); have n7_ := Aside0.mk ((by rw [hg]; exact Nat.ne_of_gt (blk_lt (g := gb113) (o := .cells #[.int .i64 a1_0, .int .i64 a1_1, .int .i64 a1_2, .int .i64 a1_3, .int .i64 a1_4, .int .u32 a1_5, .int .i64 a1_6, .int .i64 a1_7, .string a1_8, .string a1_9] 24 (0, 0)) (by (with_reducible repeat (first | refine blk_drewN ?_ _ | refine blk_drew ?_ | refine blk_alloc ?_ _)); exact BK113.out)) : gb130 ≠ gb113)); clear HO_12; clear BK113; clear HB; have HO_12 := n0_; have BK113 := n1_; have HB := n2_; have BK130 := n3_; have GW130 := n4_; have GE130 := n5_; have NB113_130 := n6_; have NB130_113 := n7_; clear n0_ n1_ n2_ n3_ n4_ n5_ n6_ n7_; clear hb hbox hg; have hnb62 := NB113_130.out; have hnc62 := NB130_113.out; have hcz63_0 : w61.cell? ⟨gb113, 0, none⟩ = some (.int .i64 a1_0) := (blk_cell BK113.out 0).trans rfl; have hcz63_1 : w61.cell? ⟨gb113, 1, none⟩ = some (.int .i64 a1_1) := (blk_cell BK113.out 1).trans rfl; have hcz63_2 : w61.cell? ⟨gb113, 2, none⟩ = some (.int .i64 a1_2) := (blk_cell BK113.out 2).trans rfl; have hcz63_3 : w61.cell? ⟨gb113, 3, none⟩ = some (.int .i64 a1_3) := (blk_cell BK113.out 3).trans rfl; have hcz63_4 : w61.cell? ⟨gb113, 4, none⟩ = some (.int .i64 a1_4) := (blk_cell BK113.out 4).trans rfl; have hcz63_5 : w61.cell? ⟨gb113, 5, none⟩ = some (.int .u32 a1_5) := (blk_cell BK113.out 5).trans rfl; have hcz63_6 : w61.cell? ⟨gb113, 6, none⟩ = some (.int .i64 a1_6) := (blk_cell BK113.out 6).trans rfl; have hcz63_7 : w61.cell? ⟨gb113, 7, none⟩ = some (.int .i64 a1_7) := (blk_cell BK113.out 7).trans rfl; have hcz63_8 : w61.cell? ⟨gb113, 8, none⟩ = some (.string a1_8) := (blk_cell BK113.out 8).trans rfl; have hcz63_9 : w61.cell? ⟨gb113, 9, none⟩ = some (.string a1_9) := (blk_cell BK113.out 9).trans rfl; have hfz63_0 := blk_frozen BK113.out 0; have hfz63_1 := blk_frozen BK113.out 1; have hfz63_2 := blk_frozen BK113.out 2; have hfz63_3 := blk_frozen BK113.out 3; have hfz63_4 := blk_frozen BK113.out 4; have hfz63_5 := blk_frozen BK113.out 5; have hfz63_6 := blk_frozen BK113.out 6; have hfz63_7 := blk_frozen BK113.out 7; have hfz63_8 := blk_frozen BK113.out 8; have hfz63_9 := blk_frozen BK113.out 9; have hcz64_0 : w61.cell? ⟨gb130, 0, none⟩ = some (.int .i64 a1_0) := (blk_cell BK130.out 0).trans rfl; have hcz64_1 : w61.cell? ⟨gb130, 1, none⟩ = some (.int .i64 a1_1) := (blk_cell BK130.out 1).trans rfl; have hcz64_2 : w61.cell? ⟨gb130, 2, none⟩ = some (.int .i64 a1_2) := (blk_cell BK130.out 2).trans rfl; have hcz64_3 : w61.cell? ⟨gb130, 3, none⟩ = some (.int .i64 a1_3) := (blk_cell BK130.out 3).trans rfl; have hcz64_4 : w61.cell? ⟨gb130, 4, none⟩ = some (.int .i64 a1_4) := (blk_cell BK130.out 4).trans rfl; have hcz64_5 : w61.cell? ⟨gb130, 5, none⟩ = some (.int .u32 a1_5) := (blk_cell BK130.out 5).trans rfl; have hcz64_6 : w61.cell? ⟨gb130, 6, none⟩ = some (.int .i64 a1_6) := (blk_cell BK130.out 6).trans rfl; have hcz64_7 : w61.cell? ⟨gb130, 7, none⟩ = some (.int .i64 a1_7) := (blk_cell BK130.out 7).trans rfl; have hcz64_8 : w61.cell? ⟨gb130, 8, none⟩ = some (.string a1_8) := (blk_cell BK130.out 8).trans rfl; have hcz64_9 : w61.cell? ⟨gb130, 9, none⟩ = some (.string a1_9) := (blk_cell BK130.out 9).trans rfl; have hfz64_0 := blk_frozen BK130.out 0; have hfz64_1 := blk_frozen BK130.out 1; have hfz64_2 := blk_frozen BK130.out 2; have hfz64_3 := blk_frozen BK130.out 3; have hfz64_4 := blk_frozen BK130.out 4; have hfz64_5 := blk_frozen BK130.out 5; have hfz64_6 := blk_frozen BK130.out 6; have hfz64_7 := blk_frozen BK130.out 7; have hfz64_8 := blk_frozen BK130.out 8; have hfz64_9 := blk_frozen BK130.out 9) | ((with_reducible refine gate_callee (f := 18) rfl ?_); refine goesL_ (some 104) rfl rfl Try.func18 (by kernel_rfl) rfl #[.slice Ao33 t123.length co33, .int .i64 (l0.length : Int), .agg #[.int .i64 a1_0, .int .i64 a1_1, .int .i64 a1_2, .int .i64 a1_3, .int .i64 a1_4, .int .u32 (Go.bits .xor .u32 a1_5 1), .int .i64 a1_6, .int .i64 a1_7, .string a1_8, .string a1_9]] rfl (by (try simp only [List.map_toArray, List.map_cons, List.map_nil]); first | done | rfl | (simp only [List.length_drop, List.length_take]; rfl)) ?_; (with_reducible refine (record_GetDescriptor.calls _ _ t123 (l0.length : Int) a1_0 a1_1 a1_2 a1_3 a1_4 (Go.bits .xor .u32 a1_5 1) a1_6 a1_7 a1_8 a1_9 t131 t132 _ ?side1 ?side2 A46.out).mono ?_); (case side1 => refine (Kd.R_reads' (e := 5) (base := w.heap.size) (ok := fun k_ => True) (n := t123.length) (c := co33) ?_).2.2; exact (by (with_reducible repeat (first | apply Kd.R_alloc | apply Kd.R_drewN | apply Kd.R_drew)); exact (Kd.R_mono (Kd.R_far (p := ⟨gb130, 5, none⟩) (Kd.R_types HO_12.out BK130.out (by decide)) (fun _ hk => hk.2) (.int .u32 (Go.bits .xor .u32 a1_5 1))) (fun _ h_ => h_.1)))); (case side2 => exact (Kd.R_reads' HO_12.out).2.1); rintro e w65 ⟨rfl, hb⟩; refine ⟨_, rfl, ?_⟩; have n0_ := Aside0.mk (Kd.R_below (by (with_reducible repeat (first | apply Kd.R_alloc | apply Kd.R_drewN | apply Kd.R_drew)); exact (Kd.R_mono (Kd.R_far (p := ⟨gb130, 5, none⟩) (Kd.R_types HO_12.out BK130.out (by decide)) (fun _ hk => hk.2) (.int .u32 (Go.bits .xor .u32 a1_5 1))) (fun _ h_ => h_.1))) hb); have n1_ := Aside0.mk (blk_below (g := gb113) (o := .cells #[.int .i64 a1_0, .int .i64 a1_1, .int .i64 a1_2, .int .i64 a1_3, .int .i64 a1_4, .int .u32 a1_5, .int .i64 a1_6, .int .i64 a1_7, .string a1_8, .string a1_9] 24 (0, 0)) (by (with_reducible repeat (first | refine blk_drewN ?_ _ | refine blk_drew ?_ | refine blk_alloc ?_ _)); refine blk_far ?_ NB113_130.out _; (with_reducible repeat (first | refine blk_drewN ?_ _ | refine blk_drew ?_ | refine blk_alloc ?_ _)); exact BK113.out) hb); have n2_ := Aside0.mk (blk_below (g := gb130) (o := .cells #[.int .i64 a1_0, .int .i64 a1_1, .int .i64 a1_2, .int .i64 a1_3, .int .i64 a1_4, .int .u32 (Go.bits .xor .u32 a1_5 1), .int .i64 a1_6, .int .i64 a1_7, .string a1_8, .string a1_9] 24 (0, 0)) (by (with_reducible repeat (first | refine blk_drewN ?_ _ | refine blk_drew ?_ | refine blk_alloc ?_ _)); refine blk_put (cs := #[.int .i64 a1_0, .int .i64 a1_1, .int .i64 a1_2, .int .i64 a1_3, .int .i64 a1_4, .int .u32 a1_5, .int .i64 a1_6, .int .i64 a1_7, .string a1_8, .string a1_9]) ?_ 5 _ rfl; (with_reducible repeat (first | refine blk_drewN ?_ _ | refine blk_drew ?_ | refine blk_alloc ?_ _)); exact BK130.out) hb); have n3_ := Aside0.mk (below_step (by repeat (first | (with_reducible first | exact HB.out | apply below_alloc | apply pw_below_drewN | apply below_drew1 | refine below_set ?_ GE113.out | refine below_set ?_ GE130.out) | exact HB.out)) hb); clear HO_12; clear BK113; clear BK130; clear HB; have HO_12 := n0_; have BK113 := n1_; have BK130 := n2_; have HB := n3_; clear n0_ n1_ n2_ n3_; (try clear hb); (try clear hb2); (try clear hk); (try clear hi); have hcz66_0 : w65.cell? ⟨gb113, 0, none⟩ = some (.int .i64 a1_0) := (blk_cell BK113.out 0).trans rfl; have hcz66_1 : w65.cell? ⟨gb113, 1, none⟩ = some (.int .i64 a1_1) := (blk_cell BK113.out 1).trans rfl; have hcz66_2 : w65.cell? ⟨gb113, 2, none⟩ = some (.int .i64 a1_2) := (blk_cell BK113.out 2).trans rfl; have hcz66_3 : w65.cell? ⟨gb113, 3, none⟩ = some (.int .i64 a1_3) := (blk_cell BK113.out 3).trans rfl; have hcz66_4 : w65.cell? ⟨gb113, 4, none⟩ = some (.int .i64 a1_4) := (blk_cell BK113.out 4).trans rfl; have hcz66_5 : w65.cell? ⟨gb113, 5, none⟩ = some (.int .u32 a1_5) := (blk_cell BK113.out 5).trans rfl; have hcz66_6 : w65.cell? ⟨gb113, 6, none⟩ = some (.int .i64 a1_6) := (blk_cell BK113.out 6).trans rfl; have hcz66_7 : w65.cell? ⟨gb113, 7, none⟩ = some (.int .i64 a1_7) := (blk_cell BK113.out 7).trans rfl; have hcz66_8 : w65.cell? ⟨gb113, 8, none⟩ = some (.string a1_8) := (blk_cell BK113.out 8).trans rfl; have hcz66_9 : w65.cell? ⟨gb113, 9, none⟩ = some (.string a1_9) := (blk_cell BK113.out 9).trans rfl; have hfz66_0 := blk_frozen BK113.out 0; have hfz66_1 := blk_frozen BK113.out 1; have hfz66_2 := blk_frozen BK113.out 2; have hfz66_3 := blk_frozen BK113.out 3; have hfz66_4 := blk_frozen BK113.out 4; have hfz66_5 := blk_frozen BK113.out 5; have hfz66_6 := blk_frozen BK113.out 6; have hfz66_7 := blk_frozen BK113.out 7; have hfz66_8 := blk_frozen BK113.out 8; have hfz66_9 := blk_frozen BK113.out 9))
                                      go_ret
                                      exact ⟨by first | rfl | (simp [errW_none, errW_some] <;> rfl) | (simp [*, errW_none, errW_some] <;> rfl), by repeat (first | (with_reducible first | exact HB.out | apply below_alloc | apply pw_below_drewN | apply below_drew1 | refine below_set ?_ GE113.out | refine below_set ?_ GE130.out) | exact HB.out)⟩
                                  · rw [if_neg c47] at H
                                    have c47b0 : (t132 == 0) = false := beq_eq_false_iff_ne.mpr c47
                                    have c47b1 : (t132 != 0) = true := bne_iff_ne.mpr c47
                                    obtain rfl := Option.some.inj H
                                    have hcz67_0 : wc.cell? ⟨gb113, 0, none⟩ = some (.int .i64 a1_0) := (blk_cell BK113.out 0).trans rfl
                                    have hcz67_1 : wc.cell? ⟨gb113, 1, none⟩ = some (.int .i64 a1_1) := (blk_cell BK113.out 1).trans rfl
                                    have hcz67_2 : wc.cell? ⟨gb113, 2, none⟩ = some (.int .i64 a1_2) := (blk_cell BK113.out 2).trans rfl
                                    have hcz67_3 : wc.cell? ⟨gb113, 3, none⟩ = some (.int .i64 a1_3) := (blk_cell BK113.out 3).trans rfl
                                    have hcz67_4 : wc.cell? ⟨gb113, 4, none⟩ = some (.int .i64 a1_4) := (blk_cell BK113.out 4).trans rfl
                                    have hcz67_5 : wc.cell? ⟨gb113, 5, none⟩ = some (.int .u32 a1_5) := (blk_cell BK113.out 5).trans rfl
                                    have hcz67_6 : wc.cell? ⟨gb113, 6, none⟩ = some (.int .i64 a1_6) := (blk_cell BK113.out 6).trans rfl
                                    have hcz67_7 : wc.cell? ⟨gb113, 7, none⟩ = some (.int .i64 a1_7) := (blk_cell BK113.out 7).trans rfl
                                    have hcz67_8 : wc.cell? ⟨gb113, 8, none⟩ = some (.string a1_8) := (blk_cell BK113.out 8).trans rfl
                                    have hcz67_9 : wc.cell? ⟨gb113, 9, none⟩ = some (.string a1_9) := (blk_cell BK113.out 9).trans rfl
                                    have hfz67_0 := blk_frozen BK113.out 0
                                    have hfz67_1 := blk_frozen BK113.out 1
                                    have hfz67_2 := blk_frozen BK113.out 2
                                    have hfz67_3 := blk_frozen BK113.out 3
                                    have hfz67_4 := blk_frozen BK113.out 4
                                    have hfz67_5 := blk_frozen BK113.out 5
                                    have hfz67_6 := blk_frozen BK113.out 6
                                    have hfz67_7 := blk_frozen BK113.out 7
                                    have hfz67_8 := blk_frozen BK113.out 8
                                    have hfz67_9 := blk_frozen BK113.out 9
                                    go_wp2_with (first | ((with_reducible refine gate_callee (f := 18) rfl ?_); refine goesL_ (some 85) rfl rfl Try.func18 (by kernel_rfl) rfl #[.slice Ao33 t123.length co33, .int .i64 (wrap64 ((l0.length : Int) + 4)), .agg #[.int .i64 a1_0, .int .i64 a1_1, .int .i64 a1_2, .int .i64 a1_3, .int .i64 a1_4, .int .u32 a1_5, .int .i64 a1_6, .int .i64 a1_7, .string a1_8, .string a1_9]] rfl (by (try simp only [List.map_toArray, List.map_cons, List.map_nil]); first | done | rfl | (simp only [List.length_drop, List.length_take]; rfl)) ?_; (with_reducible refine (record_GetDescriptor.calls _ _ t123 (wrap64 ((l0.length : Int) + 4)) a1_0 a1_1 a1_2 a1_3 a1_4 a1_5 a1_6 a1_7 a1_8 a1_9 t128 t129 _ ?side1 ?side2 A43.out).mono ?_); (case side1 => repeat (first | exact (Kd.R_reads' HO_12.out).2.2 | (with_reducible refine Kd.C_alloc ?_ _) | (with_reducible refine Kd.C_drewN ?_ _) | (with_reducible refine Kd.C_drew ?_))); (case side2 => exact (Kd.R_reads' HO_12.out).2.1); rintro e w68 ⟨rfl, hb⟩; refine ⟨_, rfl, ?_⟩; have n0_ := Aside0.mk (Kd.R_below (by (with_reducible repeat (first | apply Kd.R_alloc | apply Kd.R_drewN | apply Kd.R_drew)); exact HO_12.out) hb); have n1_ := Aside0.mk (blk_below (g := gb113) (o := .cells #[.int .i64 a1_0, .int .i64 a1_1, .int .i64 a1_2, .int .i64 a1_3, .int .i64 a1_4, .int .u32 a1_5, .int .i64 a1_6, .int .i64 a1_7, .string a1_8, .string a1_9] 24 (0, 0)) (by (with_reducible repeat (first | refine blk_drewN ?_ _ | refine blk_drew ?_ | refine blk_alloc ?_ _)); exact BK113.out) hb); have n2_ := Aside0.mk (below_step (by repeat (first | (with_reducible first | exact HB.out | apply below_alloc | apply pw_below_drewN | apply below_drew1 | refine below_set ?_ GE113.out) | exact HB.out)) hb); clear HO_12; clear BK113; clear HB; have HO_12 := n0_; have BK113 := n1_; have HB := n2_; clear n0_ n1_ n2_; (try clear hb); (try clear hb2); (try clear hk); (try clear hi); have hcz69_0 : w68.cell? ⟨gb113, 0, none⟩ = some (.int .i64 a1_0) := (blk_cell BK113.out 0).trans rfl; have hcz69_1 : w68.cell? ⟨gb113, 1, none⟩ = some (.int .i64 a1_1) := (blk_cell BK113.out 1).trans rfl; have hcz69_2 : w68.cell? ⟨gb113, 2, none⟩ = some (.int .i64 a1_2) := (blk_cell BK113.out 2).trans rfl; have hcz69_3 : w68.cell? ⟨gb113, 3, none⟩ = some (.int .i64 a1_3) := (blk_cell BK113.out 3).trans rfl; have hcz69_4 : w68.cell? ⟨gb113, 4, none⟩ = some (.int .i64 a1_4) := (blk_cell BK113.out 4).trans rfl; have hcz69_5 : w68.cell? ⟨gb113, 5, none⟩ = some (.int .u32 a1_5) := (blk_cell BK113.out 5).trans rfl; have hcz69_6 : w68.cell? ⟨gb113, 6, none⟩ = some (.int .i64 a1_6) := (blk_cell BK113.out 6).trans rfl; have hcz69_7 : w68.cell? ⟨gb113, 7, none⟩ = some (.int .i64 a1_7) := (blk_cell BK113.out 7).trans rfl; have hcz69_8 : w68.cell? ⟨gb113, 8, none⟩ = some (.string a1_8) := (blk_cell BK113.out 8).trans rfl; have hcz69_9 : w68.cell? ⟨gb113, 9, none⟩ = some (.string a1_9) := (blk_cell BK113.out 9).trans rfl; have hfz69_0 := blk_frozen BK113.out 0; have hfz69_1 := blk_frozen BK113.out 1; have hfz69_2 := blk_frozen BK113.out 2; have hfz69_3 := blk_frozen BK113.out 3; have hfz69_4 := blk_frozen BK113.out 4; have hfz69_5 := blk_frozen BK113.out 5; have hfz69_6 := blk_frozen BK113.out 6; have hfz69_7 := blk_frozen BK113.out 7; have hfz69_8 := blk_frozen BK113.out 8; have hfz69_9 := blk_frozen BK113.out 9) | ((with_reducible refine gate_dst (N := 15) rfl ?_); (try (refine gate_guard (by rfl) ?_; dsimp only)); refine box2_event ?hg (N := 15) ?hd ?hg2 (zs := #[.int .i64 0, .int .i64 0, .int .i64 0, .int .i64 0, .int .i64 0, .int .u32 0, .int .i64 0, .int .i64 0, .string (⟨#[]⟩ : ByteArray), .string (⟨#[]⟩ : ByteArray)]) (cs := [.int .i64 a1_0, .int .i64 a1_1, .int .i64 a1_2, .int .i64 a1_3, .int .i64 a1_4, .int .u32 a1_5, .int .i64 a1_6, .int .i64 a1_7, .string a1_8, .string a1_9]) (t := 24) (.tmp 94) ?ho2 ?hr ?hx ?hy info24 ?hn ?hold ?h1 ?_; (case hd => rfl); (case hg => rfl); (case hg2 => rfl); (case ho2 => rfl); (case hr => first | (go_simp; done) | (go_simp; rfl)); (case hx => rfl); (case hy => first | rfl | (go_simp; done) | (go_simp; rfl)); (case hn => rfl); (case hold => rfl); (case h1 => rfl); intro gb130 hg w70 hbox hb; have n0_ := Aside0.mk (Kd.R_below (by (with_reducible repeat (first | apply Kd.R_alloc | apply Kd.R_drewN | apply Kd.R_drew)); exact HO_12.out) hb); have n1_ := Aside0.mk (blk_below (g := gb113) (o := .cells #[.int .i64 a1_0, .int .i64 a1_1, .int .i64 a1_2, .int .i64 a1_3, .int .i64 a1_4, .int .u32 a1_5, .int .i64 a1_6, .int .i64 a1_7, .string a1_8, .string a1_9] 24 (0, 0)) (by (with_reducible repeat (first | refine blk_drewN ?_ _ | refine blk_drew ?_ | refine blk_alloc ?_ _)); exact BK113.out) hb); have n2_ := Aside0.mk (below_step (by repeat (first | (with_reducible first | exact HB.out | apply below_alloc | apply pw_below_drewN | apply below_drew1 | refine below_set ?_ GE113.out) | exact HB.out)) hb); have n3_ := Aside0.mk (hbox); have n4_ := Aside0.mk ((by rw [hg]; exact (below_size (by repeat (first | (with_reducible first | exact HB.out | apply below_alloc | apply pw_below_drewN | apply below_drew1 | refine below_set ?_ GE113.out) | exact HB.out))) : w.heap.size ≤ gb130)); have n5_ := Aside0.mk ((by rw [hg]; exact (below_size (by repeat (first | (with_reducible first | exact HB.out | apply below_alloc | apply pw_below_drewN | apply below_drew1 | refine below_set ?_ GE113.out) | exact HB.out))) : w.heap.size ≤ gb130)); have n6_ := Aside0.mk ((by rw [hg]; exact Nat.ne_of_lt (blk_lt (g := gb113) (o := .cells #[.int .i64 a1_0, .int .i64 a1_1, .int .i64 a1_2, .int .i64 a1_3, .int .i64 a1_4, .int .u32 a1_5, .int .i64 a1_6, .int .i64 a1_7, .string a1_8, .string a1_9] 24 (0, 0)) (by (with_reducible repeat (first | refine blk_drewN ?_ _ | refine blk_drew ?_ | refine blk_alloc ?_ _)); exact BK113.out)) : gb113 ≠ gb130)); have n7_ := Aside0.mk ((by rw [hg]; exact Nat.ne_of_gt (blk_lt (g := gb113) (o := .cells #[.int .i64 a1_0, .int .i64 a1_1, .int .i64 a1_2, .int .i64 a1_3, .int .i64 a1_4, .int .u32 a1_5, .int .i64 a1_6, .int .i64 a1_7, .string a1_8, .string a1_9] 24 (0, 0)) (by (with_reducible repeat (first | refine blk_drewN ?_ _ | refine blk_drew ?_ | refine blk_alloc ?_ _)); exact BK113.out)) : gb130 ≠ gb113)); clear HO_12; clear BK113; clear HB; have HO_12 := n0_; have BK113 := n1_; have HB := n2_; have BK130 := n3_; have GW130 := n4_; have GE130 := n5_; have NB113_130 := n6_; have NB130_113 := n7_; clear n0_ n1_ n2_ n3_ n4_ n5_ n6_ n7_; clear hb hbox hg; have hnb71 := NB113_130.out; have hnc71 := NB130_113.out; have hcz72_0 : w70.cell? ⟨gb113, 0, none⟩ = some (.int .i64 a1_0) := (blk_cell BK113.out 0).trans rfl; have hcz72_1 : w70.cell? ⟨gb113, 1, none⟩ = some (.int .i64 a1_1) := (blk_cell BK113.out 1).trans rfl; have hcz72_2 : w70.cell? ⟨gb113, 2, none⟩ = some (.int .i64 a1_2) := (blk_cell BK113.out 2).trans rfl; have hcz72_3 : w70.cell? ⟨gb113, 3, none⟩ = some (.int .i64 a1_3) := (blk_cell BK113.out 3).trans rfl; have hcz72_4 : w70.cell? ⟨gb113, 4, none⟩ = some (.int .i64 a1_4) := (blk_cell BK113.out 4).trans rfl; have hcz72_5 : w70.cell? ⟨gb113, 5, none⟩ = some (.int .u32 a1_5) := (blk_cell BK113.out 5).trans rfl; have hcz72_6 : w70.cell? ⟨gb113, 6, none⟩ = some (.int .i64 a1_6) := (blk_cell BK113.out 6).trans rfl; have hcz72_7 : w70.cell? ⟨gb113, 7, none⟩ = some (.int .i64 a1_7) := (blk_cell BK113.out 7).trans rfl; have hcz72_8 : w70.cell? ⟨gb113, 8, none⟩ = some (.string a1_8) := (blk_cell BK113.out 8).trans rfl; have hcz72_9 : w70.cell? ⟨gb113, 9, none⟩ = some (.string a1_9) := (blk_cell BK113.out 9).trans rfl; have hfz72_0 := blk_frozen BK113.out 0; have hfz72_1 := blk_frozen BK113.out 1; have hfz72_2 := blk_frozen BK113.out 2; have hfz72_3 := blk_frozen BK113.out 3; have hfz72_4 := blk_frozen BK113.out 4; have hfz72_5 := blk_frozen BK113.out 5; have hfz72_6 := blk_frozen BK113.out 6; have hfz72_7 := blk_frozen BK113.out 7; have hfz72_8 := blk_frozen BK113.out 8; have hfz72_9 := blk_frozen BK113.out 9; have hcz73_0 : w70.cell? ⟨gb130, 0, none⟩ = some (.int .i64 a1_0) := (blk_cell BK130.out 0).trans rfl; have hcz73_1 : w70.cell? ⟨gb130, 1, none⟩ = some (.int .i64 a1_1) := (blk_cell BK130.out 1).trans rfl; have hcz73_2 : w70.cell? ⟨gb130, 2, none⟩ = some (.int .i64 a1_2) := (blk_cell BK130.out 2).trans rfl; have hcz73_3 : w70.cell? ⟨gb130, 3, none⟩ = some (.int .i64 a1_3) := (blk_cell BK130.out 3).trans rfl; have hcz73_4 : w70.cell? ⟨gb130, 4, none⟩ = some (.int .i64 a1_4) := (blk_cell BK130.out 4).trans rfl; have hcz73_5 : w70.cell? ⟨gb130, 5, none⟩ = some (.int .u32 a1_5) := (blk_cell BK130.out 5).trans rfl; have hcz73_6 : w70.cell? ⟨gb130, 6, none⟩ = some (.int .i64 a1_6) := (blk_cell BK130.out 6).trans rfl; have hcz73_7 : w70.cell? ⟨gb130, 7, none⟩ = some (.int .i64 a1_7) := (blk_cell BK130.out 7).trans rfl; have hcz73_8 : w70.cell? ⟨gb130, 8, none⟩ = some (.string a1_8) := (blk_cell BK130.out 8).trans rfl; have hcz73_9 : w70.cell? ⟨gb130, 9, none⟩ = some (.string a1_9) := (blk_cell BK130.out 9).trans rfl; have hfz73_0 := blk_frozen BK130.out 0; have hfz73_1 := blk_frozen BK130.out 1; have hfz73_2 := blk_frozen BK130.out 2; have hfz73_3 := blk_frozen BK130.out 3; have hfz73_4 := blk_frozen BK130.out 4; have hfz73_5 := blk_frozen BK130.out 5; have hfz73_6 := blk_frozen BK130.out 6; have hfz73_7 := blk_frozen BK130.out 7; have hfz73_8 := blk_frozen BK130.out 8; have hfz73_9 := blk_frozen BK130.out 9) | ((with_reducible refine gate_callee (f := 18) rfl ?_); refine goesL_ (some 104) rfl rfl Try.func18 (by kernel_rfl) rfl #[.slice Ao33 t123.length co33, .int .i64 (l0.length : Int), .agg #[.int .i64 a1_0, .int .i64 a1_1, .int .i64 a1_2, .int .i64 a1_3, .int .i64 a1_4, .int .u32 (Go.bits .xor .u32 a1_5 1), .int .i64 a1_6, .int .i64 a1_7, .string a1_8, .string a1_9]] rfl (by (try simp only [List.map_toArray, List.map_cons, List.map_nil]); first | done | rfl | (simp only [List.length_drop, List.length_take]; rfl)) ?_; (with_reducible refine (record_GetDescriptor.calls _ _ t123 (l0.length : Int) a1_0 a1_1 a1_2 a1_3 a1_4 (Go.bits .xor .u32 a1_5 1) a1_6 a1_7 a1_8 a1_9 t131 t132 _ ?side1 ?side2 A46.out).mono ?_); (case side1 => refine (Kd.R_reads' (e := 5) (base := w.heap.size) (ok := fun k_ => True) (n := t123.length) (c := co33) ?_).2.2; exact (by (with_reducible repeat (first | apply Kd.R_alloc | apply Kd.R_drewN | apply Kd.R_drew)); exact (Kd.R_mono (Kd.R_far (p := ⟨gb130, 5, none⟩) (Kd.R_types HO_12.out BK130.out (by decide)) (fun _ hk => hk.2) (.int .u32 (Go.bits .xor .u32 a1_5 1))) (fun _ h_ => h_.1)))); (case side2 => exact (Kd.R_reads' HO_12.out).2.1); rintro e w74 ⟨rfl, hb⟩; refine ⟨_, rfl, ?_⟩; have n0_ := Aside0.mk (Kd.R_below (by (with_reducible repeat (first | apply Kd.R_alloc | apply Kd.R_drewN | apply Kd.R_drew)); exact (Kd.R_mono (Kd.R_far (p := ⟨gb130, 5, none⟩) (Kd.R_types HO_12.out BK130.out (by decide)) (fun _ hk => hk.2) (.int .u32 (Go.bits .xor .u32 a1_5 1))) (fun _ h_ => h_.1))) hb); have n1_ := Aside0.mk (blk_below (g := gb113) (o := .cells #[.int .i64 a1_0, .int .i64 a1_1, .int .i64 a1_2, .int .i64 a1_3, .int .i64 a1_4, .int .u32 a1_5, .int .i64 a1_6, .int .i64 a1_7, .string a1_8, .string a1_9] 24 (0, 0)) (by (with_reducible repeat (first | refine blk_drewN ?_ _ | refine blk_drew ?_ | refine blk_alloc ?_ _)); refine blk_far ?_ NB113_130.out _; (with_reducible repeat (first | refine blk_drewN ?_ _ | refine blk_drew ?_ | refine blk_alloc ?_ _)); exact BK113.out) hb); have n2_ := Aside0.mk (blk_below (g := gb130) (o := .cells #[.int .i64 a1_0, .int .i64 a1_1, .int .i64 a1_2, .int .i64 a1_3, .int .i64 a1_4, .int .u32 (Go.bits .xor .u32 a1_5 1), .int .i64 a1_6, .int .i64 a1_7, .string a1_8, .string a1_9] 24 (0, 0)) (by (with_reducible repeat (first | refine blk_drewN ?_ _ | refine blk_drew ?_ | refine blk_alloc ?_ _)); refine blk_put (cs := #[.int .i64 a1_0, .int .i64 a1_1, .int .i64 a1_2, .int .i64 a1_3, .int .i64 a1_4, .int .u32 a1_5, .int .i64 a1_6, .int .i64 a1_7, .string a1_8, .string a1_9]) ?_ 5 _ rfl; (with_reducible repeat (first | refine blk_drewN ?_ _ | refine blk_drew ?_ | refine blk_alloc ?_ _)); exact BK130.out) hb); have n3_ := Aside0.mk (below_step (by repeat (first | (with_reducible first | exact HB.out | apply below_alloc | apply pw_below_drewN | apply below_drew1 | refine below_set ?_ GE113.out | refine below_set ?_ GE130.out) | exact HB.out)) hb); clear HO_12; clear BK113; clear BK130; clear HB; have HO_12 := n0_; have BK113 := n1_; have BK130 := n2_; have HB := n3_; clear n0_ n1_ n2_ n3_; (try clear hb); (try clear hb2); (try clear hk); (try clear hi)))
                                    go_ret
                                    exact ⟨by first | rfl | (simp [errW_none, errW_some] <;> rfl) | (simp [*, errW_none, errW_some] <;> rfl), by repeat (first | (with_reducible first | exact HB.out | apply below_alloc | apply pw_below_drewN | apply below_drew1 | refine below_set ?_ GE113.out | refine below_set ?_ GE130.out) | exact HB.out)⟩
                                · rw [if_neg c45] at H
                                  have c45b0 : (t128 == 12) = false := beq_eq_false_iff_ne.mpr c45
                                  have c45b1 : (t128 != 12) = true := bne_iff_ne.mpr c45
                                  obtain rfl := Option.some.inj H
                                  have hcz75_0 : wc.cell? ⟨gb113, 0, none⟩ = some (.int .i64 a1_0) := (blk_cell BK113.out 0).trans rfl
                                  have hcz75_1 : wc.cell? ⟨gb113, 1, none⟩ = some (.int .i64 a1_1) := (blk_cell BK113.out 1).trans rfl
                                  have hcz75_2 : wc.cell? ⟨gb113, 2, none⟩ = some (.int .i64 a1_2) := (blk_cell BK113.out 2).trans rfl
                                  have hcz75_3 : wc.cell? ⟨gb113, 3, none⟩ = some (.int .i64 a1_3) := (blk_cell BK113.out 3).trans rfl
                                  have hcz75_4 : wc.cell? ⟨gb113, 4, none⟩ = some (.int .i64 a1_4) := (blk_cell BK113.out 4).trans rfl
                                  have hcz75_5 : wc.cell? ⟨gb113, 5, none⟩ = some (.int .u32 a1_5) := (blk_cell BK113.out 5).trans rfl
                                  have hcz75_6 : wc.cell? ⟨gb113, 6, none⟩ = some (.int .i64 a1_6) := (blk_cell BK113.out 6).trans rfl
                                  have hcz75_7 : wc.cell? ⟨gb113, 7, none⟩ = some (.int .i64 a1_7) := (blk_cell BK113.out 7).trans rfl
                                  have hcz75_8 : wc.cell? ⟨gb113, 8, none⟩ = some (.string a1_8) := (blk_cell BK113.out 8).trans rfl
                                  have hcz75_9 : wc.cell? ⟨gb113, 9, none⟩ = some (.string a1_9) := (blk_cell BK113.out 9).trans rfl
                                  have hfz75_0 := blk_frozen BK113.out 0
                                  have hfz75_1 := blk_frozen BK113.out 1
                                  have hfz75_2 := blk_frozen BK113.out 2
                                  have hfz75_3 := blk_frozen BK113.out 3
                                  have hfz75_4 := blk_frozen BK113.out 4
                                  have hfz75_5 := blk_frozen BK113.out 5
                                  have hfz75_6 := blk_frozen BK113.out 6
                                  have hfz75_7 := blk_frozen BK113.out 7
                                  have hfz75_8 := blk_frozen BK113.out 8
                                  have hfz75_9 := blk_frozen BK113.out 9
                                  go_wp2_with (first | ((with_reducible refine gate_callee (f := 18) rfl ?_); refine goesL_ (some 85) rfl rfl Try.func18 (by kernel_rfl) rfl #[.slice Ao33 t123.length co33, .int .i64 (wrap64 ((l0.length : Int) + 4)), .agg #[.int .i64 a1_0, .int .i64 a1_1, .int .i64 a1_2, .int .i64 a1_3, .int .i64 a1_4, .int .u32 a1_5, .int .i64 a1_6, .int .i64 a1_7, .string a1_8, .string a1_9]] rfl (by (try simp only [List.map_toArray, List.map_cons, List.map_nil]); first | done | rfl | (simp only [List.length_drop, List.length_take]; rfl)) ?_; (with_reducible refine (record_GetDescriptor.calls _ _ t123 (wrap64 ((l0.length : Int) + 4)) a1_0 a1_1 a1_2 a1_3 a1_4 a1_5 a1_6 a1_7 a1_8 a1_9 t128 t129 _ ?side1 ?side2 A43.out).mono ?_); (case side1 => repeat (first | exact (Kd.R_reads' HO_12.out).2.2 | (with_reducible refine Kd.C_alloc ?_ _) | (with_reducible refine Kd.C_drewN ?_ _) | (with_reducible refine Kd.C_drew ?_))); (case side2 => exact (Kd.R_reads' HO_12.out).2.1); rintro e w76 ⟨rfl, hb⟩; refine ⟨_, rfl, ?_⟩; have n0_ := Aside0.mk (Kd.R_below (by (with_reducible repeat (first | apply Kd.R_alloc | apply Kd.R_drewN | apply Kd.R_drew)); exact HO_12.out) hb); have n1_ := Aside0.mk (blk_below (g := gb113) (o := .cells #[.int .i64 a1_0, .int .i64 a1_1, .int .i64 a1_2, .int .i64 a1_3, .int .i64 a1_4, .int .u32 a1_5, .int .i64 a1_6, .int .i64 a1_7, .string a1_8, .string a1_9] 24 (0, 0)) (by (with_reducible repeat (first | refine blk_drewN ?_ _ | refine blk_drew ?_ | refine blk_alloc ?_ _)); exact BK113.out) hb); have n2_ := Aside0.mk (below_step (by repeat (first | (with_reducible first | exact HB.out | apply below_alloc | apply pw_below_drewN | apply below_drew1 | refine below_set ?_ GE113.out) | exact HB.out)) hb); clear HO_12; clear BK113; clear HB; have HO_12 := n0_; have BK113 := n1_; have HB := n2_; clear n0_ n1_ n2_; (try clear hb); (try clear hb2); (try clear hk); (try clear hi)))
                                  go_ret
                                  exact ⟨by first | rfl | (simp [errW_none, errW_some] <;> rfl) | (simp [*, errW_none, errW_some] <;> rfl), by repeat (first | (with_reducible first | exact HB.out | apply below_alloc | apply pw_below_drewN | apply below_drew1 | refine below_set ?_ GE113.out) | exact HB.out)⟩
                              · rw [if_neg c44] at H
                                have c44b0 : (t129 == 0) = false := beq_eq_false_iff_ne.mpr c44
                                have c44b1 : (t129 != 0) = true := bne_iff_ne.mpr c44
                                obtain rfl := Option.some.inj H
                                have hcz77_0 : wc.cell? ⟨gb113, 0, none⟩ = some (.int .i64 a1_0) := (blk_cell BK113.out 0).trans rfl
                                have hcz77_1 : wc.cell? ⟨gb113, 1, none⟩ = some (.int .i64 a1_1) := (blk_cell BK113.out 1).trans rfl
                                have hcz77_2 : wc.cell? ⟨gb113, 2, none⟩ = some (.int .i64 a1_2) := (blk_cell BK113.out 2).trans rfl
                                have hcz77_3 : wc.cell? ⟨gb113, 3, none⟩ = some (.int .i64 a1_3) := (blk_cell BK113.out 3).trans rfl
                                have hcz77_4 : wc.cell? ⟨gb113, 4, none⟩ = some (.int .i64 a1_4) := (blk_cell BK113.out 4).trans rfl
                                have hcz77_5 : wc.cell? ⟨gb113, 5, none⟩ = some (.int .u32 a1_5) := (blk_cell BK113.out 5).trans rfl
                                have hcz77_6 : wc.cell? ⟨gb113, 6, none⟩ = some (.int .i64 a1_6) := (blk_cell BK113.out 6).trans rfl
                                have hcz77_7 : wc.cell? ⟨gb113, 7, none⟩ = some (.int .i64 a1_7) := (blk_cell BK113.out 7).trans rfl
                                have hcz77_8 : wc.cell? ⟨gb113, 8, none⟩ = some (.string a1_8) := (blk_cell BK113.out 8).trans rfl
                                have hcz77_9 : wc.cell? ⟨gb113, 9, none⟩ = some (.string a1_9) := (blk_cell BK113.out 9).trans rfl
                                have hfz77_0 := blk_frozen BK113.out 0
                                have hfz77_1 := blk_frozen BK113.out 1
                                have hfz77_2 := blk_frozen BK113.out 2
                                have hfz77_3 := blk_frozen BK113.out 3
                                have hfz77_4 := blk_frozen BK113.out 4
                                have hfz77_5 := blk_frozen BK113.out 5
                                have hfz77_6 := blk_frozen BK113.out 6
                                have hfz77_7 := blk_frozen BK113.out 7
                                have hfz77_8 := blk_frozen BK113.out 8
                                have hfz77_9 := blk_frozen BK113.out 9
                                go_wp2_with (first | ((with_reducible refine gate_callee (f := 18) rfl ?_); refine goesL_ (some 85) rfl rfl Try.func18 (by kernel_rfl) rfl #[.slice Ao33 t123.length co33, .int .i64 (wrap64 ((l0.length : Int) + 4)), .agg #[.int .i64 a1_0, .int .i64 a1_1, .int .i64 a1_2, .int .i64 a1_3, .int .i64 a1_4, .int .u32 a1_5, .int .i64 a1_6, .int .i64 a1_7, .string a1_8, .string a1_9]] rfl (by (try simp only [List.map_toArray, List.map_cons, List.map_nil]); first | done | rfl | (simp only [List.length_drop, List.length_take]; rfl)) ?_; (with_reducible refine (record_GetDescriptor.calls _ _ t123 (wrap64 ((l0.length : Int) + 4)) a1_0 a1_1 a1_2 a1_3 a1_4 a1_5 a1_6 a1_7 a1_8 a1_9 t128 t129 _ ?side1 ?side2 A43.out).mono ?_); (case side1 => repeat (first | exact (Kd.R_reads' HO_12.out).2.2 | (with_reducible refine Kd.C_alloc ?_ _) | (with_reducible refine Kd.C_drewN ?_ _) | (with_reducible refine Kd.C_drew ?_))); (case side2 => exact (Kd.R_reads' HO_12.out).2.1); rintro e w78 ⟨rfl, hb⟩; refine ⟨_, rfl, ?_⟩; have n0_ := Aside0.mk (Kd.R_below (by (with_reducible repeat (first | apply Kd.R_alloc | apply Kd.R_drewN | apply Kd.R_drew)); exact HO_12.out) hb); have n1_ := Aside0.mk (blk_below (g := gb113) (o := .cells #[.int .i64 a1_0, .int .i64 a1_1, .int .i64 a1_2, .int .i64 a1_3, .int .i64 a1_4, .int .u32 a1_5, .int .i64 a1_6, .int .i64 a1_7, .string a1_8, .string a1_9] 24 (0, 0)) (by (with_reducible repeat (first | refine blk_drewN ?_ _ | refine blk_drew ?_ | refine blk_alloc ?_ _)); exact BK113.out) hb); have n2_ := Aside0.mk (below_step (by repeat (first | (with_reducible first | exact HB.out | apply below_alloc | apply pw_below_drewN | apply below_drew1 | refine below_set ?_ GE113.out) | exact HB.out)) hb); clear HO_12; clear BK113; clear HB; have HO_12 := n0_; have BK113 := n1_; have HB := n2_; clear n0_ n1_ n2_; (try clear hb); (try clear hb2); (try clear hk); (try clear hi)))
                                go_ret
                                exact ⟨by first | rfl | (simp [errW_none, errW_some] <;> rfl) | (simp [*, errW_none, errW_some] <;> rfl), by repeat (first | (with_reducible first | exact HB.out | apply below_alloc | apply pw_below_drewN | apply below_drew1 | refine below_set ?_ GE113.out) | exact HB.out)⟩
                            · replace c42 := Bool.eq_false_iff.mpr c42
                              subst c42
                              have H1 : ((record_GetDescriptor.f t123 (l0.length : Int) a1_0 a1_1 a1_2 a1_3 a1_4 (Go.bits .xor .u32 a1_5 1) a1_6 a1_7 a1_8 a1_9).bind fun bt134 => (if bt134.2 = 0 then (if a1_5 = 134695760 then (some true) else (some (a1_5 == 134695761))) else (some true))) = some r := by rw [if_neg (show ¬ (false = true) by decide)] at H; exact H
                              clear H
                              have H := H1
                              clear H1
                              replace H := Option.bind_eq_some_iff.mp H
                              obtain ⟨⟨t134, t135⟩, A790, H⟩ := H
                              replace H : (if t135 = 0 then (if a1_5 = 134695760 then (some true) else (some (a1_5 == 134695761))) else (some true)) = some r := H
                              have A79 := Aside0.mk A790
                              clear A790
                              by_cases c80 : t135 = 0
                              · rw [if_pos c80] at H
                                have c80b0 : (t135 == 0) = true := beq_iff_eq.mpr c80
                                have c80b1 : (t135 != 0) = false := bne_eq_false_iff_eq.mpr c80
                                clear c80
                                by_cases c81 : a1_5 = 134695760
                                · rw [if_pos c81] at H
                                  have c81b0 : (a1_5 == 134695760) = true := beq_iff_eq.mpr c81
                                  have c81b1 : (a1_5 != 134695760) = false := bne_eq_false_iff_eq.mpr c81
                                  clear c81
                                  obtain rfl := Option.some.inj H
                                  have hcz82_0 : wc.cell? ⟨gb113, 0, none⟩ = some (.int .i64 a1_0) := (blk_cell BK113.out 0).trans rfl
                                  have hcz82_1 : wc.cell? ⟨gb113, 1, none⟩ = some (.int .i64 a1_1) := (blk_cell BK113.out 1).trans rfl
                                  have hcz82_2 : wc.cell? ⟨gb113, 2, none⟩ = some (.int .i64 a1_2) := (blk_cell BK113.out 2).trans rfl
                                  have hcz82_3 : wc.cell? ⟨gb113, 3, none⟩ = some (.int .i64 a1_3) := (blk_cell BK113.out 3).trans rfl
                                  have hcz82_4 : wc.cell? ⟨gb113, 4, none⟩ = some (.int .i64 a1_4) := (blk_cell BK113.out 4).trans rfl
                                  have hcz82_5 : wc.cell? ⟨gb113, 5, none⟩ = some (.int .u32 a1_5) := (blk_cell BK113.out 5).trans rfl
                                  have hcz82_6 : wc.cell? ⟨gb113, 6, none⟩ = some (.int .i64 a1_6) := (blk_cell BK113.out 6).trans rfl
                                  have hcz82_7 : wc.cell? ⟨gb113, 7, none⟩ = some (.int .i64 a1_7) := (blk_cell BK113.out 7).trans rfl
                                  have hcz82_8 : wc.cell? ⟨gb113, 8, none⟩ = some (.string a1_8) := (blk_cell BK113.out 8).trans rfl
                                  have hcz82_9 : wc.cell? ⟨gb113, 9, none⟩ = some (.string a1_9) := (blk_cell BK113.out 9).trans rfl
                                  have hfz82_0 := blk_frozen BK113.out 0
                                  have hfz82_1 := blk_frozen BK113.out 1
                                  have hfz82_2 := blk_frozen BK113.out 2
                                  have hfz82_3 := blk_frozen BK113.out 3
                                  have hfz82_4 := blk_frozen BK113.out 4
                                  have hfz82_5 := blk_frozen BK113.out 5
                                  have hfz82_6 := blk_frozen BK113.out 6
                                  have hfz82_7 := blk_frozen BK113.out 7
                                  have hfz82_8 := blk_frozen BK113.out 8
                                  have hfz82_9 := blk_frozen BK113.out 9
                                  go_wp2_with (first | ((with_reducible refine gate_dst (N := 15) rfl ?_); (try (refine gate_guard (by rfl) ?_; dsimp only)); refine box2_event ?hg (N := 15) ?hd ?hg2 (zs := #[.int .i64 0, .int .i64 0, .int .i64 0, .int .i64 0, .int .i64 0, .int .u32 0, .int .i64 0, .int .i64 0, .string (⟨#[]⟩ : ByteArray), .string (⟨#[]⟩ : ByteArray)]) (cs := [.int .i64 a1_0, .int .i64 a1_1, .int .i64 a1_2, .int .i64 a1_3, .int .i64 a1_4, .int .u32 a1_5, .int .i64 a1_6, .int .i64 a1_7, .string a1_8, .string a1_9]) (t := 24) (.tmp 94) ?ho2 ?hr ?hx ?hy info24 ?hn ?hold ?h1 ?_; (case hd => rfl); (case hg => rfl); (case hg2 => rfl); (case ho2 => rfl); (case hr => first | (go_simp; done) | (go_simp; rfl)); (case hx => rfl); (case hy => first | rfl | (go_simp; done) | (go_simp; rfl)); (case hn => rfl); (case hold => rfl); (case h1 => rfl); intro gb133 hg w83 hbox hb; have n0_ := Aside0.mk (Kd.R_below (by (with_reducible repeat (first | apply Kd.R_alloc | apply Kd.R_drewN | apply Kd.R_drew)); exact HO_12.out) hb); have n1_ := Aside0.mk (blk_below (g := gb113) (o := .cells #[.int .i64 a1_0, .int .i64 a1_1, .int .i64 a1_2, .int .i64 a1_3, .int .i64 a1_4, .int .u32 a1_5, .int .i64 a1_6, .int .i64 a1_7, .string a1_8, .string a1_9] 24 (0, 0)) (by (with_reducible repeat (first | refine blk_drewN ?_ _ | refine blk_drew ?_ | refine blk_alloc ?_ _)); exact BK113.out) hb); have n2_ := Aside0.mk (below_step (by repeat (first | (with_reducible first | exact HB.out | apply below_alloc | apply pw_below_drewN | apply below_drew1 | refine below_set ?_ GE113.out) | exact HB.out)) hb); have n3_ := Aside0.mk (hbox); have n4_ := Aside0.mk ((by rw [hg]; exact (below_size (by repeat (first | (with_reducible first | exact HB.out | apply below_alloc | apply pw_below_drewN | apply below_drew1 | refine below_set ?_ GE113.out) | exact HB.out))) : w.heap.size ≤ gb133)); have n5_ := Aside0.mk ((by rw [hg]; exact (below_size (by repeat (first | (with_reducible first | exact HB.out | apply below_alloc | apply pw_below_drewN | apply below_drew1 | refine below_set ?_ GE113.out) | exact HB.out))) : w.heap.size ≤ gb133)); have n6_ := Aside0.mk ((by rw [hg]; exact Nat.ne_of_lt (blk_lt (g := gb113) (o := .cells #[.int .i64 a1_0, .int .i64 a1_1, .int .i64 a1_2, .int .i64 a1_3, .int .i64 a1_4, .int .u32 a1_5, .int .i64 a1_6, .int .i64 a1_7, .string a1_8, .string a1_9] 24 (0, 0)) (by (with_reducible repeat (first | refine blk_drewN ?_ _ | refine blk_drew ?_ | refine blk_alloc ?_ _)); exact BK113.out)) : gb113 ≠ gb133)); have n7_ := Aside0.mk ((by rw [hg]; exact Nat.ne_of_gt (blk_lt (g := gb113) (o := .cells #[.int .i64 a1_0, .int .i64 a1_1, .int .i64 a1_2, .int .i64 a1_3, .int .i64 a1_4, .int .u32 a1_5, .int .i64 a1_6, .int .i64 a1_7, .string a1_8, .string a1_9] 24 (0, 0)) (by (with_reducible repeat (first | refine blk_drewN ?_ _ | refine blk_drew ?_ | refine blk_alloc ?_ _)); exact BK113.out)) : gb133 ≠ gb113)); clear HO_12; clear BK113; clear HB; have HO_12 := n0_; have BK113 := n1_; have HB := n2_; have BK133 := n3_; have GW133 := n4_; have GE133 := n5_; have NB113_133 := n6_; have NB133_113 := n7_; clear n0_ n1_ n2_ n3_ n4_ n5_ n6_ n7_; clear hb hbox hg; have hnb84 := NB113_133.out; have hnc84 := NB133_113.out; have hcz85_0 : w83.cell? ⟨gb113, 0, none⟩ = some (.int .i64 a1_0) := (blk_cell BK113.out 0).trans rfl; have hcz85_1 : w83.cell? ⟨gb113, 1, none⟩ = some (.int .i64 a1_1) := (blk_cell BK113.out 1).trans rfl; have hcz85_2 : w83.cell? ⟨gb113, 2, none⟩ = some (.int .i64 a1_2) := (blk_cell BK113.out 2).trans rfl; have hcz85_3 : w83.cell? ⟨gb113, 3, none⟩ = some (.int .i64 a1_3) := (blk_cell BK113.out 3).trans rfl; have hcz85_4 : w83.cell? ⟨gb113, 4, none⟩ = some (.int .i64 a1_4) := (blk_cell BK113.out 4).trans rfl; have hcz85_5 : w83.cell? ⟨gb113, 5, none⟩ = some (.int .u32 a1_5) := (blk_cell BK113.out 5).trans rfl; have hcz85_6 : w83.cell? ⟨gb113, 6, none⟩ = some (.int .i64 a1_6) := (blk_cell BK113.out 6).trans rfl; have hcz85_7 : w83.cell? ⟨gb113, 7, none⟩ = some (.int .i64 a1_7) := (blk_cell BK113.out 7).trans rfl; have hcz85_8 : w83.cell? ⟨gb113, 8, none⟩ = some (.string a1_8) := (blk_cell BK113.out 8).trans rfl; have hcz85_9 : w83.cell? ⟨gb113, 9, none⟩ = some (.string a1_9) := (blk_cell BK113.out 9).trans rfl; have hfz85_0 := blk_frozen BK113.out 0; have hfz85_1 := blk_frozen BK113.out 1; have hfz85_2 := blk_frozen BK113.out 2; have hfz85_3 := blk_frozen BK113.out 3; have hfz85_4 := blk_frozen BK113.out 4; have hfz85_5 := blk_frozen BK113.out 5; have hfz85_6 := blk_frozen BK113.out 6; have hfz85_7 := blk_frozen BK113.out 7; have hfz85_8 := blk_frozen BK113.out 8; have hfz85_9 := blk_frozen BK113.out 9; have hcz86_0 : w83.cell? ⟨gb133, 0, none⟩ = some (.int .i64 a1_0) := (blk_cell BK133.out 0).trans rfl; have hcz86_1 : w83.cell? ⟨gb133, 1, none⟩ = some (.int .i64 a1_1) := (blk_cell BK133.out 1).trans rfl; have hcz86_2 : w83.cell? ⟨gb133, 2, none⟩ = some (.int .i64 a1_2) := (blk_cell BK133.out 2).trans rfl; have hcz86_3 : w83.cell? ⟨gb133, 3, none⟩ = some (.int .i64 a1_3) := (blk_cell BK133.out 3).trans rfl; have hcz86_4 : w83.cell? ⟨gb133, 4, none⟩ = some (.int .i64 a1_4) := (blk_cell BK133.out 4).trans rfl; have hcz86_5 : w83.cell? ⟨gb133, 5, none⟩ = some (.int .u32 a1_5) := (blk_cell BK133.out 5).trans rfl; have hcz86_6 : w83.cell? ⟨gb133, 6, none⟩ = some (.int .i64 a1_6) := (blk_cell BK133.out 6).trans rfl; have hcz86_7 : w83.cell? ⟨gb133, 7, none⟩ = some (.int .i64 a1_7) := (blk_cell BK133.out 7).trans rfl; have hcz86_8 : w83.cell? ⟨gb133, 8, none⟩ = some (.string a1_8) := (blk_cell BK133.out 8).trans rfl; have hcz86_9 : w83.cell? ⟨gb133, 9, none⟩ = some (.string a1_9) := (blk_cell BK133.out 9).trans rfl; have hfz86_0 := blk_frozen BK133.out 0; have hfz86_1 := blk_frozen BK133.out 1; have hfz86_2 := blk_frozen BK133.out 2; have hfz86_3 := blk_frozen BK133.out 3; have hfz86_4 := blk_frozen BK133.out 4; have hfz86_5 := blk_frozen BK133.out 5; have hfz86_6 := blk_frozen BK133.out 6; have hfz86_7 := blk_frozen BK133.out 7; have hfz86_8 := blk_frozen BK133.out 8; have hfz86_9 := blk_frozen BK133.out 9) | ((with_reducible refine gate_callee (f := 18) rfl ?_); refine goesL_ (some 104) rfl rfl Try.func18 (by kernel_rfl) rfl #[.slice Ao33 t123.length co33, .int .i64 (l0.length : Int), .agg #[.int .i64 a1_0, .int .i64 a1_1, .int .i64 a1_2, .int .i64 a1_3, .int .i64 a1_4, .int .u32 (Go.bits .xor .u32 a1_5 1), .int .i64 a1_6, .int .i64 a1_7, .string a1_8, .string a1_9]] rfl (by (try simp only [List.map_toArray, List.map_cons, List.map_nil]); first | done | rfl | (simp only [List.length_drop, List.length_take]; rfl)) ?_; (with_reducible refine (record_GetDescriptor.calls _ _ t123 (l0.length : Int) a1_0 a1_1 a1_2 a1_3 a1_4 (Go.bits .xor .u32 a1_5 1) a1_6 a1_7 a1_8 a1_9 t134 t135 _ ?side1 ?side2 A79.out).mono ?_); (case side1 => refine (Kd.R_reads' (e := 5) (base := w.heap.size) (ok := fun k_ => True) (n := t123.length) (c := co33) ?_).2.2; exact (by (with_reducible repeat (first | apply Kd.R_alloc | apply Kd.R_drewN | apply Kd.R_drew)); exact (Kd.R_mono (Kd.R_far (p := ⟨gb133, 5, none⟩) (Kd.R_types HO_12.out BK133.out (by decide)) (fun _ hk => hk.2) (.int .u32 (Go.bits .xor .u32 a1_5 1))) (fun _ h_ => h_.1)))); (case side2 => exact (Kd.R_reads' HO_12.out).2.1); rintro e w87 ⟨rfl, hb⟩; refine ⟨_, rfl, ?_⟩; have n0_ := Aside0.mk (Kd.R_below (by (with_reducible repeat (first | apply Kd.R_alloc | apply Kd.R_drewN | apply Kd.R_drew)); exact (Kd.R_mono (Kd.R_far (p := ⟨gb133, 5, none⟩) (Kd.R_types HO_12.out BK133.out (by decide)) (fun _ hk => hk.2) (.int .u32 (Go.bits .xor .u32 a1_5 1))) (fun _ h_ => h_.1))) hb); have n1_ := Aside0.mk (blk_below (g := gb113) (o := .cells #[.int .i64 a1_0, .int .i64 a1_1, .int .i64 a1_2, .int .i64 a1_3, .int .i64 a1_4, .int .u32 a1_5, .int .i64 a1_6, .int .i64 a1_7, .string a1_8, .string a1_9] 24 (0, 0)) (by (with_reducible repeat (first | refine blk_drewN ?_ _ | refine blk_drew ?_ | refine blk_alloc ?_ _)); refine blk_far ?_ NB113_133.out _; (with_reducible repeat (first | refine blk_drewN ?_ _ | refine blk_drew ?_ | refine blk_alloc ?_ _)); exact BK113.out) hb); have n2_ := Aside0.mk (blk_below (g := gb133) (o := .cells #[.int .i64 a1_0, .int .i64 a1_1, .int .i64 a1_2, .int .i64 a1_3, .int .i64 a1_4, .int .u32 (Go.bits .xor .u32 a1_5 1), .int .i64 a1_6, .int .i64 a1_7, .string a1_8, .string a1_9] 24 (0, 0)) (by (with_reducible repeat (first | refine blk_drewN ?_ _ | refine blk_drew ?_ | refine blk_alloc ?_ _)); refine blk_put (cs := #[.int .i64 a1_0, .int .i64 a1_1, .int .i64 a1_2, .int .i64 a1_3, .int .i64 a1_4, .int .u32 a1_5, .int .i64 a1_6, .int .i64 a1_7, .string a1_8, .string a1_9]) ?_ 5 _ rfl; (with_reducible repeat (first | refine blk_drewN ?_ _ | refine blk_drew ?_ | refine blk_alloc ?_ _)); exact BK133.out) hb); have n3_ := Aside0.mk (below_step (by repeat (first | (with_reducible first | exact HB.out | apply below_alloc | apply pw_below_drewN | apply below_drew1 | refine below_set ?_ GE113.out | refine below_set ?_ GE133.out) | exact HB.out)) hb); clear HO_12; clear BK113; clear BK133; clear HB; have HO_12 := n0_; have BK113 := n1_; have BK133 := n2_; have HB := n3_; clear n0_ n1_ n2_ n3_; (try clear hb); (try clear hb2); (try clear hk); (try clear hi); have hcz88_0 : w87.cell? ⟨gb113, 0, none⟩ = some (.int .i64 a1_0) := (blk_cell BK113.out 0).trans rfl; have hcz88_1 : w87.cell? ⟨gb113, 1, none⟩ = some (.int .i64 a1_1) := (blk_cell BK113.out 1).trans rfl; have hcz88_2 : w87.cell? ⟨gb113, 2, none⟩ = some (.int .i64 a1_2) := (blk_cell BK113.out 2).trans rfl; have hcz88_3 : w87.cell? ⟨gb113, 3, none⟩ = some (.int .i64 a1_3) := (blk_cell BK113.out 3).trans rfl; have hcz88_4 : w87.cell? ⟨gb113, 4, none⟩ = some (.int .i64 a1_4) := (blk_cell BK113.out 4).trans rfl; have hcz88_5 : w87.cell? ⟨gb113, 5, none⟩ = some (.int .u32 a1_5) := (blk_cell BK113.out 5).trans rfl; have hcz88_6 : w87.cell? ⟨gb113, 6, none⟩ = some (.int .i64 a1_6) := (blk_cell BK113.out 6).trans rfl; have hcz88_7 : w87.cell? ⟨gb113, 7, none⟩ = some (.int .i64 a1_7) := (blk_cell BK113.out 7).trans rfl; have hcz88_8 : w87.cell? ⟨gb113, 8, none⟩ = some (.string a1_8) := (blk_cell BK113.out 8).trans rfl; have hcz88_9 : w87.cell? ⟨gb113, 9, none⟩ = some (.string a1_9) := (blk_cell BK113.out 9).trans rfl; have hfz88_0 := blk_frozen BK113.out 0; have hfz88_1 := blk_frozen BK113.out 1; have hfz88_2 := blk_frozen BK113.out 2; have hfz88_3 := blk_frozen BK113.out 3; have hfz88_4 := blk_frozen BK113.out 4; have hfz88_5 := blk_frozen BK113.out 5; have hfz88_6 := blk_frozen BK113.out 6; have hfz88_7 := blk_frozen BK113.out 7; have hfz88_8 := blk_frozen BK113.out 8; have hfz88_9 := blk_frozen BK113.out 9))
                                  go_ret
                                  exact ⟨by first | rfl | (simp [errW_none, errW_some] <;> rfl) | (simp [*, errW_none, errW_some] <;> rfl), by repeat (first | (with_reducible first | exact HB.out | apply below_alloc | apply pw_below_drewN | apply below_drew1 | refine below_set ?_ GE113.out | refine below_set ?_ GE133.out) | exact HB.out)⟩
                                · rw [if_neg c81] at H
                                  have c81b0 : (a1_5 == 134695760) = false := beq_eq_false_iff_ne.mpr c81
                                  have c81b1 : (a1_5 != 134695760) = true := bne_iff_ne.mpr c81
                                  obtain rfl := Option.some.inj H
                                  have hcz89_0 : wc.cell? ⟨gb113, 0, none⟩ = some (.int .i64 a1_0) := (blk_cell BK113.out 0).trans rfl
                                  have hcz89_1 : wc.cell? ⟨gb113, 1, none⟩ = some (.int .i64 a1_1) := (blk_cell BK113.out 1).trans rfl
                                  have hcz89_2 : wc.cell? ⟨gb113, 2, none⟩ = some (.int .i64 a1_2) := (blk_cell BK113.out 2).trans rfl
                                  have hcz89_3 : wc.cell? ⟨gb113, 3, none⟩ = some (.int .i64 a1_3) := (blk_cell BK113.out 3).trans rfl
                                  have hcz89_4 : wc.cell? ⟨gb113, 4, none⟩ = some (.int .i64 a1_4) := (blk_cell BK113.out 4).trans rfl
                                  have hcz89_5 : wc.cell? ⟨gb113, 5, none⟩ = some (.int .u32 a1_5) := (blk_cell BK113.out 5).trans rfl
                                  have hcz89_6 : wc.cell? ⟨gb113, 6, none⟩ = some (.int .i64 a1_6) := (blk_cell BK113.out 6).trans rfl
                                  have hcz89_7 : wc.cell? ⟨gb113, 7, none⟩ = some (.int .i64 a1_7) := (blk_cell BK113.out 7).trans rfl
                                  have hcz89_8 : wc.cell? ⟨gb113, 8, none⟩ = some (.string a1_8) := (blk_cell BK113.out 8).trans rfl
                                  have hcz89_9 : wc.cell? ⟨gb113, 9, none⟩ = some (.string a1_9) := (blk_cell BK113.out 9).trans rfl
                                  have hfz89_0 := blk_frozen BK113.out 0
                                  have hfz89_1 := blk_frozen BK113.out 1
                                  have hfz89_2 := blk_frozen BK113.out 2
                                  have hfz89_3 := blk_frozen BK113.out 3
                                  have hfz89_4 := blk_frozen BK113.out 4
                                  have hfz89_5 := blk_frozen BK113.out 5
                                  have hfz89_6 := blk_frozen BK113.out 6
                                  have hfz89_7 := blk_frozen BK113.out 7
                                  have hfz89_8 := blk_frozen BK113.out 8
                                  have hfz89_9 := blk_frozen BK113.out 9
                                  go_wp2_with (first | ((with_reducible refine gate_dst (N := 15) rfl ?_); (try (refine gate_guard (by rfl) ?_; dsimp only)); refine box2_event ?hg (N := 15) ?hd ?hg2 (zs := #[.int .i64 0, .int .i64 0, .int .i64 0, .int .i64 0, .int .i64 0, .int .u32 0, .int .i64 0, .int .i64 0, .string (⟨#[]⟩ : ByteArray), .string (⟨#[]⟩ : ByteArray)]) (cs := [.int .i64 a1_0, .int .i64 a1_1, .int .i64 a1_2, .int .i64 a1_3, .int .i64 a1_4, .int .u32 a1_5, .int .i64 a1_6, .int .i64 a1_7, .string a1_8, .string a1_9]) (t := 24) (.tmp 94) ?ho2 ?hr ?hx ?hy info24 ?hn ?hold ?h1 ?_; (case hd => rfl); (case hg => rfl); (case hg2 => rfl); (case ho2 => rfl); (case hr => first | (go_simp; done) | (go_simp; rfl)); (case hx => rfl); (case hy => first | rfl | (go_simp; done) | (go_simp; rfl)); (case hn => rfl); (case hold => rfl); (case h1 => rfl); intro gb133 hg w90 hbox hb; have n0_ := Aside0.mk (Kd.R_below (by (with_reducible repeat (first | apply Kd.R_alloc | apply Kd.R_drewN | apply Kd.R_drew)); exact HO_12.out) hb); have n1_ := Aside0.mk (blk_below (g := gb113) (o := .cells #[.int .i64 a1_0, .int .i64 a1_1, .int .i64 a1_2, .int .i64 a1_3, .int .i64 a1_4, .int .u32 a1_5, .int .i64 a1_6, .int .i64 a1_7, .string a1_8, .string a1_9] 24 (0, 0)) (by (with_reducible repeat (first | refine blk_drewN ?_ _ | refine blk_drew ?_ | refine blk_alloc ?_ _)); exact BK113.out) hb); have n2_ := Aside0.mk (below_step (by repeat (first | (with_reducible first | exact HB.out | apply below_alloc | apply pw_below_drewN | apply below_drew1 | refine below_set ?_ GE113.out) | exact HB.out)) hb); have n3_ := Aside0.mk (hbox); have n4_ := Aside0.mk ((by rw [hg]; exact (below_size (by repeat (first | (with_reducible first | exact HB.out | apply below_alloc | apply pw_below_drewN | apply below_drew1 | refine below_set ?_ GE113.out) | exact HB.out))) : w.heap.size ≤ gb133)); have n5_ := Aside0.mk ((by rw [hg]; exact (below_size (by repeat (first | (with_reducible first | exact HB.out | apply below_alloc | apply pw_below_drewN | apply below_drew1 | refine below_set ?_ GE113.out) | exact HB.out))) : w.heap.size ≤ gb133)); have n6_ := Aside0.mk ((by rw [hg]; exact Nat.ne_of_lt (blk_lt (g := gb113) (o := .cells #[.int .i64 a1_0, .int .i64 a1_1, .int .i64 a1_2, .int .i64 a1_3, .int .i64 a1_4, .int .u32 a1_5, .int .i64 a1_6, .int .i64 a1_7, .string a1_8, .string a1_9] 24 (0, 0)) (by (with_reducible repeat (first | refine blk_drewN ?_ _ | refine blk_drew ?_ | refine blk_alloc ?_ _)); exact BK113.out)) : gb113 ≠ gb133)); have n7_ := Aside0.mk ((by rw [hg]; exact Nat.ne_of_gt (blk_lt (g := gb113) (o := .cells #[.int .i64 a1_0, .int .i64 a1_1, .int .i64 a1_2, .int .i64 a1_3, .int .i64 a1_4, .int .u32 a1_5, .int .i64 a1_6, .int .i64 a1_7, .string a1_8, .string a1_9] 24 (0, 0)) (by (with_reducible repeat (first | refine blk_drewN ?_ _ | refine blk_drew ?_ | refine blk_alloc ?_ _)); exact BK113.out)) : gb133 ≠ gb113)); clear HO_12; clear BK113; clear HB; have HO_12 := n0_; have BK113 := n1_; have HB := n2_; have BK133 := n3_; have GW133 := n4_; have GE133 := n5_; have NB113_133 := n6_; have NB133_113 := n7_; clear n0_ n1_ n2_ n3_ n4_ n5_ n6_ n7_; clear hb hbox hg; have hnb91 := NB113_133.out; have hnc91 := NB133_113.out; have hcz92_0 : w90.cell? ⟨gb113, 0, none⟩ = some (.int .i64 a1_0) := (blk_cell BK113.out 0).trans rfl; have hcz92_1 : w90.cell? ⟨gb113, 1, none⟩ = some (.int .i64 a1_1) := (blk_cell BK113.out 1).trans rfl; have hcz92_2 : w90.cell? ⟨gb113, 2, none⟩ = some (.int .i64 a1_2) := (blk_cell BK113.out 2).trans rfl; have hcz92_3 : w90.cell? ⟨gb113, 3, none⟩ = some (.int .i64 a1_3) := (blk_cell BK113.out 3).trans rfl; have hcz92_4 : w90.cell? ⟨gb113, 4, none⟩ = some (.int .i64 a1_4) := (blk_cell BK113.out 4).trans rfl; have hcz92_5 : w90.cell? ⟨gb113, 5, none⟩ = some (.int .u32 a1_5) := (blk_cell BK113.out 5).trans rfl; have hcz92_6 : w90.cell? ⟨gb113, 6, none⟩ = some (.int .i64 a1_6) := (blk_cell BK113.out 6).trans rfl; have hcz92_7 : w90.cell? ⟨gb113, 7, none⟩ = some (.int .i64 a1_7) := (blk_cell BK113.out 7).trans rfl; have hcz92_8 : w90.cell? ⟨gb113, 8, none⟩ = some (.string a1_8) := (blk_cell BK113.out 8).trans rfl; have hcz92_9 : w90.cell? ⟨gb113, 9, none⟩ = some (.string a1_9) := (blk_cell BK113.out 9).trans rfl; have hfz92_0 := blk_frozen BK113.out 0; have hfz92_1 := blk_frozen BK113.out 1; have hfz92_2 := blk_frozen BK113.out 2; have hfz92_3 := blk_frozen BK113.out 3; have hfz92_4 := blk_frozen BK113.out 4; have hfz92_5 := blk_frozen BK113.out 5; have hfz92_6 := blk_frozen BK113.out 6; have hfz92_7 := blk_frozen BK113.out 7; have hfz92_8 := blk_frozen BK113.out 8; have hfz92_9 := blk_frozen BK113.out 9; have hcz93_0 : w90.cell? ⟨gb133, 0, none⟩ = some (.int .i64 a1_0) := (blk_cell BK133.out 0).trans rfl; have hcz93_1 : w90.cell? ⟨gb133, 1, none⟩ = some (.int .i64 a1_1) := (blk_cell BK133.out 1).trans rfl; have hcz93_2 : w90.cell? ⟨gb133, 2, none⟩ = some (.int .i64 a1_2) := (blk_cell BK133.out 2).trans rfl; have hcz93_3 : w90.cell? ⟨gb133, 3, none⟩ = some (.int .i64 a1_3) := (blk_cell BK133.out 3).trans rfl; have hcz93_4 : w90.cell? ⟨gb133, 4, none⟩ = some (.int .i64 a1_4) := (blk_cell BK133.out 4).trans rfl; have hcz93_5 : w90.cell? ⟨gb133, 5, none⟩ = some (.int .u32 a1_5) := (blk_cell BK133.out 5).trans rfl; have hcz93_6 : w90.cell? ⟨gb133, 6, none⟩ = some (.int .i64 a1_6) := (blk_cell BK133.out 6).trans rfl; have hcz93_7 : w90.cell? ⟨gb133, 7, none⟩ = some (.int .i64 a1_7) := (blk_cell BK133.out 7).trans rfl; have hcz93_8 : w90.cell? ⟨gb133, 8, none⟩ = some (.string a1_8) := (blk_cell BK133.out 8).trans rfl; have hcz93_9 : w90.cell? ⟨gb133, 9, none⟩ = some (.string a1_9) := (blk_cell BK133.out 9).trans rfl; have hfz93_0 := blk_frozen BK133.out 0; have hfz93_1 := blk_frozen BK133.out 1; have hfz93_2 := blk_frozen BK133.out 2; have hfz93_3 := blk_frozen BK133.out 3; have hfz93_4 := blk_frozen BK133.out 4; have hfz93_5 := blk_frozen BK133.out 5; have hfz93_6 := blk_frozen BK133.out 6; have hfz93_7 := blk_frozen BK133.out 7; have hfz93_8 := blk_frozen BK133.out 8; have hfz93_9 := blk_frozen BK133.out 9) | ((with_reducible refine gate_callee (f := 18) rfl ?_); refine goesL_ (some 104) rfl rfl Try.func18 (by kernel_rfl) rfl #[.slice Ao33 t123.length co33, .int .i64 (l0.length : Int), .agg #[.int .i64 a1_0, .int .i64 a1_1, .int .i64 a1_2, .int .i64 a1_3, .int .i64 a1_4, .int .u32 (Go.bits .xor .u32 a1_5 1), .int .i64 a1_6, .int .i64 a1_7, .string a1_8, .string a1_9]] rfl (by (try simp only [List.map_toArray, List.map_cons, List.map_nil]); first | done | rfl | (simp only [List.length_drop, List.length_take]; rfl)) ?_; (with_reducible refine (record_GetDescriptor.calls _ _ t123 (l0.length : Int) a1_0 a1_1 a1_2 a1_3 a1_4 (Go.bits .xor .u32 a1_5 1) a1_6 a1_7 a1_8 a1_9 t134 t135 _ ?side1 ?side2 A79.out).mono ?_); (case side1 => refine (Kd.R_reads' (e := 5) (base := w.heap.size) (ok := fun k_ => True) (n := t123.length) (c := co33) ?_).2.2; exact (by (with_reducible repeat (first | apply Kd.R_alloc | apply Kd.R_drewN | apply Kd.R_drew)); exact (Kd.R_mono (Kd.R_far (p := ⟨gb133, 5, none⟩) (Kd.R_types HO_12.out BK133.out (by decide)) (fun _ hk => hk.2) (.int .u32 (Go.bits .xor .u32 a1_5 1))) (fun _ h_ => h_.1)))); (case side2 => exact (Kd.R_reads' HO_12.out).2.1); rintro e w94 ⟨rfl, hb⟩; refine ⟨_, rfl, ?_⟩; have n0_ := Aside0.mk (Kd.R_below (by (with_reducible repeat (first | apply Kd.R_alloc | apply Kd.R_drewN | apply Kd.R_drew)); exact (Kd.R_mono (Kd.R_far (p := ⟨gb133, 5, none⟩) (Kd.R_types HO_12.out BK133.out (by decide)) (fun _ hk => hk.2) (.int .u32 (Go.bits .xor .u32 a1_5 1))) (fun _ h_ => h_.1))) hb); have n1_ := Aside0.mk (blk_below (g := gb113) (o := .cells #[.int .i64 a1_0, .int .i64 a1_1, .int .i64 a1_2, .int .i64 a1_3, .int .i64 a1_4, .int .u32 a1_5, .int .i64 a1_6, .int .i64 a1_7, .string a1_8, .string a1_9] 24 (0, 0)) (by (with_reducible repeat (first | refine blk_drewN ?_ _ | refine blk_drew ?_ | refine blk_alloc ?_ _)); refine blk_far ?_ NB113_133.out _; (with_reducible repeat (first | refine blk_drewN ?_ _ | refine blk_drew ?_ | refine blk_alloc ?_ _)); exact BK113.out) hb); have n2_ := Aside0.mk (blk_below (g := gb133) (o := .cells #[.int .i64 a1_0, .int .i64 a1_1, .int .i64 a1_2, .int .i64 a1_3, .int .i64 a1_4, .int .u32 (Go.bits .xor .u32 a1_5 1), .int .i64 a1_6, .int .i64 a1_7, .string a1_8, .string a1_9] 24 (0, 0)) (by (with_reducible repeat (first | refine blk_drewN ?_ _ | refine blk_drew ?_ | refine blk_alloc ?_ _)); refine blk_put (cs := #[.int .i64 a1_0, .int .i64 a1_1, .int .i64 a1_2, .int .i64 a1_3, .int .i64 a1_4, .int .u32 a1_5, .int .i64 a1_6, .int .i64 a1_7, .string a1_8, .string a1_9]) ?_ 5 _ rfl; (with_reducible repeat (first | refine blk_drewN ?_ _ | refine blk_drew ?_ | refine blk_alloc ?_ _)); exact BK133.out) hb); have n3_ := Aside0.mk (below_step (by repeat (first | (with_reducible first | exact HB.out | apply below_alloc | apply pw_below_drewN | apply below_drew1 | refine below_set ?_ GE113.out | refine below_set ?_ GE133.out) | exact HB.out)) hb); clear HO_12; clear BK113; clear BK133; clear HB; have HO_12 := n0_; have BK113 := n1_; have BK133 := n2_; have HB := n3_; clear n0_ n1_ n2_ n3_; (try clear hb); (try clear hb2); (try clear hk); (try clear hi); have hcz95_0 : w94.cell? ⟨gb113, 0, none⟩ = some (.int .i64 a1_0) := (blk_cell BK113.out 0).trans rfl; have hcz95_1 : w94.cell? ⟨gb113, 1, none⟩ = some (.int .i64 a1_1) := (blk_cell BK113.out 1).trans rfl; have hcz95_2 : w94.cell? ⟨gb113, 2, none⟩ = some (.int .i64 a1_2) := (blk_cell BK113.out 2).trans rfl; have hcz95_3 : w94.cell? ⟨gb113, 3, none⟩ = some (.int .i64 a1_3) := (blk_cell BK113.out 3).trans rfl; have hcz95_4 : w94.cell? ⟨gb113, 4, none⟩ = some (.int .i64 a1_4) := (blk_cell BK113.out 4).trans rfl; have hcz95_5 : w94.cell? ⟨gb113, 5, none⟩ = some (.int .u32 a1_5) := (blk_cell BK113.out 5).trans rfl; have hcz95_6 : w94.cell? ⟨gb113, 6, none⟩ = some (.int .i64 a1_6) := (blk_cell BK113.out 6).trans rfl; have hcz95_7 : w94.cell? ⟨gb113, 7, none⟩ = some (.int .i64 a1_7) := (blk_cell BK113.out 7).trans rfl; have hcz95_8 : w94.cell? ⟨gb113, 8, none⟩ = some (.string a1_8) := (blk_cell BK113.out 8).trans rfl; have hcz95_9 : w94.cell? ⟨gb113, 9, none⟩ = some (.string a1_9) := (blk_cell BK113.out 9).trans rfl; have hfz95_0 := blk_frozen BK113.out 0; have hfz95_1 := blk_frozen BK113.out 1; have hfz95_2 := blk_frozen BK113.out 2; have hfz95_3 := blk_frozen BK113.out 3; have hfz95_4 := blk_frozen BK113.out 4; have hfz95_5 := blk_frozen BK113.out 5; have hfz95_6 := blk_frozen BK113.out 6; have hfz95_7 := blk_frozen BK113.out 7; have hfz95_8 := blk_frozen BK113.out 8; have hfz95_9 := blk_frozen BK113.out 9))
                                  go_ret
                                  exact ⟨by first | rfl | (simp [errW_none, errW_some] <;> rfl) | (simp [*, errW_none, errW_some] <;> rfl), by repeat (first | (with_reducible first | exact HB.out | apply below_alloc | apply pw_below_drewN | apply below_drew1 | refine below_set ?_ GE113.out | refine below_set ?_ GE133.out) | exact HB.out)⟩
                              · rw [if_neg c80] at H
                                have c80b0 : (t135 == 0) = false := beq_eq_false_iff_ne.mpr c80
                                have c80b1 : (t135 != 0) = true := bne_iff_ne.mpr c80
                                obtain rfl := Option.some.inj H
                                have hcz96_0 : wc.cell? ⟨gb113, 0, none⟩ = some (.int .i64 a1_0) := (blk_cell BK113.out 0).trans rfl
                                have hcz96_1 : wc.cell? ⟨gb113, 1, none⟩ = some (.int .i64 a1_1) := (blk_cell BK113.out 1).trans rfl
                                have hcz96_2 : wc.cell? ⟨gb113, 2, none⟩ = some (.int .i64 a1_2) := (blk_cell BK113.out 2).trans rfl
                                have hcz96_3 : wc.cell? ⟨gb113, 3, none⟩ = some (.int .i64 a1_3) := (blk_cell BK113.out 3).trans rfl
                                have hcz96_4 : wc.cell? ⟨gb113, 4, none⟩ = some (.int .i64 a1_4) := (blk_cell BK113.out 4).trans rfl
                                have hcz96_5 : wc.cell? ⟨gb113, 5, none⟩ = some (.int .u32 a1_5) := (blk_cell BK113.out 5).trans rfl
                                have hcz96_6 : wc.cell? ⟨gb113, 6, none⟩ = some (.int .i64 a1_6) := (blk_cell BK113.out 6).trans rfl
                                have hcz96_7 : wc.cell? ⟨gb113, 7, none⟩ = some (.int .i64 a1_7) := (blk_cell BK113.out 7).trans rfl
                                have hcz96_8 : wc.cell? ⟨gb113, 8, none⟩ = some (.string a1_8) := (blk_cell BK113.out 8).trans rfl
                                have hcz96_9 : wc.cell? ⟨gb113, 9, none⟩ = some (.string a1_9) := (blk_cell BK113.out 9).trans rfl
                                have hfz96_0 := blk_frozen BK113.out 0
                                have hfz96_1 := blk_frozen BK113.out 1
                                have hfz96_2 := blk_frozen BK113.out 2
                                have hfz96_3 := blk_frozen BK113.out 3
                                have hfz96_4 := blk_frozen BK113.out 4
                                have hfz96_5 := blk_frozen BK113.out 5
                                have hfz96_6 := blk_frozen BK113.out 6
                                have hfz96_7 := blk_frozen BK113.out 7
                                have hfz96_8 := blk_frozen BK113.out 8
                                have hfz96_9 := blk_frozen BK113.out 9
                                go_wp2_with (first | ((with_reducible refine gate_dst (N := 15) rfl ?_); (try (refine gate_guard (by rfl) ?_; dsimp only)); refine box2_event ?hg (N := 15) ?hd ?hg2 (zs := #[.int .i64 0, .int .i64 0, .int .i64 0, .int .i64 0, .int .i64 0, .int .u32 0, .int .i64 0, .int .i64 0, .string (⟨#[]⟩ : ByteArray), .string (⟨#[]⟩ : ByteArray)]) (cs := [.int .i64 a1_0, .int .i64 a1_1, .int .i64 a1_2, .int .i64 a1_3, .int .i64 a1_4, .int .u32 a1_5, .int .i64 a1_6, .int .i64 a1_7, .string a1_8, .string a1_9]) (t := 24) (.tmp 94) ?ho2 ?hr ?hx ?hy info24 ?hn ?hold ?h1 ?_; (case hd => rfl); (case hg => rfl); (case hg2 => rfl); (case ho2 => rfl); (case hr => first | (go_simp; done) | (go_simp; rfl)); (case hx => rfl); (case hy => first | rfl | (go_simp; done) | (go_simp; rfl)); (case hn => rfl); (case hold => rfl); (case h1 => rfl); intro gb133 hg w97 hbox hb; have n0_ := Aside0.mk (Kd.R_below (by (with_reducible repeat (first | apply Kd.R_alloc | apply Kd.R_drewN | apply Kd.R_drew)); exact HO_12.out) hb); have n1_ := Aside0.mk (blk_below (g := gb113) (o := .cells #[.int .i64 a1_0, .int .i64 a1_1, .int .i64 a1_2, .int .i64 a1_3, .int .i64 a1_4, .int .u32 a1_5, .int .i64 a1_6, .int .i64 a1_7, .string a1_8, .string a1_9] 24 (0, 0)) (by (with_reducible repeat (first | refine blk_drewN ?_ _ | refine blk_drew ?_ | refine blk_alloc ?_ _)); exact BK113.out) hb); have n2_ := Aside0.mk (below_step (by repeat (first | (with_reducible first | exact HB.out | apply below_alloc | apply pw_below_drewN | apply below_drew1 | refine below_set ?_ GE113.out) | exact HB.out)) hb); have n3_ := Aside0.mk (hbox); have n4_ := Aside0.mk ((by rw [hg]; exact (below_size (by repeat (first | (with_reducible first | exact HB.out | apply below_alloc | apply pw_below_drewN | apply below_drew1 | refine below_set ?_ GE113.out) | exact HB.out))) : w.heap.size ≤ gb133)); have n5_ := Aside0.mk ((by rw [hg]; exact (below_size (by repeat (first | (with_reducible first | exact HB.out | apply below_alloc | apply pw_below_drewN | apply below_drew1 | refine below_set ?_ GE113.out) | exact HB.out))) : w.heap.size ≤ gb133)); have n6_ := Aside0.mk ((by rw [hg]; exact Nat.ne_of_lt (blk_lt (g := gb113) (o := .cells #[.int .i64 a1_0, .int .i64 a1_1, .int .i64 a1_2, .int .i64 a1_3, .int .i64 a1_4, .int .u32 a1_5, .int .i64 a1_6, .int .i64 a1_7, .string a1_8, .string a1_9] 24 (0, 0)) (by (with_reducible repeat (first | refine blk_drewN ?_ _ | refine blk_drew ?_ | refine blk_alloc ?_ _)); exact BK113.out)) : gb113 ≠ gb133)); have n7_ := Aside0.mk ((by rw [hg]; exact Nat.ne_of_gt (blk_lt (g := gb113) (o := .cells #[.int .i64 a1_0, .int .i64 a1_1, .int .i64 a1_2, .int .i64 a1_3, .int .i64 a1_4, .int .u32 a1_5, .int .i64 a1_6, .int .i64 a1_7, .string a1_8, .string a1_9] 24 (0, 0)) (by (with_reducible repeat (first | refine blk_drewN ?_ _ | refine blk_drew ?_ | refine blk_alloc ?_ _)); exact BK113.out)) : gb133 ≠ gb113)); clear HO_12; clear BK113; clear HB; have HO_12 := n0_; have BK113 := n1_; have HB := n2_; have BK133 := n3_; have GW133 := n4_; have GE133 := n5_; have NB113_133 := n6_; have NB133_113 := n7_; clear n0_ n1_ n2_ n3_ n4_ n5_ n6_ n7_; clear hb hbox hg; have hnb98 := NB113_133.out; have hnc98 := NB133_113.out; have hcz99_0 : w97.cell? ⟨gb113, 0, none⟩ = some (.int .i64 a1_0) := (blk_cell BK113.out 0).trans rfl; have hcz99_1 : w97.cell? ⟨gb113, 1, none⟩ = some (.int .i64 a1_1) := (blk_cell BK113.out 1).trans rfl; have hcz99_2 : w97.cell? ⟨gb113, 2, none⟩ = some (.int .i64 a1_2) := (blk_cell BK113.out 2).trans rfl; have hcz99_3 : w97.cell? ⟨gb113, 3, none⟩ = some (.int .i64 a1_3) := (blk_cell BK113.out 3).trans rfl; have hcz99_4 : w97.cell? ⟨gb113, 4, none⟩ = some (.int .i64 a1_4) := (blk_cell BK113.out 4).trans rfl; have hcz99_5 : w97.cell? ⟨gb113, 5, none⟩ = some (.int .u32 a1_5) := (blk_cell BK113.out 5).trans rfl; have hcz99_6 : w97.cell? ⟨gb113, 6, none⟩ = some (.int .i64 a1_6) := (blk_cell BK113.out 6).trans rfl; have hcz99_7 : w97.cell? ⟨gb113, 7, none⟩ = some (.int .i64 a1_7) := (blk_cell BK113.out 7).trans rfl; have hcz99_8 : w97.cell? ⟨gb113, 8, none⟩ = some (.string a1_8) := (blk_cell BK113.out 8).trans rfl; have hcz99_9 : w97.cell? ⟨gb113, 9, none⟩ = some (.string a1_9) := (blk_cell BK113.out 9).trans rfl; have hfz99_0 := blk_frozen BK113.out 0; have hfz99_1 := blk_frozen BK113.out 1; have hfz99_2 := blk_frozen BK113.out 2; have hfz99_3 := blk_frozen BK113.out 3; have hfz99_4 := blk_frozen BK113.out 4; have hfz99_5 := blk_frozen BK113.out 5; have hfz99_6 := blk_frozen BK113.out 6; have hfz99_7 := blk_frozen BK113.out 7; have hfz99_8 := blk_frozen BK113.out 8; have hfz99_9 := blk_frozen BK113.out 9; have hcz100_0 : w97.cell? ⟨gb133, 0, none⟩ = some (.int .i64 a1_0) := (blk_cell BK133.out 0).trans rfl; have hcz100_1 : w97.cell? ⟨gb133, 1, none⟩ = some (.int .i64 a1_1) := (blk_cell BK133.out 1).trans rfl; have hcz100_2 : w97.cell? ⟨gb133, 2, none⟩ = some (.int .i64 a1_2) := (blk_cell BK133.out 2).trans rfl; have hcz100_3 : w97.cell? ⟨gb133, 3, none⟩ = some (.int .i64 a1_3) := (blk_cell BK133.out 3).trans rfl; have hcz100_4 : w97.cell? ⟨gb133, 4, none⟩ = some (.int .i64 a1_4) := (blk_cell BK133.out 4).trans rfl; have hcz100_5 : w97.cell? ⟨gb133, 5, none⟩ = some (.int .u32 a1_5) := (blk_cell BK133.out 5).trans rfl; have hcz100_6 : w97.cell? ⟨gb133, 6, none⟩ = some (.int .i64 a1_6) := (blk_cell BK133.out 6).trans rfl; have hcz100_7 : w97.cell? ⟨gb133, 7, none⟩ = some (.int .i64 a1_7) := (blk_cell BK133.out 7).trans rfl; have hcz100_8 : w97.cell? ⟨gb133, 8, none⟩ = some (.string a1_8) := (blk_cell BK133.out 8).trans rfl; have hcz100_9 : w97.cell? ⟨gb133, 9, none⟩ = some (.string a1_9) := (blk_cell BK133.out 9).trans rfl; have hfz100_0 := blk_frozen BK133.out 0; have hfz100_1 := blk_frozen BK133.out 1; have hfz100_2 := blk_frozen BK133.out 2; have hfz100_3 := blk_frozen BK133.out 3; have hfz100_4 := blk_frozen BK133.out 4; have hfz100_5 := blk_frozen BK133.out 5; have hfz100_6 := blk_frozen BK133.out 6; have hfz100_7 := blk_frozen BK133.out 7; have hfz100_8 := blk_frozen BK133.out 8; have hfz100_9 := blk_frozen BK133.out 9) | ((with_reducible refine gate_callee (f := 18) rfl ?_); refine goesL_ (some 104) rfl rfl Try.func18 (by kernel_rfl) rfl #[.slice Ao33 t123.length co33, .int .i64 (l0.length : Int), .agg #[.int .i64 a1_0, .int .i64 a1_1, .int .i64 a1_2, .int .i64 a1_3, .int .i64 a1_4, .int .u32 (Go.bits .xor .u32 a1_5 1), .int .i64 a1_6, .int .i64 a1_7, .string a1_8, .string a1_9]] rfl (by (try simp only [List.map_toArray, List.map_cons, List.map_nil]); first | done | rfl | (simp only [List.length_drop, List.length_take]; rfl)) ?_; (with_reducible refine (record_GetDescriptor.calls _ _ t123 (l0.length : Int) a1_0 a1_1 a1_2 a1_3 a1_4 (Go.bits .xor .u32 a1_5 1) a1_6 a1_7 a1_8 a1_9 t134 t135 _ ?side1 ?side2 A79.out).mono ?_); (case side1 => refine (Kd.R_reads' (e := 5) (base := w.heap.size) (ok := fun k_ => True) (n := t123.length) (c := co33) ?_).2.2; exact (by (with_reducible repeat (first | apply Kd.R_alloc | apply Kd.R_drewN | apply Kd.R_drew)); exact (Kd.R_mono (Kd.R_far (p := ⟨gb133, 5, none⟩) (Kd.R_types HO_12.out BK133.out (by decide)) (fun _ hk => hk.2) (.int .u32 (Go.bits .xor .u32 a1_5 1))) (fun _ h_ => h_.1)))); (case side2 => exact (Kd.R_reads' HO_12.out).2.1); rintro e w101 ⟨rfl, hb⟩; refine ⟨_, rfl, ?_⟩; have n0_ := Aside0.mk (Kd.R_below (by (with_reducible repeat (first | apply Kd.R_alloc | apply Kd.R_drewN | apply Kd.R_drew)); exact (Kd.R_mono (Kd.R_far (p := ⟨gb133, 5, none⟩) (Kd.R_types HO_12.out BK133.out (by decide)) (fun _ hk => hk.2) (.int .u32 (Go.bits .xor .u32 a1_5 1))) (fun _ h_ => h_.1))) hb); have n1_ := Aside0.mk (blk_below (g := gb113) (o := .cells #[.int .i64 a1_0, .int .i64 a1_1, .int .i64 a1_2, .int .i64 a1_3, .int .i64 a1_4, .int .u32 a1_5, .int .i64 a1_6, .int .i64 a1_7, .string a1_8, .string a1_9] 24 (0, 0)) (by (with_reducible repeat (first | refine blk_drewN ?_ _ | refine blk_drew ?_ | refine blk_alloc ?_ _)); refine blk_far ?_ NB113_133.out _; (with_reducible repeat (first | refine blk_drewN ?_ _ | refine blk_drew ?_ | refine blk_alloc ?_ _)); exact BK113.out) hb); have n2_ := Aside0.mk (blk_below (g := gb133) (o := .cells #[.int .i64 a1_0, .int .i64 a1_1, .int .i64 a1_2, .int .i64 a1_3, .int .i64 a1_4, .int .u32 (Go.bits .xor .u32 a1_5 1), .int .i64 a1_6, .int .i64 a1_7, .string a1_8, .string a1_9] 24 (0, 0)) (by (with_reducible repeat (first | refine blk_drewN ?_ _ | refine blk_drew ?_ | refine blk_alloc ?_ _)); refine blk_put (cs := #[.int .i64 a1_0, .int .i64 a1_1, .int .i64 a1_2, .int .i64 a1_3, .int .i64 a1_4, .int .u32 a1_5, .int .i64 a1_6, .int .i64 a1_7, .string a1_8, .string a1_9]) ?_ 5 _ rfl; (with_reducible repeat (first | refine blk_drewN ?_ _ | refine blk_drew ?_ | refine blk_alloc ?_ _)); exact BK133.out) hb); have n3_ := Aside0.mk (below_step (by repeat (first | (with_reducible first | exact HB.out | apply below_alloc | apply pw_below_drewN | apply below_drew1 | refine below_set ?_ GE113.out | refine below_set ?_ GE133.out) | exact HB.out)) hb); clear HO_12; clear BK113; clear BK133; clear HB; have HO_12 := n0_; have BK113 := n1_; have BK133 := n2_; have HB := n3_; clear n0_ n1_ n2_ n3_; (try clear hb); (try clear hb2); (try clear hk); (try clear hi)))
                                go_ret
                                exact ⟨by first | rfl | (simp [errW_none, errW_some] <;> rfl) | (simp [*, errW_none, errW_some] <;> rfl), by repeat (first | (with_reducible first | exact HB.out | apply below_alloc | apply pw_below_drewN | apply below_drew1 | refine below_set ?_ GE113.out | refine below_set ?_ GE133.out) | exact HB.out)⟩

end Go.Proofs.Ytkmnhlhpmfkloaa.PT
