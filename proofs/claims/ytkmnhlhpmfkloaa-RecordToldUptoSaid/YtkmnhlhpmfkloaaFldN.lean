/- The document's SplitExtra: walked by hand. -/
import Derived.Test.YtkmnhlhpmfkloaaFldM
import Derived.Lib.Strings
import Derived.Lib.IndexBytes
namespace Go.Proofs.Ytkmnhlhpmfkloaa.Fld
open Go.RowKit Go.Proofs.YtkmnhlhpmfkloaaW.PrintWords Go.Proofs.YtkmnhlhpmfkloaaW.PrintLast Go.Proofs.YtkmnhlhpmfkloaaW.PrintMore Go.Proofs.Ytkmnhlhpmfkloaa.Mem
set_option linter.unusedVariables false
set_option linter.unusedSimpArgs false

theorem byteArray_ext {a b : ByteArray} (h : a.data.toList = b.data.toList) : a = b := by
  cases a; cases b
  simp only at h
  congr
  exact Array.toList_inj.1 h
theorem str_bytes (s : ByteArray) (a b : Nat) : strOfNums (((bytesOf s).take b).drop a) = s.extract a b := by
  apply byteArray_ext
  rw [Lib.extract_data]
  unfold strOfNums bytesOf
  rw [← List.map_take, ← List.map_drop, List.map_map, ← List.drop_take]
  have h : ((fun n : Int => UInt8.ofNat n.toNat) ∘ fun b : UInt8 => (b.toNat : Int)) = id := by
    funext x
    simp
  rw [h, List.map_id]

/-- The document's fields from a place on. -/
def rsplitGo (l : List Int) : Nat → Nat → List (Int × ByteArray) → List (Int × ByteArray) × Int
  | 0, _, acc => (acc, 0)
  | k + 1, a, acc => if a < l.length then
      (if (l.length : Int) - a < 4 then ([], 122) else
        (let n := nm ((l.take (a + 2 + 2)).drop (a + 2))
         if (l.length : Int) - a - 4 < n then ([], 122) else rsplitGo l k (a + 4 + n.toNat) (acc ++ [(nm ((l.take (a + 2)).drop a), strOfNums ((l.take (a + 4 + n.toNat)).drop (a + 4)))])))
    else (acc, 0)
def rsplitF (s : ByteArray) : List (Int × ByteArray) × Int := if (65535 : Int) < s.size then ([], 124) else rsplitGo (bytesOf s) (s.size + 1) 0 []
theorem rsplitGo_end (l : List Int) (k a : Nat) (acc : List (Int × ByteArray)) (h : ¬ a < l.length) : rsplitGo l k a acc = (acc, 0) := by
  cases k with
  | zero => rfl
  | succ k => rw [rsplitGo, if_neg h]
theorem rsplitGo_bad (l : List Int) (k a : Nat) (acc : List (Int × ByteArray)) (h : a < l.length) (h2 : (l.length : Int) - a < 4) : rsplitGo l (k + 1) a acc = ([], 122) := by rw [rsplitGo, if_pos h, if_pos h2]
theorem rsplitGo_short (l : List Int) (k a : Nat) (acc : List (Int × ByteArray)) (n : Int) (h : a < l.length) (h2 : ¬ (l.length : Int) - a < 4) (hn : nm ((l.take (a + 2 + 2)).drop (a + 2)) = n) (h3 : (l.length : Int) - a - 4 < n) : rsplitGo l (k + 1) a acc = ([], 122) := by
  rw [rsplitGo, if_pos h, if_neg h2]
  simp only [hn]
  rw [if_pos h3]
theorem rsplitGo_step (l : List Int) (k a : Nat) (acc : List (Int × ByteArray)) (n : Nat) (h : a < l.length) (h2 : ¬ (l.length : Int) - a < 4) (hn : nm ((l.take (a + 2 + 2)).drop (a + 2)) = (n : Int)) (h3 : ¬ (l.length : Int) - a - 4 < n) :
    rsplitGo l (k + 1) a acc = rsplitGo l k (a + 4 + n) (acc ++ [(nm ((l.take (a + 2)).drop a), strOfNums ((l.take (a + 4 + n)).drop (a + 4)))]) := by
  rw [rsplitGo, if_pos h, if_neg h2]
  simp only [hn, Int.toNat_natCast]
  rw [if_neg h3]

set_option maxHeartbeats 8000000 in
set_option maxRecDepth 100000 in
theorem rsplit_calls (w : World) (s : ByteArray) :
    Calls Try.prog 24 #[.string s] w fun e w' => ∃ v, e = .returned (.tuple #[v, .int .i64 (rsplitF s).2]) ∧ w'.ownsRow w.heap.size 49 2 v (rsplitF s).1.length ((rsplitF s).1.flatMap encX) ∧ Below w.heap.size w w' := by
  by_cases hbig : (65535 : Int) < s.size
  · have hbb : decide ((65535 : Int) < s.size) = true := decide_eq_true hbig
    rw [show rsplitF s = ([], 124) from if_pos hbig]
    clear hbig
    go_enter Try.func24, Try.ntmps24
    go_wp2
    go_ret2
    exact ⟨_, rfl, own_nil _ _ _ _, Below.refl _ _⟩
  · have hbb : decide ((65535 : Int) < s.size) = false := decide_eq_false hbig
    have HSF := Aside0.mk (show rsplitF s = rsplitGo (bytesOf s) (s.size + 1) 0 [] from if_neg hbig)
    obtain ⟨j0, hj0, hy0, hy1, hy2⟩ := info_parts Try.infoX
    have kb := fun W => print_bytes (P := Try.prog) 9 25 5 Try.underlying9 Try.underlying25 Try.underlying5 s W
    have hbl := bytesOf_length s
    have HRD : Aside0 (Kd.C (Kd.int .u8) (Lib.bytesWorld w 5 s) (some ⟨w.heap.size, 0, none⟩) (bytesOf s).length (bytesOf s)) := ⟨bytes_C w s (by omega)⟩
    have HY := Aside0.mk (fun x (hx : x ∈ bytesOf s) => show 0 ≤ x ∧ x < 256 by
      rw [bytesOf, List.mem_map] at hx
      obtain ⟨b, _, rfl⟩ := hx
      have := b.toNat_lt
      omega)
    have HB0 := Aside0.mk (bytes_below (Below.refl w.heap.size w) (Nat.le_refl _) 5 s)
    have hs2 : s.size ≤ 65535 := by omega
    have HBL := Aside0.mk hbl
    clear hbig hbl
    go_enter Try.func24, Try.ntmps24
    go_wp2_with fail
    generalize Lib.bytesWorld w 5 s = W0 at HRD HB0 ⊢
    go_loopg [5, 6] (s.size + 2) (fun gk v5 v6 wr => ∃ (a : Nat) (acc : List (Int × ByteArray)) (k : Nat) (A5 : Option Addr) (c5 : Nat), v5 = .slice A5 acc.length c5 ∧ v6 = .int .i64 a ∧ acc.length * 4 ≤ a ∧ a ≤ s.size ∧ s.size + 1 ≤ a + k ∧ s.size + 1 ≤ a + gk ∧
      Aside0 (Below W0.heap.size W0 wr) ∧ Aside0 (wr.ownsRow W0.heap.size 49 2 (.slice A5 acc.length c5) acc.length (acc.flatMap encX)) ∧ Aside0 (rsplitF s = rsplitGo (bytesOf s) k a acc))
    case atStart => exact ⟨0, [], s.size + 1, none, 0, rfl, rfl, by simp, Nat.zero_le _, by simp, by simp, ⟨Below.refl _ _⟩, ⟨own_nil _ _ _ _⟩, HSF⟩
    case round =>
      obtain ⟨a, acc, k, A5, c5, rfl, rfl, hacc, hat, hk, hgk, HDk, HOk, HEk⟩ := hrel
      clear HSF
      have HGk : Aside0 (Below w.heap.size w wr) := ⟨HB0.out.trans (HDk.out.mono HB0.out.size)⟩
      by_cases hlt : a < s.size
      · have hltb : decide ((a : Int) < (s.size : Int)) = true := decide_eq_true (by omega)
        obtain ⟨k, rfl⟩ : ∃ q, k = q + 1 := ⟨k - 1, by omega⟩
        have q1 : (0 : Int) ≤ (s.size : Int) - (a : Int) := by omega
        have q2 : (s.size : Int) - (a : Int) ≤ 65535 := by omega
        have hal : a < (bytesOf s).length := by rw [HBL.out]; exact hlt
        by_cases h4 : (s.size : Int) - (a : Int) < 4
        · have h4b : decide ((s.size : Int) - (a : Int) < 4) = true := decide_eq_true h4
          have HF := Aside0.mk (HEk.out.trans (rsplitGo_bad _ k a acc hal (by rw [HBL.out]; exact h4)))
          go_wp2_with fail
          go_ret2
          exact ⟨_, by rw [HF.out]; rfl, by rw [HF.out]; exact own_nil _ _ _ _, HGk.out⟩
        · have h4b : decide ((s.size : Int) - (a : Int) < 4) = false := decide_eq_false h4
          have hCk := C_below' HRD.out HDk.out
          have hn1 := fun W (hC : Kd.C (Kd.int .u8) W (some ⟨w.heap.size, 0, none⟩) (bytesOf s).length (bytesOf s)) => rnumber_calls W (some ⟨w.heap.size, 0, none⟩) (grownCap w s.size 0 5) (bytesOf s) (a : Int) 2 hC (by rw [HBL.out]; omega) HY.out (by omega) (by rw [HBL.out]; omega) (by omega)
          have hn2 := fun W (hC : Kd.C (Kd.int .u8) W (some ⟨w.heap.size, 0, none⟩) (bytesOf s).length (bytesOf s)) => rnumber_calls W (some ⟨w.heap.size, 0, none⟩) (grownCap w s.size 0 5) (bytesOf s) ((a : Int) + 2) 2 hC (by rw [HBL.out]; omega) HY.out (by omega) (by rw [HBL.out]; omega) (by omega)
          have hnn := nm_ok (c := ⟨((bytesOf s).take (a + 2 + 2)).drop (a + 2), 0, 0⟩) (n := 2) (fun x hx => HY.out x (List.mem_of_mem_take (List.mem_of_mem_drop hx))) (by omega)
          have hfull : (CS.mk (((bytesOf s).take (a + 2 + 2)).drop (a + 2)) 0 0).next 2 = ((bytesOf s).take (a + 2 + 2)).drop (a + 2) := by
            have hl := mid_len (l := bytesOf s) (a := a + 2) (n := 2) (by rw [HBL.out]; omega)
            unfold CS.next
            simp only [hl]
            rw [if_neg (by simp), if_neg (by omega), Nat.zero_add, List.drop_zero, List.take_of_length_le (by rw [hl]; exact Nat.le_refl _)]
          rw [hfull] at hnn
          rw [show ((a : Int) + 2).toNat = a + 2 by omega] at hn2
          rw [Int.toNat_natCast] at hn1
          obtain ⟨m, hm⟩ : ∃ m : Nat, nm (((bytesOf s).take (a + 2 + 2)).drop (a + 2)) = (m : Int) := ⟨_, (Int.toNat_of_nonneg hnn.1).symm⟩
          obtain ⟨t, ht⟩ : ∃ t, nm (((bytesOf s).take (a + 2)).drop a) = t := ⟨_, rfl⟩
          rw [hm] at hn2 hnn
          rw [ht] at hn1
          have hm2 := hnn.2
          have HM := Aside0.mk hm
          have HTT := Aside0.mk ht
          rw [HBL.out] at hn1 hn2 hCk
          have HN1 := Aside0.mk hn1
          have HN2 := Aside0.mk hn2
          have HCC := Aside0.mk hCk
          clear hn1 hn2 hCk hnn hfull hm ht
          have q3 : (0 : Int) ≤ (s.size : Int) - (a : Int) - 4 := by omega
          have q4 : (0 : Int) ≤ (a : Int) + 2 := by omega
          by_cases h5 : (s.size : Int) - (a : Int) - 4 < m
          · have h5b : decide ((s.size : Int) - (a : Int) - 4 < m) = true := decide_eq_true h5
            have HF := Aside0.mk (HEk.out.trans (rsplitGo_short _ k a acc m hal (by rw [HBL.out]; exact h4) HM.out (by rw [HBL.out]; exact h5)))
            go_wp2_with fail
            refine (HN1.out wr HCC.out).mono ?_
            rintro e w2 ⟨rfl, nq, rfl⟩
            go_wp2_with fail
            refine (HN2.out _ (show Kd.C (Kd.int .u8) (wr.drewN nq) (some ⟨w.heap.size, 0, none⟩) s.size (bytesOf s) from HCC.out)).mono ?_
            rintro e w3 ⟨rfl, nr, rfl⟩
            go_wp2_with fail
            go_ret2
            exact ⟨_, by rw [HF.out]; rfl, by rw [HF.out]; exact own_nil _ _ _ _, ⟨HGk.out.os, HGk.out.tape, HGk.out.output, HGk.out.size, HGk.out.block⟩⟩
          · have h5b : decide ((s.size : Int) - (a : Int) - 4 < m) = false := decide_eq_false h5
            have q5 : (a : Int) + 4 + m ≤ (s.size : Int) := by omega
            have q6 : (a : Int) + 4 ≤ (a : Int) + 4 + m := by omega
            have q7 : (0 : Int) ≤ (a : Int) + 4 := by omega
            go_wp2_with fail
            refine (HN1.out wr HCC.out).mono ?_
            rintro e w2 ⟨rfl, nq, rfl⟩
            go_wp2_with fail
            refine (HN2.out _ (show Kd.C (Kd.int .u8) (wr.drewN nq) (some ⟨w.heap.size, 0, none⟩) s.size (bytesOf s) from HCC.out)).mono ?_
            rintro e w3 ⟨rfl, nr, rfl⟩
            have hw5 := HDk.out.size
            have hsz : acc.length ≤ 65535 := by omega
            obtain ⟨d, hd⟩ : ∃ d, s.extract (a + 4) (a + 4 + m) = d := ⟨_, rfl⟩
            have HST := Aside0.mk (HEk.out.trans (rsplitGo_step _ k a acc m hal (by rw [HBL.out]; omega) HM.out (by rw [HBL.out]; omega)))
            have HDD := Aside0.mk ((str_bytes s (a + 4) (a + 4 + m)).trans hd)
            have HOd : Aside0 ((wr.drewN (nq + nr)).ownsRow W0.heap.size 49 2 (.slice A5 acc.length c5) acc.length (acc.flatMap encX)) := ⟨HOk.out⟩
            have hsize : (wr.drewN (nq + nr)).heap.size = wr.heap.size := rfl
            have HSZ := Aside0.mk hsize
            clear hsize
            go_wp2_with (at_builtin; rw [hd]; refine wpList_append_lies _ (by rfl) _ _ _ (by rfl) W0.heap.size 49 j0 _ 2 24 Try.underlying42 hj0 hy0 hy1 hy2 rfl (by omega) (.slice A5 acc.length c5) acc.length (acc.flatMap encX) ?b1 (HOd.out.alloc _) ⟨wr.heap.size, 0, none⟩ 1 1 [.int .i64 t, .string d] ?b2 ?b3 ?b4 ?b5 (by omega) ?b7 ?b8 ?b9 (wr.heap.size + 1) ?b10 ?b11; (case b1 => rfl); (case b2 => rfl); (case b3 => rfl); (case b4 => exact World.news_of_block (cs := #[.int .i64 t, .string d]) (t := 49) (fr := (0, 0)) (heap_alloc_new (wr.drewN (nq + nr)) _)); (case b5 => simp [Value.oneCell']); (case b7 => simp only [maxLen]; omega); (case b8 => omega); (case b9 => simp; omega); (case b10 => simp); intro gg cap w6 hown1 hgrow hat6 hlt6)
            have hDd : Below W0.heap.size W0 (wr.drewN (nq + nr)) := ⟨HDk.out.os, HDk.out.tape, HDk.out.output, HDk.out.size, HDk.out.block⟩
            have HD6 := Aside0.mk (below_app hDd HOd.out hgrow)
            go_roundg (s.size - a)
            case measure => omega
            case rel => exact ⟨a + 4 + m, acc ++ [(t, d)], k, some ⟨gg, 0, none⟩, cap, by simp, by go_num, by simp; omega, by omega, by omega, by omega, HD6, ⟨by rw [flatX_snoc, List.length_append]; exact hown1⟩, ⟨by rw [HST.out, HTT.out, HDD.out]⟩⟩
      · have hltb : decide ((a : Int) < (s.size : Int)) = false := decide_eq_false (by omega)
        have HF := Aside0.mk (HEk.out.trans (rsplitGo_end _ k a acc (by rw [HBL.out]; exact hlt)))
        go_wp2_with fail
        go_ret2
        exact ⟨_, by rw [HF.out]; rfl, by rw [HF.out]; exact own_weaken HOk.out HB0.out.size, HGk.out⟩
end Go.Proofs.Ytkmnhlhpmfkloaa.Fld
