/- SplitExtra of record, and the document's: walked by hand. -/
import Derived.Test.YtkmnhlhpmfkloaaFldE
namespace Go.Proofs.Ytkmnhlhpmfkloaa.Fld
open Go.RowKit Go.Proofs.YtkmnhlhpmfkloaaW.PrintWords Go.Proofs.YtkmnhlhpmfkloaaW.PrintLast Go.Proofs.YtkmnhlhpmfkloaaW.PrintMore Go.Proofs.Ytkmnhlhpmfkloaa.Mem
set_option linter.unusedVariables false
set_option linter.unusedSimpArgs false

theorem bytes_C (w : World) (s : ByteArray) (hs : s.size ≤ 9223372036854775807) : Kd.C (Kd.int .u8) (Lib.bytesWorld w 5 s) (some ⟨w.heap.size, 0, none⟩) (bytesOf s).length (bytesOf s) := by
  rw [bytesOf_length]
  have h := bytes_reads w 5 s hs
  refine ⟨h.1, h.2.1, fun hn => ?_⟩
  obtain ⟨ad, e, hc⟩ := h.2.2 hn
  refine ⟨ad, e, fun j p hj => ⟨[.int .u8 p], rfl, rfl, fun i u hu => ?_⟩⟩
  have hi : i = 0 := by
    rcases Nat.eq_zero_or_pos i with h | h
    · exact h
    · rw [List.getElem?_eq_none (by simp; omega)] at hu; cases hu
  subst hi
  have he : u = .int .u8 p := by simpa using hu.symm
  subst he
  have hjl := (List.getElem?_eq_some_iff.1 hj).1
  rw [bytesOf_length] at hjl
  have h1 : (Kd.int .u8).sz = 1 := rfl
  rw [h1, Nat.mul_one, Nat.add_zero, hc j hjl, List.getD_eq_getElem?_getD, hj]
  rfl


def encX (f : Int × ByteArray) : List Value := [.int .i64 f.1, .string f.2]
theorem encX_len (f : Int × ByteArray) : (encX f).length = 2 := rfl
/-- The fields from the cursor's place on; none: too few rounds. -/
def splitGo : Nat → CS → List (Int × ByteArray) → List (Int × ByteArray) × Int
  | 0, _, acc => (acc, 0)
  | k + 1, c, acc => if c.at_ < c.data.length then
      (let n := nm ((c.adv 2).next 2)
       let c3 := ((c.adv 2).adv 2).adv n.toNat
       if c3.err ≠ 0 then ([], 122) else splitGo k c3 (acc ++ [(nm (c.next 2), strOfNums (((c.adv 2).adv 2).next n.toNat))]))
    else (acc, 0)
def splitF (s : ByteArray) : List (Int × ByteArray) × Int := if (65535 : Int) < s.size then ([], 124) else splitGo (s.size + 1) ⟨bytesOf s, 0, 0⟩ []
theorem splitGo_step (k : Nat) (c : CS) (acc : List (Int × ByteArray)) (h : c.at_ < c.data.length) :
    splitGo (k + 1) c acc = if (((c.adv 2).adv 2).adv (nm ((c.adv 2).next 2)).toNat).err ≠ 0 then ([], 122) else splitGo k (((c.adv 2).adv 2).adv (nm ((c.adv 2).next 2)).toNat) (acc ++ [(nm (c.next 2), strOfNums (((c.adv 2).adv 2).next (nm ((c.adv 2).next 2)).toNat))]) := by
  rw [splitGo, if_pos h]
theorem splitGo_end (k : Nat) (c : CS) (acc : List (Int × ByteArray)) (h : ¬ c.at_ < c.data.length) : splitGo k c acc = (acc, 0) := by
  cases k with
  | zero => rfl
  | succ k => rw [splitGo, if_neg h]
theorem adv_at_le {c : CS} {n : Nat} (h : c.at_ ≤ c.data.length) : c.at_ ≤ (c.adv n).at_ ∧ (c.adv n).at_ ≤ (c.adv n).data.length := by
  rw [adv_data]
  unfold CS.adv
  split
  · exact ⟨Nat.le_refl _, h⟩
  · split
    · exact ⟨Nat.le_refl _, h⟩
    · simp only; omega
theorem adv_err {c : CS} {n : Nat} (h : (c.adv n).err = 0) : c.err = 0 ∧ (c.adv n).at_ = c.at_ + n := by
  unfold CS.adv at *
  split at h
  · rename_i h1; exact absurd h h1
  · rename_i h1
    split at h
    · cases h
    · rename_i h2
      rw [if_neg h1, if_neg h2]
      exact ⟨by omega, rfl⟩
theorem adv_more {c : CS} (n : Nat) (h : c.at_ ≤ c.data.length) (he : (((c.adv 2).adv 2).adv n).err = 0) : c.at_ + 4 ≤ (((c.adv 2).adv 2).adv n).at_ := by
  obtain ⟨h1, h2⟩ := adv_err he
  obtain ⟨h3, h4⟩ := adv_err h1
  obtain ⟨h5, h6⟩ := adv_err h3
  omega
theorem Try.infoX : (Try.prog.info? 49).map (fun i => (i.zero, i.size, i.bytes)) = some (some (.agg #[.int .i64 0, .string ⟨#[]⟩]), 2, 24) := by kernel_rfl
theorem row_call {wr wn : World} {B g base n : Nat} {c : CS} {v : Value} {xs : List Value} (ho : wr.ownsRow base 49 2 v n xs) (hc : Cur wr B g c) (hf : Frm (fun q => q = g) wr wn) : wn.ownsRow base 49 2 v n xs := by
  obtain ⟨A, cp, hg, _⟩ := hc
  exact hf.row ho (by rintro k hk rfl; exact own_ne ho hg (by decide) hk.symm)
theorem Cur.grown {W w1 : World} {B g base n : Nat} {c : CS} {v : Value} {xs : List Value} (h : Cur W B g c) (ho : W.ownsRow base 49 2 v n xs) (hg : W.grownBy w1 v.ownBlock) : Cur w1 B g c := by
  obtain ⟨A, cp, hb, hr, h1, h2⟩ := h
  refine ⟨A, cp, blk_grown hb hg (own_ne ho hb (by decide)), ?_, h1, h2⟩
  rcases ho.2 with ⟨rfl, _⟩ | ⟨k, cap, cur, rfl, _, hk, _⟩
  · exact Kd.R_grown hr hg (fun _ _ => by simp [Value.ownBlock])
  · exact Kd.R_mono (Kd.R_grown (Kd.R_types hr hk (by intro q hq; simp [Kd.int, Kd.scalar] at hq; omega)) hg (fun q hq => by simp only [Value.ownBlock, ne_eq, Option.some.injEq]; exact hq.2)) (fun _ hq => hq.1)
theorem Cur.alloc {W : World} {B g : Nat} {c : CS} (h : Cur W B g c) (o : Obj) : Cur (W.alloc o) B g c := h.frm ((Frm.refl (fun _ => False) W).alloc o) (fun _ _ e => e)
theorem below_app {w W w1 : World} {n : Nat} {o : Obj} {v : Value} {xs : List Value} (h : Below w.heap.size w W) (ho : W.ownsRow w.heap.size 49 2 v n xs) (hg : (W.alloc o).grownBy w1 v.ownBlock) : Below w.heap.size w w1 :=
  (below_alloc h o).grown hg (by have := h.size; simp; omega) (own_base ho)
theorem flatX_snoc (l : List (Int × ByteArray)) (t : Int) (d : ByteArray) : (l ++ [(t, d)]).flatMap encX = l.flatMap encX ++ [.int .i64 t, .string d] := by simp [encX]

set_option maxHeartbeats 8000000 in
set_option maxRecDepth 100000 in
theorem split_calls (w : World) (s : ByteArray) :
    Calls Try.prog 23 #[.string s] w fun e w' => ∃ v, e = .returned (.tuple #[v, .int .i64 (splitF s).2]) ∧ w'.ownsRow w.heap.size 49 2 v (splitF s).1.length ((splitF s).1.flatMap encX) ∧ Below w.heap.size w w' := by
  by_cases hbig : (65535 : Int) < s.size
  · have hbb : decide ((65535 : Int) < s.size) = true := decide_eq_true hbig
    rw [show splitF s = ([], 124) from if_pos hbig]
    clear hbig
    go_enter Try.func23, Try.ntmps23
    go_wp2
    go_ret2
    exact ⟨_, rfl, own_nil _ _ _ _, Below.refl _ _⟩
  · have hbb : decide ((65535 : Int) < s.size) = false := decide_eq_false hbig
    have HSF := Aside0.mk (show splitF s = splitGo (s.size + 1) ⟨bytesOf s, 0, 0⟩ [] from if_neg hbig)
    obtain ⟨j0, hj0, hy0, hy1, hy2⟩ := info_parts Try.infoX
    have kb := fun W => print_bytes (P := Try.prog) 9 25 5 Try.underlying9 Try.underlying25 Try.underlying5 s W
    have hrd := bytes_C w s (by omega)
    have hbl := bytesOf_length s
    have hN := cnew_calls (Lib.bytesWorld w 5 s) (some ⟨w.heap.size, 0, none⟩) (grownCap w s.size 0 5) (bytesOf s) hrd (by rw [hbl]; exact grownCap_ge _ _ _ _) (by rw [hbl]; omega) (fun x hx => by
      rw [bytesOf, List.mem_map] at hx
      obtain ⟨b, _, rfl⟩ := hx
      have := b.toNat_lt
      omega)
    rw [hbl] at hN
    have HN := Aside0.mk hN
    have HBL := Aside0.mk hbl
    have HB0 := Aside0.mk (bytes_below (Below.refl w.heap.size w) (Nat.le_refl _) 5 s)
    have hs2 : s.size ≤ 65535 := by omega
    clear hrd hN hbl hbig
    go_enter Try.func23, Try.ntmps23
    go_wp2_with fail
    refine HN.out.mono ?_
    rintro e w1 ⟨g, B, rfl, hg, hB, hcur, hbel⟩
    have HC := Aside0.mk hcur
    have HZ := Aside0.mk hB
    have HG := Aside0.mk (HB0.out.trans (hbel.mono HB0.out.size))
    have HGG := Aside0.mk (Nat.le_trans HB0.out.size hg)
    clear hcur hB hbel hg HN HB0
    go_wp2_with fail
    go_loopg [5] (s.size + 2) (fun gk v5 wr => ∃ (c : CS) (acc : List (Int × ByteArray)) (k : Nat) (A5 : Option Addr) (c5 : Nat), v5 = .slice A5 acc.length c5 ∧ acc.length * 4 ≤ c.at_ ∧ c.data.length = s.size ∧ c.at_ ≤ c.data.length ∧ s.size + 1 ≤ c.at_ + k ∧ s.size + 1 ≤ c.at_ + gk ∧
      Aside0 (Cur wr B g c) ∧ Aside0 (B ≤ wr.heap.size) ∧ Aside0 (Below w.heap.size w wr) ∧ Aside0 (wr.ownsRow w.heap.size 49 2 (.slice A5 acc.length c5) acc.length (acc.flatMap encX)) ∧ Aside0 (splitF s = splitGo k c acc))
    case atStart => exact ⟨⟨bytesOf s, 0, 0⟩, [], s.size + 1, none, 0, rfl, by simp, HBL.out, Nat.zero_le _, by simp, by simp, HC, HZ, HG, ⟨own_nil _ _ _ _⟩, HSF⟩
    case round =>
      obtain ⟨c, acc, k, A5, c5, rfl, hacc, hdl, hat, hk, hgk, HCk, HZk, HGk, HOk, HEk⟩ := hrel
      clear HC HZ HG HSF
      by_cases hlt : c.at_ < c.data.length
      · have hltb : decide ((0 : Int) < (c.data.length : Int) - (c.at_ : Int)) = true := decide_eq_true (by omega)
        obtain ⟨k, rfl⟩ : ∃ q, k = q + 1 := ⟨k - 1, by omega⟩
        have hy : ∀ x ∈ c.data, 0 ≤ x ∧ x < 256 := by obtain ⟨_, _, _, _, _, _, _, hy⟩ := HCk.out; exact hy
        obtain ⟨m, hm⟩ : ∃ m : Nat, nm ((c.adv 2).next 2) = (m : Int) := ⟨(nm ((c.adv 2).next 2)).toNat, (Int.toNat_of_nonneg (nm_ok (c := c.adv 2) (n := 2) (by rw [adv_data]; exact hy) (by omega)).1).symm⟩
        have hm2 : (m : Int) ≤ 4611686018427387904 := by have := (nm_ok (c := c.adv 2) (n := 2) (by rw [adv_data]; exact hy) (by omega)).2; omega
        have hst := splitGo_step k c acc hlt
        rw [hm, Int.toNat_natCast] at hst
        have HST := Aside0.mk hst
        have HM := Aside0.mk hm
        obtain ⟨t, ht⟩ : ∃ t, nm (c.next 2) = t := ⟨_, rfl⟩
        obtain ⟨d, hd⟩ : ∃ d, strOfNums (((c.adv 2).adv 2).next m) = d := ⟨_, rfl⟩
        have HTT := Aside0.mk ht
        have HDD := Aside0.mk hd
        have hsz : acc.length ≤ 65535 := by omega
        clear hst hm ht hd hy
        go_wp2_with fail
        refine (left_calls _ B g _ HCk.out).mono ?_
        rintro e w2 ⟨rfl, nq, rfl⟩
        go_wp2_with fail
        refine (c16_calls _ B g _ (show Cur (wr.drewN nq) B g c from HCk.out) HZk.out).mono ?_
        rw [HTT.out]
        rintro e w3 ⟨rfl, hb, hf⟩
        have HC2 := Aside0.mk hb
        have HZ2 := Aside0.mk (Nat.le_trans HZk.out hf.size)
        have HO2 := Aside0.mk (row_call (wr := wr.drewN nq) HOk.out HCk.out hf)
        have hGd : Below w.heap.size w (wr.drewN nq) := ⟨HGk.out.os, HGk.out.tape, HGk.out.output, HGk.out.size, HGk.out.block⟩
        have HG2 := Aside0.mk (hGd.trans (hf.to_below HGk.out.size (fun q hq => by rw [hq]; exact HGG.out)))
        clear hGd
        clear hb hf HCk HZk HOk HGk
        go_wp2_with fail
        refine (c16_calls _ B g _ HC2.out HZ2.out).mono ?_
        rw [HM.out]
        rintro e w4 ⟨rfl, hb, hf⟩
        have HC3 := Aside0.mk hb
        have HZ3 := Aside0.mk (Nat.le_trans HZ2.out hf.size)
        have HO3 := Aside0.mk (row_call HO2.out HC2.out hf)
        have HG3 := Aside0.mk (HG2.out.trans (hf.to_below HG2.out.size (fun q hq => by rw [hq]; exact HGG.out)))
        clear hb hf HC2 HZ2 HO2 HG2
        go_wp2_with fail
        refine (ctext_calls _ B g _ m HC3.out hm2).mono ?_
        rw [HDD.out]
        rintro e w5 ⟨rfl, hb, hf⟩
        have HC4 := Aside0.mk hb
        have HZ4 := Aside0.mk (Nat.le_trans HZ3.out hf.size)
        have HO4 := Aside0.mk (row_call HO3.out HC3.out hf)
        have HG4 := Aside0.mk (HG3.out.trans (hf.to_below HG3.out.size (fun q hq => by rw [hq]; exact HGG.out)))
        clear hb hf HC3 HZ3 HO3 HG3
        have hw5 := HG4.out.size
        go_wp2_with (at_builtin; refine wpList_append_lies _ (by rfl) _ _ _ (by rfl) w.heap.size 49 j0 _ 2 24 Try.underlying42 hj0 hy0 hy1 hy2 rfl (by omega) (.slice A5 acc.length c5) acc.length (acc.flatMap encX) ?b1 (HO4.out.alloc _) ⟨w5.heap.size, 0, none⟩ 1 1 [.int .i64 t, .string d] ?b2 ?b3 ?b4 ?b5 (by omega) ?b7 ?b8 ?b9 (w5.heap.size + 1) ?b10 ?b11; (case b1 => rfl); (case b2 => rfl); (case b3 => rfl); (case b4 => exact World.news_of_block (cs := #[.int .i64 t, .string d]) (t := 49) (fr := (0, 0)) (heap_alloc_new w5 _)); (case b5 => simp [Value.oneCell']); (case b7 => simp only [maxLen]; omega); (case b8 => omega); (case b9 => simp; omega); (case b10 => simp); intro gg cap w6 hown1 hgrow hat6 hlt6)
        have HC5 := Aside0.mk ((HC4.out.alloc (.cells #[.int .i64 t, .string d] 49)).grown (HO4.out.alloc _) hgrow)
        have HZ5 := Aside0.mk (Nat.le_trans HZ4.out (Nat.le_trans (by simp) hgrow.size))
        have HG5 := Aside0.mk (below_app HG4.out HO4.out hgrow)
        have HO5 := Aside0.mk hown1
        clear hown1 hgrow hat6 hlt6 HC4 HZ4 HO4 HG4 hw5
        refine (cerr_calls _ B g _ HC5.out).mono ?_
        rintro e w7 ⟨rfl, nr, rfl⟩
        have hG7 : Below w.heap.size w (w6.drewN nr) := ⟨HG5.out.os, HG5.out.tape, HG5.out.output, HG5.out.size, HG5.out.block⟩
        have HG7 := Aside0.mk hG7
        have HAT := Aside0.mk (fun he => adv_more (c := c) m hat he)
        clear hG7
        by_cases he : (((c.adv 2).adv 2).adv m).err = 0
        · have heb : ((((c.adv 2).adv 2).adv m).err != 0) = false := by simpa using he
          have HE2 := Aside0.mk (show splitF s = splitGo k (((c.adv 2).adv 2).adv m) (acc ++ [(t, d)]) by rw [HEk.out, HST.out, if_neg (by simpa using he), HTT.out, HDD.out])
          have HA2 := HAT.out he
          have HL2 := (adv_at_le (c := (c.adv 2).adv 2) (n := m) (adv_at_le (c := c.adv 2) (n := 2) (adv_at_le (c := c) (n := 2) hat).2).2).2
          have HD2 : (((c.adv 2).adv 2).adv m).data.length = s.size := by rw [adv_data, adv_data, adv_data, hdl]
          have HX2 := Aside0.mk (And.intro HA2 (And.intro HL2 HD2))
          clear HA2 HL2 HD2 HAT HST HEk he
          go_wp2_with fail
          go_roundg (s.size - c.at_)
          case measure => omega
          case rel =>
            obtain ⟨h1, h2, h3⟩ := HX2.out
            exact ⟨((c.adv 2).adv 2).adv m, acc ++ [(t, d)], k, some ⟨gg, 0, none⟩, cap, by simp, by simp; omega, h3, h2, by omega, by omega, ⟨show Cur (w6.drewN nr) B g _ from HC5.out⟩, HZ5, HG7, ⟨by rw [flatX_snoc, List.length_append]; exact HO5.out⟩, HE2⟩
        · have heb : ((((c.adv 2).adv 2).adv m).err != 0) = true := by simpa using he
          have HE2 := Aside0.mk (show splitF s = ([], 122) by rw [HEk.out, HST.out, if_pos (by simpa using he)])
          go_wp2_with fail
          go_ret2
          exact ⟨_, by rw [HE2.out]; rfl, by rw [HE2.out]; exact own_nil _ _ _ _, HG7.out⟩
      · have hltb : decide ((0 : Int) < (c.data.length : Int) - (c.at_ : Int)) = false := decide_eq_false (by omega)
        have HF := Aside0.mk (HEk.out.trans (splitGo_end k c acc hlt))
        go_wp2_with fail
        refine (left_calls _ B g _ HCk.out).mono ?_
        rintro e w2 ⟨rfl, nq, rfl⟩
        go_wp2_with fail
        go_ret2
        exact ⟨_, by rw [HF.out]; rfl, by rw [HF.out]; exact HOk.out, ⟨HGk.out.os, HGk.out.tape, HGk.out.output, HGk.out.size, HGk.out.block⟩⟩

set_option maxHeartbeats 4000000 in
set_option maxRecDepth 100000 in
theorem rnumber_calls (w : World) (A : Option Addr) (cp : Nat) (l : List Int) (x : Int) (n : Nat) (hC : Kd.C (Kd.int .u8) w A l.length l) (hl : l.length ≤ 140737488355328) (hy : ∀ x ∈ l, 0 ≤ x ∧ x < 256) (hx0 : 0 ≤ x) (hx1 : x + n ≤ l.length) (hn : n ≤ 4) :
    Calls Try.prog 60 #[.slice A l.length cp, .int .i64 x, .int .i64 n] w fun e w' => e = .returned (.int .i64 (nm ((l.take (x.toNat + n)).drop x.toNat))) ∧ Drawn0 w w' := by
  obtain ⟨a, rfl⟩ := Int.eq_ofNat_of_zero_le hx0
  rw [Int.toNat_natCast]
  have hlen := mid_len (l := l) (a := a) (n := n) (by omega)
  have HY := Aside0.mk (show ∀ z ∈ (l.take (a + n)).drop a, 0 ≤ z ∧ z < 256 from fun z hz => hy z (List.mem_of_mem_take (List.mem_of_mem_drop hz)))
  have HG := Aside0.mk (show ∀ j, j < n → ((l.take (a + n)).drop a).getD j 0 = l.getD (a + j) 0 from fun j hj => by
    rw [List.getD_eq_getElem?_getD, List.getD_eq_getElem?_getD, List.getElem?_drop, List.getElem?_take_of_lt (by omega)])
  have HC := Aside0.mk hC
  have HL := Aside0.mk hlen
  clear hC hy hlen
  generalize (l.take (a + n)).drop a = part at HY HG HL ⊢
  go_enter Try.func60, Try.ntmps60
  go_wp2
  go_loopg [7, 8] 6 (fun gk v7 v8 wr => ∃ (j q : Nat), v7 = .int .i64 (nm (part.drop j)) ∧ v8 = .int .i64 ((j : Int) - 1) ∧ j ≤ n ∧ j + 1 ≤ gk ∧ wr = w.drewN q)
  case atStart => exact ⟨n, 0, by rw [List.drop_eq_nil_of_le (by rw [HL.out]; exact Nat.le_refl _)]; rfl, by first | rfl | (rw [IntWalk.i64_in _ (by omega)]), Nat.le_refl _, by omega, rfl⟩
  case round =>
    obtain ⟨j, q, rfl, rfl, hj, hjk, rfl⟩ := hrel
    by_cases h0 : j = 0
    · subst h0
      go_wp2
      go_ret
      exact ⟨rfl, ⟨_, rfl⟩⟩
    · obtain ⟨j, rfl⟩ : ∃ q, j = q + 1 := ⟨j - 1, by omega⟩
      have ej : (((j + 1 : Nat) : Int) - 1) = (j : Int) := by omega
      rw [ej]
      clear ej
      obtain ⟨ad, hA, hcell⟩ := ReadsOf.at_ (Kd.reads_of_C (enc := Value.int .u8) (d := (0 : Int)) (h1 := fun _ => rfl) HC.out) ((a : Int) + (j : Int)) (by omega) (by omega)
      have hLL := HL.out
      have hxj : rdOf 0 l ((a : Int) + (j : Int)) = part.getD j 0 := by
        rw [HG.out j (by omega), rdOf, show ((a : Int) + (j : Int)).toNat = a + j by omega]
      rw [hxj, show ((a : Int) + (j : Int)).toNat = a + j by omega] at hcell
      have hx := HY.out (part.getD j 0) (by rw [List.getD_eq_getElem?_getD, List.getElem?_eq_getElem (by omega)]; exact List.getElem_mem _)
      subst hA
      have hr0 : 0 ≤ nm (part.drop (j + 1)) ∧ nm (part.drop (j + 1)) < 16777216 := by
        have h1 := nm_range (part.drop (j + 1)) (fun x hx => HY.out x (List.mem_of_mem_drop hx))
        have h2 : (part.drop (j + 1)).length ≤ 3 := by rw [List.length_drop]; omega
        have h3 : (256 : Int) ^ (part.drop (j + 1)).length ≤ 256 ^ 3 := by
          generalize (part.drop (j + 1)).length = q at h2
          match q, h2 with
          | 0, _ => decide
          | 1, _ => decide
          | 2, _ => decide
          | 3, _ => decide
        omega
      have hstep : nm (part.drop j) = 256 * nm (part.drop (j + 1)) + part.getD j 0 := by
        rw [List.drop_eq_getElem_cons (by omega : j < part.length), nm, List.getD_eq_getElem?_getD, List.getElem?_eq_getElem (by omega)]
        simp only [Option.getD_some]
        omega
      have HST := Aside0.mk hstep
      have hcell' : (w.drewN q).cell? (ad.add (a + j)) = some (.int .u8 (part.getD j 0)) := hcell
      clear hstep hxj hLL hcell
      generalize part.getD j 0 = x at *
      generalize nm (part.drop (j + 1)) = v at *
      obtain ⟨hx0', hx1'⟩ := hx
      obtain ⟨hv0, hv1⟩ := hr0
      have q1 : (0 : Int) ≤ (a : Int) + (j : Int) := by omega
      have q2 : (a : Int) + (j : Int) < (l.length : Int) := by omega
      have q3 : ((a : Int) + (j : Int)).toNat = a + j := by omega
      have q4 : (a : Int) + (j : Int) ≤ 140737488355328 := by omega
      go_wp2
      go_roundg (j + 1)
      case measure => omega
      case rel => exact ⟨j, q, by rw [HST.out], rfl, by omega, by omega, rfl⟩
end Go.Proofs.Ytkmnhlhpmfkloaa.Fld
