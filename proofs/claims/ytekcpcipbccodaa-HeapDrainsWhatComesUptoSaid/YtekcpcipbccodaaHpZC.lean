/- HeapDrainsWhatComes: walked by hand. -/
import Derived.Test.YtekcpcipbccodaaHpY
import Derived.Test.YtekcpcipbccodaaHpW
namespace Go.Proofs.Ytekcpcipbccodaa.Mem
open Go.RowKit Go.Proofs.YtekcpcipbccodaaW.PrintWords Go.Proofs.YtekcpcipbccodaaW.PrintLast Go.Proofs.YtekcpcipbccodaaW.PrintMore
attribute [local go_sem] Oper.semAt_some eql_nilFunc
set_option linter.unusedVariables false
set_option linter.unusedSimpArgs false

set_option maxHeartbeats 4000000 in
set_option maxRecDepth 100000 in
theorem comes_calls (w : World) (A : Option Addr) (cp : Nat) (keys : List Int) (A1 : Option Addr) (c1 : Nat) (more : List Int) (hC : Kd.C (Kd.int .i64) w A keys.length keys) (hC1 : Kd.C (Kd.int .i64) w A1 more.length more) (hl : keys.length + more.length ≤ 1048576) :
    Calls Try.prog 7 #[.slice A keys.length cp, .slice A1 more.length c1] w fun e w' => e = .returned (.bool true) ∧ Below w.heap.size w w' := by
  have HC := Aside0.mk hC
  have HC1 := Aside0.mk hC1
  clear hC hC1
  refine (callsIn_wide (n := 6)).1 ?_
  refine callsIn_of_wp_marks Try.func7 rfl trivial ?_ rfl
  simp only [Try.ntmps7, List.size_toArray, List.length_cons, List.length_nil, Nat.reduceAdd, Nat.reduceSub, Array.replicate_succ, Array.replicate_zero, List.push_toArray, List.append_toArray, List.nil_append, List.cons_append]
  refine wpIn_wide.2 ?_
  go_wp2_with (first
    | (go_at_call 15; refine (new_calls _).mono ?_; rintro e w1 ⟨g, rfl, hg, hHg, hbg⟩; replace hg := Aside0.mk hg; replace hHg := Aside0.mk hHg; replace hbg := Aside0.mk hbg)
    | (go_at_call 16; refine (rnew_calls _).mono ?_; rintro e w2 ⟨r, rfl, hr, hHr, hbr⟩; replace hr := Aside0.mk hr; replace hHr := Aside0.mk hHr; replace hbr := Aside0.mk hbr))
  have hP := Aside0.mk (pd_start (o6 := Obj.cells #[Value.pointer (some { block := r, off := 0 })] 25) hg.out hHg.out hbg.out hr.out hHr.out hbr.out)
  have hz : w.heap.size + 2 ≤ w1.heap.size := by have := hbg.out.size; simp at this; omega
  have hz2 : w1.heap.size + 1 ≤ w2.heap.size := by have := hbr.out.size; simp at this; omega
  clear hg hHg hbg hr hHr hbr
  obtain ⟨b5, hb5⟩ : ∃ b, b = w1.heap.size := ⟨_, rfl⟩
  obtain ⟨b6, hb6⟩ : ∃ b, b = w2.heap.size := ⟨_, rfl⟩
  rw [← hb5] at hz hz2 hP ⊢
  rw [← hb6] at hz2 hP ⊢
  obtain ⟨w3, hw3⟩ : ∃ w3, w3 = w2.alloc (Obj.cells #[Value.pointer (some { block := r, off := 0 })] 25) := ⟨_, rfl⟩
  rw [← hw3] at hP ⊢
  clear hb5 hb6 hw3
  obtain ⟨bx, hbx⟩ : ∃ bx, bx = [(b6, Obj.cells #[Value.pointer (some { block := r, off := 0 })] 25), (b5, Obj.cells #[Value.pointer (some { block := g, off := 0 })] 23), (w.heap.size + 1, Obj.cells #[Value.bool false] 4), (w.heap.size, Obj.cells #[Value.slice A1 more.length c1] 32)] := ⟨_, rfl⟩
  rw [← hbx] at hP
  have m6 : (b6, Obj.cells #[Value.pointer (some { block := r, off := 0 })] 25) ∈ bx := by rw [hbx]; simp
  have m5 : (b5, Obj.cells #[Value.pointer (some { block := g, off := 0 })] 23) ∈ bx := by rw [hbx]; simp
  have m4 : (w.heap.size + 1, Obj.cells #[Value.bool false] 4) ∈ bx := by rw [hbx]; simp
  have m3 : (w.heap.size, Obj.cells #[Value.slice A1 more.length c1] 32) ∈ bx := by rw [hbx]; simp
  replace hbx := Aside0.mk hbx
  go_loopg [7] (keys.length + 1) (fun gk v7 wr => ∃ i : Nat, v7 = .int .i64 i ∧ i ≤ keys.length ∧ keys.length + 1 ≤ i + gk ∧ Aside0 (Pd w (fun _ => False) bx g r (tag (keys.take i)) (tag (keys.take i)) i wr))
  case atStart => exact ⟨0, by go_num, by omega, by omega, ⟨by simpa [tag] using hP.out⟩⟩
  case round =>
    obtain ⟨i, rfl, hi, hgk, HP⟩ := hrel
    clear hP
    by_cases hlt : i < keys.length
    · have hltb : decide ((i : Int) < (keys.length : Int)) = true := decide_eq_true (by omega)
      obtain ⟨ad, hA, hcell⟩ := ReadsOf.at_ (Kd.reads_of_C (enc := Value.int .i64) (d := (0 : Int)) (h1 := fun _ => rfl) HC.out) (i : Int) (by omega) (by omega)
      rw [Int.toNat_natCast] at hcell
      subst hA
      have hd : keys.take (i + 1) = keys.take i ++ [rdOf 0 keys (i : Int)] := by
        rw [List.take_succ_eq_append_getElem hlt, rdOf, Int.toNat_natCast, List.getD_eq_getElem?_getD, List.getElem?_eq_getElem hlt]
        rfl
      have HD := Aside0.mk hd
      clear hd
      generalize rdOf 0 keys (i : Int) = x at *
      have q3 : (i : Int) < (keys.length : Int) := by omega
      have hti : (tag (keys.take i)).length = i := by rw [tag_len, List.length_take]; omega
      have HT := Aside0.mk hti
      have HK : ∀ W, Below w.heap.size w W → W.cell? (ad.add i) = some (.int .i64 x) := fun W hb => (hb.cell (World.block_lt_of_cell? w _ hcell)).trans hcell
      replace HK := Aside0.mk HK
      clear hti hcell
      have c5 : wr.cell? ⟨b5, 0, none⟩ = some (.pointer (some ⟨g, 0, none⟩)) := blk_cell (HP.out.cst _ m5) 0
      have ck : wr.cell? (ad.add i) = some (.int .i64 x) := HK.out _ HP.out.bel
      go_wp2_with fail
      go_region_held3 (fun w' => w'.cell? ⟨b5, 0, none⟩ = some (.pointer (some ⟨g, 0, none⟩)) ∧ w'.cell? (ad.add i) = some (.int .i64 x))
        (first | (go_keep; done) | (go_split_ands; exact ⟨blk_cell (hp4.out.cst _ m5) 0, HK.out _ hp4.out.bel⟩))
        (first | (go_at_call 29; refine (pd_push x i HP.out.drew (by omega) (by omega) (by rw [HT.out]; omega)).mono ?_; rintro e w4 ⟨rfl, hp4, _⟩; replace hp4 := Aside0.mk hp4))
      clear c5 ck
      have c6 : w4.cell? ⟨b6, 0, none⟩ = some (.pointer (some ⟨r, 0, none⟩)) := blk_cell (hp4.out.cst _ m6) 0
      have ck : w4.cell? (ad.add i) = some (.int .i64 x) := HK.out _ hp4.out.bel
      go_wp2_with fail
      go_region_held3 (fun w' => w'.cell? ⟨b6, 0, none⟩ = some (.pointer (some ⟨r, 0, none⟩)) ∧ w'.cell? (ad.add i) = some (.int .i64 x))
        (first | (go_keep; done) | (go_split_ands; exact ⟨blk_cell (hp5.out.cst _ m6) 0, HK.out _ hp5.out.bel⟩))
        (first | (go_at_call 30; refine (pd_rpush x i i hp4.out.drew (by rw [HT.out]; omega)).mono ?_; rintro e w5 ⟨rfl, hp5, _⟩; replace hp5 := Aside0.mk hp5))
      clear c6 ck
      go_wp2_with fail
      go_roundg (keys.length - i)
      case measure => omega
      case rel => exact ⟨i + 1, by go_num, by omega, by omega, ⟨by rw [HD.out, tag_snoc, List.length_take, Nat.min_eq_left hi]; exact hp5.out⟩⟩
    · have hltb : decide ((i : Int) < (keys.length : Int)) = false := decide_eq_false (by omega)
      obtain rfl : i = keys.length := by omega
      rw [List.take_length] at HP
      have c5 : wr.cell? ⟨b5, 0, none⟩ = some (.pointer (some ⟨g, 0, none⟩)) := blk_cell (HP.out.cst _ m5) 0
      go_wp2_with (first | (go_at_call 31; refine (drain_calls _ _).mono ?_; rintro e w4 ⟨rfl, rfl⟩))
      obtain ⟨B, hB⟩ : ∃ B, B = wr.heap.size := ⟨_, rfl⟩
      have hlo : w.heap.size ≤ B := hB ▸ HP.out.bel.size
      have hbB : ∀ p ∈ bx, p.1 < B := fun p hp => hB ▸ blk_lt (HP.out.cst p hp)
      obtain ⟨P, hPd⟩ : ∃ P : List Nd → Nat → Int → Prop, Aside0 (P = fun (L : List Nd) (n : Nat) (T : Int) => L.length + n = keys.length + min n more.length ∧ T = ((keys.length + min n more.length : Nat) : Int) ∧ (keys.length = 0 → n = 0)) := ⟨_, ⟨rfl⟩⟩
      obtain ⟨vr0, hst⟩ := s_start (P := P) HP.out hB.symm (by rw [hPd.out]; exact ⟨by rw [tag_len]; omega, by simp, fun _ => rfl⟩)
      obtain ⟨W0, hW0⟩ : ∃ W0, W0 = ((wr.alloc (Obj.cells #[Value.pointer (some { block := g, off := 0 })] 23)).alloc (Obj.cells #[Value.int IntKind.i64 0] 3)) := ⟨_, rfl⟩
      have hs0 : W0.heap.size = B + 2 := by rw [hW0, hB]; simp
      rw [← hW0] at hst
      rw [← hW0, ← hB]
      clear hW0 hB HP c5
      replace hst := Aside0.mk hst
      replace hbB := Aside0.mk hbB
      refine (wpIn_wide (n := 6)).1 ?_
      refine wpIn_range_st (σ := DS) (α := Nd) rfl (by omega) (gf := 53) (lb := #[.pointer (some ⟨B, 0, none⟩)]) rfl trivial (enters_of Try.func53 (by kernel_rfl) rfl) (encs := fun x => #[.int .i64 x.key, .int .i64 x.val])
        (DrJ B g (sX w B g bx r) (fun s => s.1) (fun s => s.2.2.2) (sI w B g bx r P)) (DrD B g (sX w B g bx r) (fun s => s.1) (fun s => s.2.2.2) (sI w B g bx r P)) (DrM B g (sX w B g bx r) (fun s => s.1) (fun s => s.2.2.2) (sI w B g bx r P))
        (fun _ _ => False) (fun s' s => s'.1.length + (more.length - s'.2.2.1) < s.1.length + (more.length - s.2.2.1)) (tag keys, vr0, 0, (keys.length : Int)) ?seq (fun _ => rfl) ?f1 ?f2 ?f3 (fun _ _ _ _ _ _ _ h => h) ?start ?a1 ?assign ?body ?done ?stop
      case seq =>
        rw [hs0]
        exact drain_st (σ := DS) _ B g (B + 2) (B + 2 + 1) (sX w B g bx r) (fun s => s.1) (fun s => s.2.2.2) (sI w B g bx r P) (fun s => s.1.length + (more.length - s.2.2.1)) _ sX_B sI_keepX (fun s W h => by have := h.2; rw [hPd.out] at this; have := this.1; show s.1.length * 24 ≤ _; omega)
      case assign =>
        intro l x W K hK
        gi_wp2
        exact hK
      case body =>
        rintro ⟨L, vr, n, T⟩ x W hM
        rw [hs0]
        obtain ⟨hW, hPP, hne, rfl⟩ := s_ofM hM
        rw [hPd.out] at hPP
        obtain ⟨hln, hT, hz0⟩ := hPP
        dsimp only at hW hln hne hT hz0
        have hrl := rest_len hne
        replace hW := Aside0.mk hW
        replace hne := Aside0.mk hne
        have c6 : W.cell? ⟨b6, 0, none⟩ = some (.pointer (some ⟨r, 0, none⟩)) := blk_cell (hW.out.cst _ (.tail _ (.tail _ m6))) 0
        clear hM
        have hT0 : 0 ≤ T := by omega
        have hT1 : T < 4611686018427387904 := by omega
        have hml : min n more.length ≤ more.length := Nat.min_le_right _ _
        by_cases hn : n < more.length
        · have hnb : decide ((n : Int) < (more.length : Int)) = true := decide_eq_true (by omega)
          obtain ⟨ad1, hA1, hcell1⟩ := ReadsOf.at_ (Kd.reads_of_C (enc := Value.int .i64) (d := (0 : Int)) (h1 := fun _ => rfl) HC1.out) (n : Int) (by omega) (by omega)
          rw [Int.toNat_natCast] at hcell1
          subst hA1
          generalize rdOf 0 more (n : Int) = x1 at hcell1
          have HK1 : ∀ W, Below w.heap.size w W → W.cell? (ad1.add n) = some (.int .i64 x1) := fun W hb => (hb.cell (World.block_lt_of_cell? w _ hcell1)).trans hcell1
          replace HK1 := Aside0.mk HK1
          clear hcell1
          have q3 : (n : Int) < (more.length : Int) := by omega
          gi_wp2_with (first | (refine ⟨trivial, ?_⟩; refine (calls_round (pd_rpop hW.out hne.out (by omega))).mono ?_; rintro e w5 ⟨rfl, hp5, hk5⟩; have c3 : w5.cell? ⟨w.heap.size, 0, none⟩ = some (.slice (some ad1) more.length c1) := blk_cell (hp5.cst _ (.tail _ (.tail _ m3))) 0; have c9 : w5.cell? ⟨B + 1, 0, none⟩ = some (.int .i64 n) := blk_cell (hp5.cst _ (.head _)) 0; have z9 : w5.frozen? ⟨B + 1, 0, none⟩ = false := blk_frozen (hp5.cst _ (.head _)) 0;  have c5 : w5.cell? ⟨b5, 0, none⟩ = some (.pointer (some ⟨g, 0, none⟩)) := blk_cell (hp5.cst _ (.tail _ (.tail _ m5))) 0; have c6 : w5.cell? ⟨b6, 0, none⟩ = some (.pointer (some ⟨r, 0, none⟩)) := blk_cell (hp5.cst _ (.tail _ (.tail _ m6))) 0; have ck : w5.cell? (ad1.add n) = some (.int .i64 x1) := HK1.out _ hp5.bel; replace hp5 := Aside0.mk hp5; replace hk5 := Aside0.mk hk5))
          refine region_round (S := (fun w' => w'.cell? ⟨b5, 0, none⟩ = some (.pointer (some ⟨g, 0, none⟩)) ∧ w'.cell? ⟨w.heap.size, 0, none⟩ = some (.slice (some ad1) more.length c1) ∧ w'.cell? ⟨B + 1, 0, none⟩ = some (.int .i64 n) ∧ w'.cell? (ad1.add n) = some (.int .i64 x1))) (by kernel_rfl) (by kernel_rfl) (fun _ _ h => h) ⟨c5, c3, c9, ck⟩ (fun hHeld => ?_)
          refine wpAnyH_take (i := 0) (oi := { dst := some 69, op := Go.Op.load 23 (Go.Operand.tmp 5), type := 23, pos := "heap.go:206", after := #[], guard := none }) (v := ?v0) rfl (by kernel_rfl) (by kernel_rfl) (by kernel_rfl) (fun _ _ _ h => False.elim h) (Or.inl ⟨by rfl, ?hy0⟩) (by assumption) ?rest0
          case hy0 => (intro w_ hSw; (try dsimp only at hSw); go_simp; (try with_reducible rfl))
          try simp only [Act.put, List.setIfInBounds_toArray, List.set_cons_zero, List.set_cons_succ]
          refine wpAnyH_take (i := 1) (oi := { dst := some 70, op := Go.Op.load 32 (Go.Operand.tmp 3), type := 32, pos := "heap.go:206", after := #[], guard := none }) (v := ?v1) rfl (by kernel_rfl) (by kernel_rfl) (by kernel_rfl) (fun _ _ _ h => False.elim h) (Or.inl ⟨by rfl, ?hy1⟩) (by assumption) ?rest1
          case hy1 => (intro w_ hSw; (try dsimp only at hSw); go_simp; (try with_reducible rfl))
          try simp only [Act.put, List.setIfInBounds_toArray, List.set_cons_zero, List.set_cons_succ]
          refine wpAnyH_take (i := 2) (oi := { dst := some 71, op := Go.Op.load 3 (Go.Operand.tmp 9), type := 3, pos := "heap.go:206", after := #[], guard := none }) (v := ?v2) rfl (by kernel_rfl) (by kernel_rfl) (by kernel_rfl) (fun _ _ _ h => False.elim h) (Or.inl ⟨by rfl, ?hy2⟩) (by assumption) ?rest2
          case hy2 => (intro w_ hSw; (try dsimp only at hSw); go_simp; (try with_reducible rfl))
          try simp only [Act.put, List.setIfInBounds_toArray, List.set_cons_zero, List.set_cons_succ]
          refine wpAnyH_take (i := 3) (oi := { dst := some 72, op := Go.Op.indexAddr 32 (Go.Operand.tmp 70) (Go.Operand.tmp 71), type := 0, pos := "heap.go:206", after := #[{ on := 1, ground := Go.Ground.data }, { on := 2, ground := Go.Ground.data }], guard := none }) (v := ?v3) rfl (by kernel_rfl) (by kernel_rfl) (by kernel_rfl) (fun _ _ _ h => False.elim h) (Or.inl ⟨by rfl, ?hy3⟩) (by assumption) ?rest3
          case hy3 => (intro w_ hSw; (try dsimp only at hSw); go_simp; (try with_reducible rfl))
          try simp only [Act.put, List.setIfInBounds_toArray, List.set_cons_zero, List.set_cons_succ]
          refine wpAnyH_take (i := 4) (oi := { dst := some 73, op := Go.Op.load 3 (Go.Operand.tmp 72), type := 3, pos := "heap.go:206", after := #[{ on := 3, ground := Go.Ground.data }], guard := none }) (v := ?v4) rfl (by kernel_rfl) (by kernel_rfl) (by kernel_rfl) (fun _ _ _ h => False.elim h) (Or.inl ⟨by rfl, ?hy4⟩) (by assumption) ?rest4
          case hy4 => (intro w_ hSw; (try dsimp only at hSw); go_simp; (try with_reducible rfl))
          try simp only [Act.put, List.setIfInBounds_toArray, List.set_cons_zero, List.set_cons_succ]
          refine wpAnyH_take (i := 5) (oi := { dst := some 74, op := Go.Op.load 3 (Go.Operand.tmp 9), type := 3, pos := "heap.go:206", after := #[], guard := none }) (v := ?v5) rfl (by kernel_rfl) (by kernel_rfl) (by kernel_rfl) (fun _ _ _ h => False.elim h) (Or.inl ⟨by rfl, ?hy5⟩) (by assumption) ?rest5
          case hy5 => (intro w_ hSw; (try dsimp only at hSw); go_simp; (try with_reducible rfl))
          try simp only [Act.put, List.setIfInBounds_toArray, List.set_cons_zero, List.set_cons_succ]
          refine wpAnyH_take (i := 6) (oi := { dst := some 75, op := Go.Op.binOp Go.BinOp.sub 3 (Go.Operand.const (Go.Value.int Go.IntKind.i64 (-1))) (Go.Operand.tmp 74) 3, type := 3, pos := "heap.go:206", after := #[{ on := 5, ground := Go.Ground.data }], guard := none }) (v := ?v6) rfl (by kernel_rfl) (by kernel_rfl) (by kernel_rfl) (fun _ _ _ h => False.elim h) (Or.inl ⟨by rfl, ?hy6⟩) (by assumption) ?rest6
          case hy6 => (intro w_ hSw; (try dsimp only at hSw); go_simp; (try with_reducible rfl))
          try simp only [Act.put, List.setIfInBounds_toArray, List.set_cons_zero, List.set_cons_succ]
          refine wpAnyH_ready (rs := [7]) (by kernel_rfl) (by simp) ?_
          refine AllReadyH.cons (o := { dst := some 76, op := Go.Op.call { callee := Go.Callee.value (Go.Operand.func 29), args := #[Go.Operand.tmp 69, Go.Operand.tmp 73, Go.Operand.tmp 75], argTypes := #[23, 3, 3] }, type := 0, pos := "heap.go:206", after := #[{ on := 0, ground := Go.Ground.data }, { on := 4, ground := Go.Ground.data }, { on := 6, ground := Go.Ground.data }], guard := none }) rfl (fun K hK => ?_) AllReadyH.nil
          go_simp
          refine (pd_push x1 _ hp5.out.drew (by omega) (by omega) (by omega)).mono ?_; rintro e w6 ⟨rfl, hp6, hk6⟩; dsimp only
          refine hK.out _ _ ?_ (fun hHeld => ?_)
          · exact ⟨blk_cell (hp6.cst _ (.tail _ (.tail _ m5))) 0, blk_cell (hp6.cst _ (.tail _ (.tail _ m3))) 0, blk_cell (hp6.cst _ (.head _)) 0, HK1.out _ hp6.bel⟩
          clear hK K
          try simp only [Act.put, List.setIfInBounds_toArray, List.set_cons_zero, List.set_cons_succ]
          refine wpAnyH_done (by kernel_rfl) ?_ _
          clear c3 c9 z9 c5 c6 ck hHeld
          have c3 : w6.cell? ⟨w.heap.size, 0, none⟩ = some (.slice (some ad1) more.length c1) := blk_cell (hp6.cst _ (.tail _ (.tail _ m3))) 0
          have c9 : w6.cell? ⟨B + 1, 0, none⟩ = some (.int .i64 n) := blk_cell (hp6.cst _ (.head _)) 0
          have z9 : w6.frozen? ⟨B + 1, 0, none⟩ = false := blk_frozen (hp6.cst _ (.head _)) 0
          have c5 : w6.cell? ⟨b5, 0, none⟩ = some (.pointer (some ⟨g, 0, none⟩)) := blk_cell (hp6.cst _ (.tail _ (.tail _ m5))) 0
          have c6 : w6.cell? ⟨b6, 0, none⟩ = some (.pointer (some ⟨r, 0, none⟩)) := blk_cell (hp6.cst _ (.tail _ (.tail _ m6))) 0
          have ck : w6.cell? (ad1.add n) = some (.int .i64 x1) := HK1.out _ hp6.bel
          replace hp6 := Aside0.mk hp6
          replace hk6 := Aside0.mk hk6
          gi_wp2_with fail
          refine region_round (S := (fun w' => w'.cell? ⟨b6, 0, none⟩ = some (.pointer (some ⟨r, 0, none⟩)) ∧ w'.cell? ⟨w.heap.size, 0, none⟩ = some (.slice (some ad1) more.length c1) ∧ w'.cell? ⟨B + 1, 0, none⟩ = some (.int .i64 n) ∧ w'.cell? (ad1.add n) = some (.int .i64 x1))) (by kernel_rfl) (by kernel_rfl) (fun _ _ h => h) ⟨c6, c3, c9, ck⟩ (fun hHeld => ?_)
          refine wpAnyH_take (i := 0) (oi := { dst := some 77, op := Go.Op.load 25 (Go.Operand.tmp 6), type := 25, pos := "heap.go:207", after := #[], guard := none }) (v := ?va0) rfl (by kernel_rfl) (by kernel_rfl) (by kernel_rfl) (fun _ _ _ h => False.elim h) (Or.inl ⟨by rfl, ?hya0⟩) (by assumption) ?resta0
          case hya0 => (intro w_ hSw; (try dsimp only at hSw); go_simp; (try with_reducible rfl))
          try simp only [Act.put, List.setIfInBounds_toArray, List.set_cons_zero, List.set_cons_succ]
          refine wpAnyH_take (i := 1) (oi := { dst := some 78, op := Go.Op.load 32 (Go.Operand.tmp 3), type := 32, pos := "heap.go:207", after := #[], guard := none }) (v := ?va1) rfl (by kernel_rfl) (by kernel_rfl) (by kernel_rfl) (fun _ _ _ h => False.elim h) (Or.inl ⟨by rfl, ?hya1⟩) (by assumption) ?resta1
          case hya1 => (intro w_ hSw; (try dsimp only at hSw); go_simp; (try with_reducible rfl))
          try simp only [Act.put, List.setIfInBounds_toArray, List.set_cons_zero, List.set_cons_succ]
          refine wpAnyH_take (i := 2) (oi := { dst := some 79, op := Go.Op.load 3 (Go.Operand.tmp 9), type := 3, pos := "heap.go:207", after := #[], guard := none }) (v := ?va2) rfl (by kernel_rfl) (by kernel_rfl) (by kernel_rfl) (fun _ _ _ h => False.elim h) (Or.inl ⟨by rfl, ?hya2⟩) (by assumption) ?resta2
          case hya2 => (intro w_ hSw; (try dsimp only at hSw); go_simp; (try with_reducible rfl))
          try simp only [Act.put, List.setIfInBounds_toArray, List.set_cons_zero, List.set_cons_succ]
          refine wpAnyH_take (i := 3) (oi := { dst := some 80, op := Go.Op.indexAddr 32 (Go.Operand.tmp 78) (Go.Operand.tmp 79), type := 0, pos := "heap.go:207", after := #[{ on := 1, ground := Go.Ground.data }, { on := 2, ground := Go.Ground.data }], guard := none }) (v := ?va3) rfl (by kernel_rfl) (by kernel_rfl) (by kernel_rfl) (fun _ _ _ h => False.elim h) (Or.inl ⟨by rfl, ?hya3⟩) (by assumption) ?resta3
          case hya3 => (intro w_ hSw; (try dsimp only at hSw); go_simp; (try with_reducible rfl))
          try simp only [Act.put, List.setIfInBounds_toArray, List.set_cons_zero, List.set_cons_succ]
          refine wpAnyH_take (i := 4) (oi := { dst := some 81, op := Go.Op.load 3 (Go.Operand.tmp 80), type := 3, pos := "heap.go:207", after := #[{ on := 3, ground := Go.Ground.data }], guard := none }) (v := ?va4) rfl (by kernel_rfl) (by kernel_rfl) (by kernel_rfl) (fun _ _ _ h => False.elim h) (Or.inl ⟨by rfl, ?hya4⟩) (by assumption) ?resta4
          case hya4 => (intro w_ hSw; (try dsimp only at hSw); go_simp; (try with_reducible rfl))
          try simp only [Act.put, List.setIfInBounds_toArray, List.set_cons_zero, List.set_cons_succ]
          refine wpAnyH_take (i := 5) (oi := { dst := some 82, op := Go.Op.load 3 (Go.Operand.tmp 9), type := 3, pos := "heap.go:207", after := #[], guard := none }) (v := ?va5) rfl (by kernel_rfl) (by kernel_rfl) (by kernel_rfl) (fun _ _ _ h => False.elim h) (Or.inl ⟨by rfl, ?hya5⟩) (by assumption) ?resta5
          case hya5 => (intro w_ hSw; (try dsimp only at hSw); go_simp; (try with_reducible rfl))
          try simp only [Act.put, List.setIfInBounds_toArray, List.set_cons_zero, List.set_cons_succ]
          refine wpAnyH_take (i := 6) (oi := { dst := some 83, op := Go.Op.binOp Go.BinOp.sub 3 (Go.Operand.const (Go.Value.int Go.IntKind.i64 (-1))) (Go.Operand.tmp 82) 3, type := 3, pos := "heap.go:207", after := #[{ on := 5, ground := Go.Ground.data }], guard := none }) (v := ?va6) rfl (by kernel_rfl) (by kernel_rfl) (by kernel_rfl) (fun _ _ _ h => False.elim h) (Or.inl ⟨by rfl, ?hya6⟩) (by assumption) ?resta6
          case hya6 => (intro w_ hSw; (try dsimp only at hSw); go_simp; (try with_reducible rfl))
          try simp only [Act.put, List.setIfInBounds_toArray, List.set_cons_zero, List.set_cons_succ]
          refine wpAnyH_ready (rs := [7]) (by kernel_rfl) (by simp) ?_
          refine AllReadyH.cons (o := { dst := some 84, op := Go.Op.call { callee := Go.Callee.value (Go.Operand.func 30), args := #[Go.Operand.tmp 77, Go.Operand.tmp 81, Go.Operand.tmp 83], argTypes := #[25, 3, 3] }, type := 0, pos := "heap.go:207", after := #[{ on := 0, ground := Go.Ground.data }, { on := 4, ground := Go.Ground.data }, { on := 6, ground := Go.Ground.data }], guard := none }) rfl (fun K hK => ?_) AllReadyH.nil
          go_simp
          refine (pd_rpush x1 _ T hp6.out.drew (by omega)).mono ?_; rintro e w7 ⟨rfl, hp7, hk7⟩; dsimp only
          refine hK.out _ _ ?_ (fun hHeld => ?_)
          · exact ⟨blk_cell (hp7.cst _ (.tail _ (.tail _ m6))) 0, blk_cell (hp7.cst _ (.tail _ (.tail _ m3))) 0, blk_cell (hp7.cst _ (.head _)) 0, HK1.out _ hp7.bel⟩
          clear hK K
          try simp only [Act.put, List.setIfInBounds_toArray, List.set_cons_zero, List.set_cons_succ]
          refine wpAnyH_done (by kernel_rfl) ?_ _
          clear c3 c9 z9 c5 c6 ck hHeld
          have c3 : w7.cell? ⟨w.heap.size, 0, none⟩ = some (.slice (some ad1) more.length c1) := blk_cell (hp7.cst _ (.tail _ (.tail _ m3))) 0
          have c9 : w7.cell? ⟨B + 1, 0, none⟩ = some (.int .i64 n) := blk_cell (hp7.cst _ (.head _)) 0
          have z9 : w7.frozen? ⟨B + 1, 0, none⟩ = false := blk_frozen (hp7.cst _ (.head _)) 0
          have c5 : w7.cell? ⟨b5, 0, none⟩ = some (.pointer (some ⟨g, 0, none⟩)) := blk_cell (hp7.cst _ (.tail _ (.tail _ m5))) 0
          have c6 : w7.cell? ⟨b6, 0, none⟩ = some (.pointer (some ⟨r, 0, none⟩)) := blk_cell (hp7.cst _ (.tail _ (.tail _ m6))) 0
          replace hp7 := Aside0.mk hp7
          replace hk7 := Aside0.mk hk7
          gi_wp2_with fail
          have e1 : min n more.length = n := Nat.min_eq_left (by omega)
          have e2 : min (n + 1) more.length = n + 1 := Nat.min_eq_left (by omega)
          refine s_post (P := P) hp7.out hlo hbB.out ?_ (fun k hk => (hk7.out k hk).trans ((hk6.out k hk).trans (hk5.out k hk))) ?_ _
          · rw [hPd.out]; exact ⟨by rw [List.length_append, List.length_singleton]; omega, by rw [hT]; omega, fun h => by omega⟩
          · intro vr; show (rest L ++ [_]).length + (more.length - (n + 1)) < L.length + (more.length - n); rw [List.length_append, List.length_singleton]; omega
        · have hnb : decide ((n : Int) < (more.length : Int)) = false := decide_eq_false (by omega)
          gi_wp2_with (first | (refine ⟨trivial, ?_⟩; refine (calls_round (pd_rpop hW.out hne.out (by omega))).mono ?_; rintro e w5 ⟨rfl, hp5, hk5⟩; have c3 : w5.cell? ⟨w.heap.size, 0, none⟩ = some (.slice A1 more.length c1) := blk_cell (hp5.cst _ (.tail _ (.tail _ m3))) 0; have c9 : w5.cell? ⟨B + 1, 0, none⟩ = some (.int .i64 n) := blk_cell (hp5.cst _ (.head _)) 0; have z9 : w5.frozen? ⟨B + 1, 0, none⟩ = false := blk_frozen (hp5.cst _ (.head _)) 0;  have c5 : w5.cell? ⟨b5, 0, none⟩ = some (.pointer (some ⟨g, 0, none⟩)) := blk_cell (hp5.cst _ (.tail _ (.tail _ m5))) 0; have c6 : w5.cell? ⟨b6, 0, none⟩ = some (.pointer (some ⟨r, 0, none⟩)) := blk_cell (hp5.cst _ (.tail _ (.tail _ m6))) 0; replace hp5 := Aside0.mk hp5; replace hk5 := Aside0.mk hk5))
          have e1 : min n more.length = more.length := Nat.min_eq_right (by omega)
          have e2 : min (n + 1) more.length = more.length := Nat.min_eq_right (by omega)
          refine s_post (P := P) hp5.out hlo hbB.out ?_ (fun k hk => hk5.out k hk) ?_ _
          · rw [hPd.out]; exact ⟨by omega, by rw [hT]; omega, fun h => by omega⟩
          · intro vr; show (rest L).length + (more.length - (n + 1)) < L.length + (more.length - n); omega
      case f1 =>
        intro s
        rw [hs0]
        exact drJ_free (Y := sY w B g bx r) ⟨by omega, by omega⟩ (fun s => (sX_B s).2) sI_keep (fun s W q h hq => sY_far hlo hbB.out s W q h hq) s
      case f2 =>
        intro s
        rw [hs0]
        exact drD_free (Y := sY w B g bx r) ⟨by omega, by omega⟩ (fun s => (sX_B s).2) sI_keep (fun s W q h hq => sY_far hlo hbB.out s W q h hq) s
      case f3 =>
        intro s x
        rw [hs0]
        exact drM_free (Y := sY w B g bx r) ⟨by omega, by omega⟩ (fun s => (sX_B s).2) sI_keep (fun s W q h hq => sY_far hlo hbB.out s W q h hq) s x
      case start => exact fun o o' => hst.out o o'
      case stop => exact fun _ _ h => h.elim
      case done =>
        rintro ⟨L, vr, n, T⟩ W hD hK
        rw [hs0] at hK
        obtain ⟨hW, hPP⟩ := s_ofD hD
        dsimp only at hW
        clear hD
        rw [hPd.out] at hPP
        obtain ⟨hln, -, hz0⟩ := hPP
        simp only [List.length_nil, Nat.zero_add] at hln
        replace hln := Aside0.mk hln
        replace hz0 := Aside0.mk hz0
        have c3 : W.cell? ⟨w.heap.size, 0, none⟩ = some (.slice A1 more.length c1) := blk_cell (hW.cst _ (.tail _ (.tail _ m3))) 0
        have c9 : W.cell? ⟨B + 1, 0, none⟩ = some (.int .i64 n) := blk_cell (hW.cst _ (.head _)) 0
        have c5 : W.cell? ⟨b5, 0, none⟩ = some (.pointer (some ⟨g, 0, none⟩)) := blk_cell (hW.cst _ (.tail _ (.tail _ m5))) 0
        have c6 : W.cell? ⟨b6, 0, none⟩ = some (.pointer (some ⟨r, 0, none⟩)) := blk_cell (hW.cst _ (.tail _ (.tail _ m6))) 0
        have c4 : W.cell? ⟨w.heap.size + 1, 0, none⟩ = some (.bool false) := blk_cell (hW.cst _ (.tail _ (.tail _ m4))) 0
        have z4 : W.frozen? ⟨w.heap.size + 1, 0, none⟩ = false := blk_frozen (hW.cst _ (.tail _ (.tail _ m4))) 0
        replace hW := Aside0.mk hW
        rw [hs0]
        go_wp2_with (first
          | (go_at_call 18; refine (pd_len hW.out).mono ?_; rintro e w5 ⟨rfl, n5, rfl⟩)
          | (go_at_call 33; refine (pd_rlen (hW.out.drewN _)).mono ?_; rintro e w6 ⟨rfl, n6, rfl⟩))
        all_goals
          first
            | (have hv : ((n : Int) == (keys.length : Int) + (more.length : Int)) = true := beq_iff_eq.2 (by have := hln.out; have := hz0.out; omega)
               simp only [hv])
            | (have hv : ((n : Int) == (keys.length : Int) + (n : Int)) = true := beq_iff_eq.2 (by have := hln.out; have := hz0.out; omega)
               simp only [hv])
            | (have hv : ((n : Int) == (keys.length : Int)) = true := beq_iff_eq.2 (by have := hln.out; have := hz0.out; omega)
               simp only [hv])
            | skip
        all_goals
          obtain ⟨e1, e2, e3⟩ := s_end (hW.out.drewN (n5 + n6)) m4 hlo hbB.out (by omega) hK
          refine ⟨by simp, .inl ⟨_, _, rfl, run_takeDeferred e1, ?_⟩⟩
          exact ⟨_, results_bool rfl _ _ _ _ rfl e2, rfl, e3⟩
end Go.Proofs.Ytekcpcipbccodaa.Mem
