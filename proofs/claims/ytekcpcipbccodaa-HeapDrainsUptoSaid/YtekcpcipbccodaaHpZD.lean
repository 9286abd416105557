/- HeapDrains: walked by hand. -/
import Derived.Test.YtekcpcipbccodaaHpY
import Derived.Test.YtekcpcipbccodaaHpW
namespace Go.Proofs.Ytekcpcipbccodaa.Mem
open Go.RowKit Go.Proofs.YtekcpcipbccodaaW.PrintWords Go.Proofs.YtekcpcipbccodaaW.PrintLast Go.Proofs.YtekcpcipbccodaaW.PrintMore
attribute [local go_sem] Oper.semAt_some eql_nilFunc
set_option linter.unusedVariables false
set_option linter.unusedSimpArgs false

set_option maxHeartbeats 4000000 in
set_option maxRecDepth 100000 in
theorem drains_calls (w : World) (A : Option Addr) (cp : Nat) (keys : List Int) (stop : Int) (hC : Kd.C (Kd.int .i64) w A keys.length keys) (hl : keys.length ≤ 1048576) :
    Calls Try.prog 6 #[.slice A keys.length cp, .int .i64 stop] w fun e w' => e = .returned (.bool true) ∧ Below w.heap.size w w' := by
  have HC := Aside0.mk hC
  clear hC
  refine (callsIn_wide (n := 6)).1 ?_
  refine callsIn_of_wp_marks Try.func6 rfl trivial ?_ rfl
  simp only [Try.ntmps6, List.size_toArray, List.length_cons, List.length_nil, Nat.reduceAdd, Nat.reduceSub, Array.replicate_succ, Array.replicate_zero, List.push_toArray, List.append_toArray, List.nil_append, List.cons_append]
  refine wpIn_wide.2 ?_
  go_wp2_with (first
    | (go_at_call 15; refine (new_calls _).mono ?_; rintro e w1 ⟨g, rfl, hg, hHg, hbg⟩; replace hg := Aside0.mk hg; replace hHg := Aside0.mk hHg; replace hbg := Aside0.mk hbg)
    | (go_at_call 16; refine (rnew_calls _).mono ?_; rintro e w2 ⟨r, rfl, hr, hHr, hbr⟩; replace hr := Aside0.mk hr; replace hHr := Aside0.mk hHr; replace hbr := Aside0.mk hbr))
  have hP := Aside0.mk (pd_start (o6 := Obj.cells #[Value.pointer (some { block := r, off := 0 })] 25) hg.out hHg.out hbg.out hr.out hHr.out hbr.out)
  have hz : w.heap.size + 2 ≤ w1.heap.size := by have := hbg.out.size; simp at this; omega
  have hz2 : w1.heap.size + 1 ≤ w2.heap.size := by have := hbr.out.size; simp at this; omega
  clear hg hHg hbg hr hHr hbr
  obtain ⟨b5, hb5⟩ : ∃ b, b = w1.heap.size := ⟨_, rfl⟩
  obtain ⟨b6, hb6⟩ : ∃ b, b = w2.heap.size := ⟨_, rfl⟩
  rw [← hb5] at hz hz2 hP ⊢
  rw [← hb6] at hz2 hP ⊢
  obtain ⟨w3, hw3⟩ : ∃ w3, w3 = w2.alloc (Obj.cells #[Value.pointer (some { block := r, off := 0 })] 25) := ⟨_, rfl⟩
  rw [← hw3] at hP ⊢
  clear hb5 hb6 hw3
  obtain ⟨bx, hbx⟩ : ∃ bx, bx = [(b6, Obj.cells #[Value.pointer (some { block := r, off := 0 })] 25), (b5, Obj.cells #[Value.pointer (some { block := g, off := 0 })] 23), (w.heap.size + 1, Obj.cells #[Value.bool false] 4), (w.heap.size, Obj.cells #[Value.int IntKind.i64 stop] 3)] := ⟨_, rfl⟩
  rw [← hbx] at hP
  have m6 : (b6, Obj.cells #[Value.pointer (some { block := r, off := 0 })] 25) ∈ bx := by rw [hbx]; simp
  have m5 : (b5, Obj.cells #[Value.pointer (some { block := g, off := 0 })] 23) ∈ bx := by rw [hbx]; simp
  have m4 : (w.heap.size + 1, Obj.cells #[Value.bool false] 4) ∈ bx := by rw [hbx]; simp
  have m3 : (w.heap.size, Obj.cells #[Value.int IntKind.i64 stop] 3) ∈ bx := by rw [hbx]; simp
  replace hbx := Aside0.mk hbx
  go_loopg [7] (keys.length + 1) (fun gk v7 wr => ∃ i : Nat, v7 = .int .i64 i ∧ i ≤ keys.length ∧ keys.length + 1 ≤ i + gk ∧ Aside0 (Pd w (fun _ => False) bx g r (tag (keys.take i)) (tag (keys.take i)) i wr))
  case atStart => exact ⟨0, by go_num, by omega, by omega, ⟨by simpa [tag] using hP.out⟩⟩
  case round =>
    obtain ⟨i, rfl, hi, hgk, HP⟩ := hrel
    clear hP
    by_cases hlt : i < keys.length
    · have hltb : decide ((i : Int) < (keys.length : Int)) = true := decide_eq_true (by omega)
      obtain ⟨ad, hA, hcell⟩ := ReadsOf.at_ (Kd.reads_of_C (enc := Value.int .i64) (d := (0 : Int)) (h1 := fun _ => rfl) HC.out) (i : Int) (by omega) (by omega)
      rw [Int.toNat_natCast] at hcell
      subst hA
      have hd : keys.take (i + 1) = keys.take i ++ [rdOf 0 keys (i : Int)] := by
        rw [List.take_succ_eq_append_getElem hlt, rdOf, Int.toNat_natCast, List.getD_eq_getElem?_getD, List.getElem?_eq_getElem hlt]
        rfl
      have HD := Aside0.mk hd
      clear hd
      generalize rdOf 0 keys (i : Int) = x at *
      have q3 : (i : Int) < (keys.length : Int) := by omega
      have hti : (tag (keys.take i)).length = i := by rw [tag_len, List.length_take]; omega
      have HT := Aside0.mk hti
      have HK : ∀ W, Below w.heap.size w W → W.cell? (ad.add i) = some (.int .i64 x) := fun W hb => (hb.cell (World.block_lt_of_cell? w _ hcell)).trans hcell
      replace HK := Aside0.mk HK
      clear hti hcell
      have c5 : wr.cell? ⟨b5, 0, none⟩ = some (.pointer (some ⟨g, 0, none⟩)) := blk_cell (HP.out.cst _ m5) 0
      have ck : wr.cell? (ad.add i) = some (.int .i64 x) := HK.out _ HP.out.bel
      go_wp2_with fail
      go_region_held3 (fun w' => w'.cell? ⟨b5, 0, none⟩ = some (.pointer (some ⟨g, 0, none⟩)) ∧ w'.cell? (ad.add i) = some (.int .i64 x))
        (first | (go_keep; done) | (go_split_ands; exact ⟨blk_cell (hp4.out.cst _ m5) 0, HK.out _ hp4.out.bel⟩))
        (first | (go_at_call 29; refine (pd_push x i HP.out.drew (by omega) (by omega) (by rw [HT.out]; omega)).mono ?_; rintro e w4 ⟨rfl, hp4, _⟩; replace hp4 := Aside0.mk hp4))
      clear c5 ck
      have c6 : w4.cell? ⟨b6, 0, none⟩ = some (.pointer (some ⟨r, 0, none⟩)) := blk_cell (hp4.out.cst _ m6) 0
      have ck : w4.cell? (ad.add i) = some (.int .i64 x) := HK.out _ hp4.out.bel
      go_wp2_with fail
      go_region_held3 (fun w' => w'.cell? ⟨b6, 0, none⟩ = some (.pointer (some ⟨r, 0, none⟩)) ∧ w'.cell? (ad.add i) = some (.int .i64 x))
        (first | (go_keep; done) | (go_split_ands; exact ⟨blk_cell (hp5.out.cst _ m6) 0, HK.out _ hp5.out.bel⟩))
        (first | (go_at_call 30; refine (pd_rpush x i i hp4.out.drew (by rw [HT.out]; omega)).mono ?_; rintro e w5 ⟨rfl, hp5, _⟩; replace hp5 := Aside0.mk hp5))
      clear c6 ck
      go_wp2_with fail
      go_roundg (keys.length - i)
      case measure => omega
      case rel => exact ⟨i + 1, by go_num, by omega, by omega, ⟨by rw [HD.out, tag_snoc, List.length_take, Nat.min_eq_left hi]; exact hp5.out⟩⟩
    · have hltb : decide ((i : Int) < (keys.length : Int)) = false := decide_eq_false (by omega)
      obtain rfl : i = keys.length := by omega
      rw [List.take_length] at HP
      have c5 : wr.cell? ⟨b5, 0, none⟩ = some (.pointer (some ⟨g, 0, none⟩)) := blk_cell (HP.out.cst _ m5) 0
      go_wp2_with (first
        | (go_at_call 31; refine (drain_calls _ _).mono ?_; rintro e w4 ⟨rfl, rfl⟩; have c5b := blk_cell ((HP.out.alloc0 (Obj.cells #[Value.pointer (some { block := g, off := 0 })] 23)).cst _ m5) 0; simp only [List.getElem?_toArray, List.getElem?_cons_zero] at c5b)
        | (go_at_call 18; refine (pd_len (HP.out.alloc0 _)).mono ?_; rintro e w5 ⟨rfl, nq, rfl⟩; rw [tag_len]))
      obtain ⟨B, hB⟩ : ∃ B, B = wr.heap.size := ⟨_, rfl⟩
      have hlo : w.heap.size ≤ B := hB ▸ HP.out.bel.size
      have hbB : ∀ p ∈ bx, p.1 < B := fun p hp => hB ▸ blk_lt (HP.out.cst p hp)
      obtain ⟨P, hPd⟩ : ∃ P : List Nd → Nat → Int → Prop, Aside0 (P = fun (L : List Nd) (n : Nat) (T : Int) => L.length + n = keys.length ∧ T = keys.length ∧ (1 ≤ stop → (n : Int) < stop)) := ⟨_, ⟨rfl⟩⟩
      obtain ⟨Ix, hIx⟩ : ∃ Ix : Code → World → Prop, Aside0 (Ix = fun c W => c = .exit 2 ∧ ∃ (L : List Nd) (n : Nat), Pd w (bF B) (bxs B g bx n) g r L L keys.length W ∧ (n : Int) = stop ∧ L.length + n = keys.length ∧ 1 ≤ n) := ⟨_, ⟨rfl⟩⟩
      obtain ⟨vr0, hst⟩ := s_start (P := P) (HP.out.drewN nq) hB.symm (by rw [hPd.out]; exact ⟨by rw [tag_len]; omega, rfl, fun h => by omega⟩)
      obtain ⟨W0, hW0⟩ : ∃ W0, W0 = (((wr.alloc (Obj.cells #[Value.pointer (some { block := g, off := 0 })] 23)).drewN nq).alloc (Obj.cells #[Value.int IntKind.i64 0] 3)) := ⟨_, rfl⟩
      have hs0 : W0.heap.size = B + 2 := by rw [hW0, hB]; simp
      replace hst : ∀ o o', DrJ B g (sX w B g bx r) (fun s => s.1) (fun s => s.2.2.2) (sI w B g bx r P) (tag keys, vr0, 0, (keys.length : Int)) ((W0.alloc o).alloc o') := by rw [hW0]; exact hst
      rw [← hW0, ← hB]
      clear hW0 hB HP c5 c5b
      replace hst := Aside0.mk hst
      replace hbB := Aside0.mk hbB
      refine (wpIn_wide (n := 6)).1 ?_
      refine wpIn_range_st (σ := DS) (α := Nd) rfl (by omega) (gf := 53) (lb := #[.pointer (some ⟨B, 0, none⟩)]) rfl trivial (enters_of Try.func53 (by kernel_rfl) rfl) (encs := fun x => #[.int .i64 x.key, .int .i64 x.val])
        (DrJ B g (sX w B g bx r) (fun s => s.1) (fun s => s.2.2.2) (sI w B g bx r P)) (DrD B g (sX w B g bx r) (fun s => s.1) (fun s => s.2.2.2) (sI w B g bx r P)) (DrM B g (sX w B g bx r) (fun s => s.1) (fun s => s.2.2.2) (sI w B g bx r P))
        Ix (fun s' s => s'.1.length < s.1.length) (tag keys, vr0, 0, (keys.length : Int)) ?seq (fun _ => rfl) ?f1 ?f2 ?f3 ?f4 ?start ?a1 ?assign ?body ?done ?stop
      case seq =>
        rw [hs0]
        exact drain_st (σ := DS) _ B g (B + 2) (B + 2 + 1) (sX w B g bx r) (fun s => s.1) (fun s => s.2.2.2) (sI w B g bx r P) (fun s => s.1.length) _ sX_B sI_keepX (fun s W h => by have := h.2; rw [hPd.out] at this; have := this.1; show s.1.length * 24 ≤ _; omega)
      case assign =>
        intro l x W K hK
        gi_wp2
        exact hK
      case body =>
        rintro ⟨L, vr, n, T⟩ x W hM
        rw [hs0]
        obtain ⟨hW, hPP, hne, rfl⟩ := s_ofM hM
        rw [hPd.out] at hPP
        obtain ⟨hln, rfl, hst2⟩ := hPP
        dsimp only at hW hln hne hst2
        have hrl := rest_len hne
        replace hW := Aside0.mk hW
        replace hne := Aside0.mk hne
        have c6 : W.cell? ⟨b6, 0, none⟩ = some (.pointer (some ⟨r, 0, none⟩)) := blk_cell (hW.out.cst _ (.tail _ (.tail _ m6))) 0
        clear hM
        have tokA : True := trivial
        gi_wp2_with (first
          | (refine ⟨trivial, ?_⟩; refine (calls_round (pd_rpop hW.out hne.out (by omega))).mono ?_; rintro e w5 ⟨rfl, hp5, hk5⟩; have c3 : w5.cell? ⟨w.heap.size, 0, none⟩ = some (.int .i64 stop) := blk_cell (hp5.cst _ (.tail _ (.tail _ m3))) 0; have c9 : w5.cell? ⟨B + 1, 0, none⟩ = some (.int .i64 n) := blk_cell (hp5.cst _ (.head _)) 0; have z9 : w5.frozen? ⟨B + 1, 0, none⟩ = false := blk_frozen (hp5.cst _ (.head _)) 0;  have c5 : w5.cell? ⟨b5, 0, none⟩ = some (.pointer (some ⟨g, 0, none⟩)) := blk_cell (hp5.cst _ (.tail _ (.tail _ m5))) 0; have c6 : w5.cell? ⟨b6, 0, none⟩ = some (.pointer (some ⟨r, 0, none⟩)) := blk_cell (hp5.cst _ (.tail _ (.tail _ m6))) 0; replace hp5 := Aside0.mk hp5; replace hk5 := Aside0.mk hk5))
        generalize (mn L).key = ky
        generalize (mn L).val = vy
        refine region_round (S := (fun w' => w'.cell? ⟨b5, 0, none⟩ = some (.pointer (some ⟨g, 0, none⟩)) ∧ w'.cell? ⟨b6, 0, none⟩ = some (.pointer (some ⟨r, 0, none⟩)))) (by kernel_rfl) (by kernel_rfl) (fun _ _ h => h) ⟨c5, c6⟩ (fun hHeld => ?_)
        refine wpAnyH_take (i := 0) (oi := { dst := some 66, op := Go.Op.move (Go.Operand.tmp 14), type := 4, pos := "heap.go:159", after := #[], guard := none }) (v := ?v0) rfl (by kernel_rfl) (by kernel_rfl) (by kernel_rfl) (fun _ _ _ h => False.elim h) (Or.inl ⟨by rfl, ?hy0⟩) (by assumption) ?rest0
        case hy0 => (intro w_ hSw; (try dsimp only at hSw); go_simp; (try with_reducible rfl))
        try simp only [Act.put, List.setIfInBounds_toArray, List.set_cons_zero, List.set_cons_succ]
        refine wpAnyH_take (i := 1) (oi := { dst := some 67, op := Go.Op.unOp Go.UnOp.not 4 (Go.Operand.tmp 66), type := 4, pos := "heap.go:159", after := #[{ on := 0, ground := Go.Ground.data }], guard := none }) (v := ?v1) rfl (by kernel_rfl) (by kernel_rfl) (by kernel_rfl) (fun _ _ _ h => False.elim h) (Or.inl ⟨by rfl, ?hy1⟩) (by assumption) ?rest1
        case hy1 => (intro w_ hSw; (try dsimp only at hSw); go_simp; (try with_reducible rfl))
        try simp only [Act.put, List.setIfInBounds_toArray, List.set_cons_zero, List.set_cons_succ]
        refine wpAnyH_take (i := 2) (oi := { dst := some 68, op := Go.Op.move (Go.Operand.tmp 67), type := 4, pos := "heap.go:159", after := #[{ on := 1, ground := Go.Ground.data }], guard := none }) (v := ?v2) rfl (by kernel_rfl) (by kernel_rfl) (by kernel_rfl) (fun _ _ _ h => False.elim h) (Or.inl ⟨by rfl, ?hy2⟩) (by assumption) ?rest2
        case hy2 => (intro w_ hSw; (try dsimp only at hSw); go_simp; (try with_reducible rfl))
        try simp only [Act.put, List.setIfInBounds_toArray, List.set_cons_zero, List.set_cons_succ]
        refine wpAnyH_take (i := 3) (oi := { dst := some 69, op := Go.Op.move (Go.Operand.tmp 10), type := 3, pos := "heap.go:159", after := #[{ on := 2, ground := Go.Ground.guard }], guard := some (2, false) }) (v := ?v3) rfl (by kernel_rfl) (by kernel_rfl) (by kernel_rfl) (fun _ _ _ h => False.elim h) (Or.inl ⟨by rfl, ?hy3⟩) (by assumption) ?rest3
        case hy3 => (intro w_ hSw; (try dsimp only at hSw); go_simp; (try with_reducible rfl))
        try simp only [Act.put, List.setIfInBounds_toArray, List.set_cons_zero, List.set_cons_succ]
        refine wpAnyH_take (i := 4) (oi := { dst := some 70, op := Go.Op.move (Go.Operand.tmp 12), type := 3, pos := "heap.go:159", after := #[{ on := 2, ground := Go.Ground.guard }], guard := some (2, false) }) (v := ?v4) rfl (by kernel_rfl) (by kernel_rfl) (by kernel_rfl) (fun _ _ _ h => False.elim h) (Or.inl ⟨by rfl, ?hy4⟩) (by assumption) ?rest4
        case hy4 => (intro w_ hSw; (try dsimp only at hSw); go_simp; (try with_reducible rfl))
        try simp only [Act.put, List.setIfInBounds_toArray, List.set_cons_zero, List.set_cons_succ]
        refine wpAnyH_take (i := 5) (oi := { dst := some 71, op := Go.Op.binOp Go.BinOp.neq 3 (Go.Operand.tmp 69) (Go.Operand.tmp 70) 3, type := 4, pos := "heap.go:159", after := #[{ on := 3, ground := Go.Ground.data }, { on := 4, ground := Go.Ground.data }, { on := 2, ground := Go.Ground.guard }], guard := some (2, false) }) (v := ?v5) rfl (by kernel_rfl) (by kernel_rfl) (by kernel_rfl) (fun _ _ _ h => False.elim h) (Or.inl ⟨by rfl, ?hy5⟩) (by assumption) ?rest5
        case hy5 => (intro w_ hSw; (try dsimp only at hSw); go_simp; (try with_reducible rfl))
        try simp only [Act.put, List.setIfInBounds_toArray, List.set_cons_zero, List.set_cons_succ]
        refine wpAnyH_take (i := 6) (oi := { dst := some 72, op := Go.Op.pick (Go.Operand.tmp 68) (Go.Operand.const (Go.Value.bool true)) (Go.Operand.tmp 71), type := 4, pos := "heap.go:159", after := #[{ on := 2, ground := Go.Ground.data }, { on := 5, ground := Go.Ground.data }], guard := none }) (v := ?v6) rfl (by kernel_rfl) (by kernel_rfl) (by kernel_rfl) (fun _ _ _ h => False.elim h) (Or.inl ⟨by rfl, ?hy6⟩) (by assumption) ?rest6
        case hy6 => (intro w_ hSw; (try dsimp only at hSw); go_simp; (try with_reducible rfl))
        try simp only [Act.put, List.setIfInBounds_toArray, List.set_cons_zero, List.set_cons_succ]
        refine wpAnyH_take (i := 7) (oi := { dst := some 73, op := Go.Op.move (Go.Operand.tmp 72), type := 4, pos := "heap.go:159", after := #[{ on := 6, ground := Go.Ground.data }, { on := 2, ground := Go.Ground.chain }], guard := none }) (v := ?v7) rfl (by kernel_rfl) (by kernel_rfl) (by kernel_rfl) (fun _ _ _ h => False.elim h) (Or.inl ⟨by rfl, ?hy7⟩) (by assumption) ?rest7
        case hy7 => (intro w_ hSw; (try dsimp only at hSw); go_simp; (try with_reducible rfl))
        try simp only [Act.put, List.setIfInBounds_toArray, List.set_cons_zero, List.set_cons_succ]
        refine wpAnyH_take (i := 8) (oi := { dst := some 74, op := Go.Op.move (Go.Operand.tmp 11), type := 3, pos := "heap.go:159", after := #[{ on := 7, ground := Go.Ground.guard }], guard := some (7, false) }) (v := ?v8) rfl (by kernel_rfl) (by kernel_rfl) (by kernel_rfl) (fun _ _ _ h => False.elim h) (Or.inl ⟨by rfl, ?hy8⟩) (by assumption) ?rest8
        case hy8 => (intro w_ hSw; (try dsimp only at hSw); go_simp; (try with_reducible rfl))
        try simp only [Act.put, List.setIfInBounds_toArray, List.set_cons_zero, List.set_cons_succ]
        refine wpAnyH_take (i := 9) (oi := { dst := some 75, op := Go.Op.move (Go.Operand.tmp 13), type := 3, pos := "heap.go:159", after := #[{ on := 7, ground := Go.Ground.guard }], guard := some (7, false) }) (v := ?v9) rfl (by kernel_rfl) (by kernel_rfl) (by kernel_rfl) (fun _ _ _ h => False.elim h) (Or.inl ⟨by rfl, ?hy9⟩) (by assumption) ?rest9
        case hy9 => (intro w_ hSw; (try dsimp only at hSw); go_simp; (try with_reducible rfl))
        try simp only [Act.put, List.setIfInBounds_toArray, List.set_cons_zero, List.set_cons_succ]
        refine wpAnyH_take (i := 10) (oi := { dst := some 76, op := Go.Op.binOp Go.BinOp.neq 3 (Go.Operand.tmp 74) (Go.Operand.tmp 75) 3, type := 4, pos := "heap.go:159", after := #[{ on := 8, ground := Go.Ground.data }, { on := 9, ground := Go.Ground.data }, { on := 7, ground := Go.Ground.guard }], guard := some (7, false) }) (v := ?v10) rfl (by kernel_rfl) (by kernel_rfl) (by kernel_rfl) (fun _ _ _ h => False.elim h) (Or.inl ⟨by rfl, ?hy10⟩) (by assumption) ?rest10
        case hy10 => (intro w_ hSw; (try dsimp only at hSw); go_simp; (try with_reducible rfl))
        try simp only [Act.put, List.setIfInBounds_toArray, List.set_cons_zero, List.set_cons_succ]
        refine wpAnyH_take (i := 11) (oi := { dst := some 77, op := Go.Op.pick (Go.Operand.tmp 73) (Go.Operand.const (Go.Value.bool true)) (Go.Operand.tmp 76), type := 4, pos := "heap.go:159", after := #[{ on := 7, ground := Go.Ground.data }, { on := 10, ground := Go.Ground.data }], guard := none }) (v := ?v11) rfl (by kernel_rfl) (by kernel_rfl) (by kernel_rfl) (fun _ _ _ h => False.elim h) (Or.inl ⟨by rfl, ?hy11⟩) (by assumption) ?rest11
        case hy11 => (intro w_ hSw; (try dsimp only at hSw); go_simp; (try with_reducible rfl))
        try simp only [Act.put, List.setIfInBounds_toArray, List.set_cons_zero, List.set_cons_succ]
        refine wpAnyH_take (i := 12) (oi := { dst := some 78, op := Go.Op.move (Go.Operand.tmp 77), type := 4, pos := "heap.go:159", after := #[{ on := 11, ground := Go.Ground.data }, { on := 7, ground := Go.Ground.chain }], guard := none }) (v := ?v12) rfl (by kernel_rfl) (by kernel_rfl) (by kernel_rfl) (fun _ _ _ h => False.elim h) (Or.inl ⟨by rfl, ?hy12⟩) (by assumption) ?rest12
        case hy12 => (intro w_ hSw; (try dsimp only at hSw); go_simp; (try with_reducible rfl))
        try simp only [Act.put, List.setIfInBounds_toArray, List.set_cons_zero, List.set_cons_succ]
        refine wpAnyH_take (i := 13) (oi := { dst := some 79, op := Go.Op.load 23 (Go.Operand.tmp 5), type := 23, pos := "heap.go:159", after := #[{ on := 12, ground := Go.Ground.guard }], guard := some (12, false) }) (v := ?v13) rfl (by kernel_rfl) (by kernel_rfl) (by kernel_rfl) (fun _ _ _ h => False.elim h) (Or.inl ⟨by rfl, ?hy13⟩) (by assumption) ?rest13
        case hy13 => (intro w_ hSw; (try dsimp only at hSw); go_simp; (try with_reducible rfl))
        try simp only [Act.put, List.setIfInBounds_toArray, List.set_cons_zero, List.set_cons_succ]
        refine wpAnyH_take (i := 15) (oi := { dst := some 81, op := Go.Op.load 25 (Go.Operand.tmp 6), type := 25, pos := "heap.go:159", after := #[{ on := 12, ground := Go.Ground.guard }], guard := some (12, false) }) (v := ?v15) rfl (by kernel_rfl) (by kernel_rfl) (by kernel_rfl) (fun _ _ _ h => False.elim h) (Or.inl ⟨by rfl, ?hy15⟩) (by assumption) ?rest15
        case hy15 => (intro w_ hSw; (try dsimp only at hSw); go_simp; (try with_reducible rfl))
        try simp only [Act.put, List.setIfInBounds_toArray, List.set_cons_zero, List.set_cons_succ]
        refine wpAnyH_ready (rs := [14]) (by kernel_rfl) (by simp) ?_
        refine AllReadyH.cons (o := { dst := some 80, op := Go.Op.call { callee := Go.Callee.value (Go.Operand.func 18), args := #[Go.Operand.tmp 79], argTypes := #[23] }, type := 3, pos := "heap.go:159", after := #[{ on := 13, ground := Go.Ground.data }, { on := 12, ground := Go.Ground.chain }, { on := 12, ground := Go.Ground.guard }], guard := some (12, false) }) rfl (fun K hK => ?_) AllReadyH.nil
        go_simp
        refine (pd_len hp5.out.drew).mono ?_; rintro e w6 ⟨rfl, n6, rfl⟩; dsimp only
        refine hK.out _ _ ?_ (fun hHeld => ?_)
        · exact hHeld
        clear hK K
        try simp only [Act.put, List.setIfInBounds_toArray, List.set_cons_zero, List.set_cons_succ]
        refine wpAnyH_ready (rs := [16]) (by kernel_rfl) (by simp) ?_
        refine AllReadyH.cons (o := { dst := some 82, op := Go.Op.call { callee := Go.Callee.value (Go.Operand.func 33), args := #[Go.Operand.tmp 81], argTypes := #[25] }, type := 3, pos := "heap.go:159", after := #[{ on := 15, ground := Go.Ground.data }, { on := 14, ground := Go.Ground.chain }, { on := 12, ground := Go.Ground.guard }], guard := some (12, false) }) rfl (fun K hK => ?_) AllReadyH.nil
        go_simp
        refine (pd_rlen (hp5.out.drewN _)).mono ?_; rintro e w7 ⟨rfl, n7, rfl⟩; dsimp only
        refine hK.out _ _ ?_ (fun hHeld => ?_)
        · exact hHeld
        clear hK K
        try simp only [Act.put, List.setIfInBounds_toArray, List.set_cons_zero, List.set_cons_succ]
        refine wpAnyH_take (i := 17) (oi := { dst := some 83, op := Go.Op.binOp Go.BinOp.neq 3 (Go.Operand.tmp 80) (Go.Operand.tmp 82) 3, type := 4, pos := "heap.go:159", after := #[{ on := 14, ground := Go.Ground.data }, { on := 16, ground := Go.Ground.data }, { on := 12, ground := Go.Ground.guard }], guard := some (12, false) }) (v := ?v17) rfl (by kernel_rfl) (by kernel_rfl) (by kernel_rfl) (fun _ _ _ h => False.elim h) (Or.inl ⟨by rfl, ?hy17⟩) (by assumption) ?rest17
        case hy17 => (intro w_ hSw; (try dsimp only at hSw); go_simp; (try with_reducible rfl))
        try simp only [Act.put, List.setIfInBounds_toArray, List.set_cons_zero, List.set_cons_succ]
        refine wpAnyH_take (i := 18) (oi := { dst := some 84, op := Go.Op.pick (Go.Operand.tmp 78) (Go.Operand.const (Go.Value.bool true)) (Go.Operand.tmp 83), type := 4, pos := "heap.go:159", after := #[{ on := 12, ground := Go.Ground.data }, { on := 17, ground := Go.Ground.data }], guard := none }) (v := ?v18) rfl (by kernel_rfl) (by kernel_rfl) (by kernel_rfl) (fun _ _ _ h => False.elim h) (Or.inl ⟨by rfl, ?hy18⟩) (by assumption) ?rest18
        case hy18 => (intro w_ hSw; (try dsimp only at hSw); go_simp; (try with_reducible rfl))
        try simp only [Act.put, List.setIfInBounds_toArray, List.set_cons_zero, List.set_cons_succ]
        refine wpAnyH_done (by kernel_rfl) ?_ _
        by_cases hs3 : (n : Int) + 1 = stop
        · have hs3b : ((n : Int) + 1 == stop) = true := beq_iff_eq.2 hs3
          replace hs3 := Aside0.mk hs3
          gi_wp2_with fail
          obtain ⟨h1, h2⟩ := s_turn (hp5.out.drewN (1 + n6 + n7)) hlo hbB.out
          refine ⟨?_, (h2 _ (.inl rfl)).trans (hk5.out _ (.inl rfl)), (h2 _ (.inr rfl)).trans (hk5.out _ (.inr rfl))⟩
          rw [hIx.out]
          have hs4 := hs3.out
          exact ⟨rfl, _, _, h1, by omega, by omega, by omega⟩
        · have hs3b : ((n : Int) + 1 == stop) = false := beq_eq_false_iff_ne.2 hs3
          replace hs3 := Aside0.mk hs3
          gi_wp2_with fail
          refine s_post (P := P) (hp5.out.drewN (1 + n6 + n7)) hlo hbB.out ?_ (fun k hk => hk5.out k hk) ?_ _
          · rw [hPd.out]; exact ⟨by omega, rfl, fun h => by have := hst2 h; have := hs3.out; omega⟩
          · intro vr; show (rest L).length < L.length; omega
      case f1 =>
        intro s
        rw [hs0]
        exact drJ_free (Y := sY w B g bx r) ⟨by omega, by omega⟩ (fun s => (sX_B s).2) sI_keep (fun s W q h hq => sY_far hlo hbB.out s W q h hq) s
      case f2 =>
        intro s
        rw [hs0]
        exact drD_free (Y := sY w B g bx r) ⟨by omega, by omega⟩ (fun s => (sX_B s).2) sI_keep (fun s W q h hq => sY_far hlo hbB.out s W q h hq) s
      case f3 =>
        intro s x
        rw [hs0]
        exact drM_free (Y := sY w B g bx r) ⟨by omega, by omega⟩ (fun s => (sX_B s).2) sI_keep (fun s W q h hq => sY_far hlo hbB.out s W q h hq) s x
      case f4 =>
        intro c W k o o' hk ho h
        rw [hIx.out] at h ⊢
        rw [hs0] at hk
        obtain ⟨rfl, L, n, h1, h2⟩ := h
        exact ⟨rfl, L, n, h1.putF hk (by omega) (fun p hp => by have := bxs_far hbB.out _ p hp; rcases hk with rfl | rfl; exact this.1; exact this.2) o', h2⟩
      case start => exact fun o o' => hst.out o o'
      case stop =>
        intro c W h hK
        rw [hIx.out] at h
        obtain ⟨rfl, L, n, hW, hns, hLn, hn1⟩ := h
        rw [hs0] at hK ⊢
        have c3 : W.cell? ⟨w.heap.size, 0, none⟩ = some (.int .i64 stop) := blk_cell (hW.cst _ (.tail _ (.tail _ m3))) 0
        have c9 : W.cell? ⟨B + 1, 0, none⟩ = some (.int .i64 n) := blk_cell (hW.cst _ (.head _)) 0
        have c5 : W.cell? ⟨b5, 0, none⟩ = some (.pointer (some ⟨g, 0, none⟩)) := blk_cell (hW.cst _ (.tail _ (.tail _ m5))) 0
        have c6 : W.cell? ⟨b6, 0, none⟩ = some (.pointer (some ⟨r, 0, none⟩)) := blk_cell (hW.cst _ (.tail _ (.tail _ m6))) 0
        replace hW := Aside0.mk hW
        subst hns
        refine wpIn_wide.2 ?_
        dsimp only
        by_cases q2 : (n : Int) < keys.length
        · have q1 : (1 : Int) ≤ n := by omega
          go_wp2_with fail
          go_loopg [15] (keys.length + 2) (fun gk v15 wr2 => ∃ (j : Nat) (L : List Nd), v15 = .int .i64 j ∧ j ≤ keys.length + 1 ∧ keys.length + 2 ≤ j + gk ∧ wr2.heap[B + 2]? = some (.deferred (some [])) ∧ Aside0 (Pd w (bF B) (bxs B g bx n) g r L L keys.length wr2) ∧ L.length ≤ keys.length)
          case atStart => exact ⟨n, L, by go_num, by omega, by omega, hK, hW, by omega⟩
          case round =>
            obtain ⟨j, L2, rfl, hj, hgk2, hK2, hW2, hL2⟩ := hrel
            clear hW hK c3 c9 c5 c6
            replace hK2 := Aside0.mk hK2
            by_cases hlt2 : j ≤ keys.length
            · have hltb2 : decide ((j : Int) ≤ (keys.length : Int)) = true := decide_eq_true (by omega)
              have c5 : wr.cell? ⟨b5, 0, none⟩ = some (.pointer (some ⟨g, 0, none⟩)) := blk_cell (hW2.out.cst _ (.tail _ (.tail _ m5))) 0
              have c6 : wr.cell? ⟨b6, 0, none⟩ = some (.pointer (some ⟨r, 0, none⟩)) := blk_cell (hW2.out.cst _ (.tail _ (.tail _ m6))) 0
              by_cases hne : L2 = []
              · subst hne
                go_wp2_with (first
                  | (go_at_call 34; refine (pd_pop0 hW2.out).mono ?_; rintro e w8 ⟨rfl, n8, rfl⟩)
                  | (go_at_call 32; refine (pd_rpop0 (hW2.out.drewN _)).mono ?_; rintro e w9 ⟨rfl, n9, rfl⟩))
                go_roundg (keys.length + 1 - j)
                case measure => omega
                case rel => exact ⟨j + 1, [], by go_num, by omega, by omega, hK2.out, ⟨hW2.out.drewN _⟩, by simp⟩
              · have hrl2 := rest_len hne
                replace hne := Aside0.mk hne
                go_wp2_with (first
                  | (go_at_call 34; refine (pd_pop hW2.out hne.out (by omega)).mono ?_; rintro e w8 ⟨rfl, hp8, hk8⟩; have c6 : w8.cell? ⟨b6, 0, none⟩ = some (.pointer (some ⟨r, 0, none⟩)) := blk_cell (hp8.cst _ (.tail _ (.tail _ m6))) 0; replace hp8 := Aside0.mk hp8; replace hk8 := Aside0.mk hk8)
                  | (go_at_call 32; refine (pd_rpop hp8.out hne.out (by omega)).mono ?_; rintro e w9 ⟨rfl, hp9, hk9⟩; replace hp9 := Aside0.mk hp9; replace hk9 := Aside0.mk hk9))
                go_roundg (keys.length + 1 - j)
                case measure => omega
                case rel => exact ⟨j + 1, rest L2, by go_num, by omega, by omega, (hk9.out _ (.inl rfl)).trans ((hk8.out _ (.inl rfl)).trans hK2.out), hp9, by omega⟩
            · have hltb2 : decide ((j : Int) ≤ (keys.length : Int)) = false := decide_eq_false (by omega)
              have c4 : wr.cell? ⟨w.heap.size + 1, 0, none⟩ = some (.bool false) := blk_cell (hW2.out.cst _ (.tail _ (.tail _ m4))) 0
              have z4 : wr.frozen? ⟨w.heap.size + 1, 0, none⟩ = false := blk_frozen (hW2.out.cst _ (.tail _ (.tail _ m4))) 0
              go_wp2_with fail
              obtain ⟨e1, e2, e3⟩ := s_end hW2.out m4 hlo hbB.out (by omega) hK2.out
              refine ⟨by simp, .inl ⟨_, _, rfl, run_takeDeferred e1, ?_⟩⟩
              exact ⟨_, results_bool rfl _ _ _ _ rfl e2, rfl, e3⟩
        · have q1 : (1 : Int) ≤ n := by omega
          obtain rfl : n = keys.length := by omega
          go_wp2_with fail
          go_loopg [15] (keys.length + 2) (fun gk v15 wr2 => ∃ (j : Nat) (L : List Nd), v15 = .int .i64 j ∧ j ≤ keys.length + 1 ∧ keys.length + 2 ≤ j + gk ∧ wr2.heap[B + 2]? = some (.deferred (some [])) ∧ Aside0 (Pd w (bF B) (bxs B g bx keys.length) g r L L keys.length wr2) ∧ L.length ≤ keys.length)
          case atStart => exact ⟨keys.length, L, by go_num, by omega, by omega, hK, hW, by omega⟩
          case round =>
            obtain ⟨j, L2, rfl, hj, hgk2, hK2, hW2, hL2⟩ := hrel
            clear hW hK c3 c9 c5 c6
            replace hK2 := Aside0.mk hK2
            by_cases hlt2 : j ≤ keys.length
            · have hltb2 : decide ((j : Int) ≤ (keys.length : Int)) = true := decide_eq_true (by omega)
              have c5 : wr.cell? ⟨b5, 0, none⟩ = some (.pointer (some ⟨g, 0, none⟩)) := blk_cell (hW2.out.cst _ (.tail _ (.tail _ m5))) 0
              have c6 : wr.cell? ⟨b6, 0, none⟩ = some (.pointer (some ⟨r, 0, none⟩)) := blk_cell (hW2.out.cst _ (.tail _ (.tail _ m6))) 0
              by_cases hne : L2 = []
              · subst hne
                go_wp2_with (first
                  | (go_at_call 34; refine (pd_pop0 hW2.out).mono ?_; rintro e w8 ⟨rfl, n8, rfl⟩)
                  | (go_at_call 32; refine (pd_rpop0 (hW2.out.drewN _)).mono ?_; rintro e w9 ⟨rfl, n9, rfl⟩))
                go_roundg (keys.length + 1 - j)
                case measure => omega
                case rel => exact ⟨j + 1, [], by go_num, by omega, by omega, hK2.out, ⟨hW2.out.drewN _⟩, by simp⟩
              · have hrl2 := rest_len hne
                replace hne := Aside0.mk hne
                go_wp2_with (first
                  | (go_at_call 34; refine (pd_pop hW2.out hne.out (by omega)).mono ?_; rintro e w8 ⟨rfl, hp8, hk8⟩; have c6 : w8.cell? ⟨b6, 0, none⟩ = some (.pointer (some ⟨r, 0, none⟩)) := blk_cell (hp8.cst _ (.tail _ (.tail _ m6))) 0; replace hp8 := Aside0.mk hp8; replace hk8 := Aside0.mk hk8)
                  | (go_at_call 32; refine (pd_rpop hp8.out hne.out (by omega)).mono ?_; rintro e w9 ⟨rfl, hp9, hk9⟩; replace hp9 := Aside0.mk hp9; replace hk9 := Aside0.mk hk9))
                go_roundg (keys.length + 1 - j)
                case measure => omega
                case rel => exact ⟨j + 1, rest L2, by go_num, by omega, by omega, (hk9.out _ (.inl rfl)).trans ((hk8.out _ (.inl rfl)).trans hK2.out), hp9, by omega⟩
            · have hltb2 : decide ((j : Int) ≤ (keys.length : Int)) = false := decide_eq_false (by omega)
              have c4 : wr.cell? ⟨w.heap.size + 1, 0, none⟩ = some (.bool false) := blk_cell (hW2.out.cst _ (.tail _ (.tail _ m4))) 0
              have z4 : wr.frozen? ⟨w.heap.size + 1, 0, none⟩ = false := blk_frozen (hW2.out.cst _ (.tail _ (.tail _ m4))) 0
              go_wp2_with fail
              obtain ⟨e1, e2, e3⟩ := s_end hW2.out m4 hlo hbB.out (by omega) hK2.out
              refine ⟨by simp, .inl ⟨_, _, rfl, run_takeDeferred e1, ?_⟩⟩
              exact ⟨_, results_bool rfl _ _ _ _ rfl e2, rfl, e3⟩
      case done =>
        rintro ⟨L, vr, n, T⟩ W hD hK
        rw [hs0] at hK
        obtain ⟨hW, hPP⟩ := s_ofD hD
        rw [hPd.out] at hPP
        obtain ⟨hln, rfl, hst2⟩ := hPP
        dsimp only at hW hln hst2
        obtain rfl : n = keys.length := by simpa using hln
        clear hD hln
        obtain ⟨L, hL⟩ : ∃ L : List Nd, L = [] := ⟨_, rfl⟩
        rw [← hL] at hW
        have hLl : L.length = 0 := by rw [hL]; rfl
        clear hL
        have c3 : W.cell? ⟨w.heap.size, 0, none⟩ = some (.int .i64 stop) := blk_cell (hW.cst _ (.tail _ (.tail _ m3))) 0
        have c9 : W.cell? ⟨B + 1, 0, none⟩ = some (.int .i64 (keys.length : Nat)) := blk_cell (hW.cst _ (.head _)) 0
        have c5 : W.cell? ⟨b5, 0, none⟩ = some (.pointer (some ⟨g, 0, none⟩)) := blk_cell (hW.cst _ (.tail _ (.tail _ m5))) 0
        have c6 : W.cell? ⟨b6, 0, none⟩ = some (.pointer (some ⟨r, 0, none⟩)) := blk_cell (hW.cst _ (.tail _ (.tail _ m6))) 0
        replace hW := Aside0.mk hW
        rw [hs0]
        by_cases q1 : 1 ≤ stop
        · have q3 := hst2 q1
          have q2 : ¬ stop < keys.length := by omega
          go_wp2_with fail
          go_loopg [15] (keys.length + 2) (fun gk v15 wr2 => ∃ (j : Nat) (L : List Nd), v15 = .int .i64 j ∧ j ≤ keys.length + 1 ∧ keys.length + 2 ≤ j + gk ∧ wr2.heap[B + 2]? = some (.deferred (some [])) ∧ Aside0 (Pd w (bF B) (bxs B g bx keys.length) g r L L keys.length wr2) ∧ L.length ≤ keys.length)
          case atStart => exact ⟨keys.length, L, by go_num, by omega, by omega, hK, hW, by omega⟩
          case round =>
            obtain ⟨j, L2, rfl, hj, hgk2, hK2, hW2, hL2⟩ := hrel
            clear hW hK c3 c9 c5 c6
            replace hK2 := Aside0.mk hK2
            by_cases hlt2 : j ≤ keys.length
            · have hltb2 : decide ((j : Int) ≤ (keys.length : Int)) = true := decide_eq_true (by omega)
              have c5 : wr.cell? ⟨b5, 0, none⟩ = some (.pointer (some ⟨g, 0, none⟩)) := blk_cell (hW2.out.cst _ (.tail _ (.tail _ m5))) 0
              have c6 : wr.cell? ⟨b6, 0, none⟩ = some (.pointer (some ⟨r, 0, none⟩)) := blk_cell (hW2.out.cst _ (.tail _ (.tail _ m6))) 0
              by_cases hne : L2 = []
              · subst hne
                go_wp2_with (first
                  | (go_at_call 34; refine (pd_pop0 hW2.out).mono ?_; rintro e w8 ⟨rfl, n8, rfl⟩)
                  | (go_at_call 32; refine (pd_rpop0 (hW2.out.drewN _)).mono ?_; rintro e w9 ⟨rfl, n9, rfl⟩))
                go_roundg (keys.length + 1 - j)
                case measure => omega
                case rel => exact ⟨j + 1, [], by go_num, by omega, by omega, hK2.out, ⟨hW2.out.drewN _⟩, by simp⟩
              · have hrl2 := rest_len hne
                replace hne := Aside0.mk hne
                go_wp2_with (first
                  | (go_at_call 34; refine (pd_pop hW2.out hne.out (by omega)).mono ?_; rintro e w8 ⟨rfl, hp8, hk8⟩; have c6 : w8.cell? ⟨b6, 0, none⟩ = some (.pointer (some ⟨r, 0, none⟩)) := blk_cell (hp8.cst _ (.tail _ (.tail _ m6))) 0; replace hp8 := Aside0.mk hp8; replace hk8 := Aside0.mk hk8)
                  | (go_at_call 32; refine (pd_rpop hp8.out hne.out (by omega)).mono ?_; rintro e w9 ⟨rfl, hp9, hk9⟩; replace hp9 := Aside0.mk hp9; replace hk9 := Aside0.mk hk9))
                go_roundg (keys.length + 1 - j)
                case measure => omega
                case rel => exact ⟨j + 1, rest L2, by go_num, by omega, by omega, (hk9.out _ (.inl rfl)).trans ((hk8.out _ (.inl rfl)).trans hK2.out), hp9, by omega⟩
            · have hltb2 : decide ((j : Int) ≤ (keys.length : Int)) = false := decide_eq_false (by omega)
              have c4 : wr.cell? ⟨w.heap.size + 1, 0, none⟩ = some (.bool false) := blk_cell (hW2.out.cst _ (.tail _ (.tail _ m4))) 0
              have z4 : wr.frozen? ⟨w.heap.size + 1, 0, none⟩ = false := blk_frozen (hW2.out.cst _ (.tail _ (.tail _ m4))) 0
              go_wp2_with fail
              obtain ⟨e1, e2, e3⟩ := s_end hW2.out m4 hlo hbB.out (by omega) hK2.out
              refine ⟨by simp, .inl ⟨_, _, rfl, run_takeDeferred e1, ?_⟩⟩
              exact ⟨_, results_bool rfl _ _ _ _ rfl e2, rfl, e3⟩
        · go_wp2_with fail
          go_loopg [15] (keys.length + 2) (fun gk v15 wr2 => ∃ (j : Nat) (L : List Nd), v15 = .int .i64 j ∧ j ≤ keys.length + 1 ∧ keys.length + 2 ≤ j + gk ∧ wr2.heap[B + 2]? = some (.deferred (some [])) ∧ Aside0 (Pd w (bF B) (bxs B g bx keys.length) g r L L keys.length wr2) ∧ L.length ≤ keys.length)
          case atStart => exact ⟨keys.length, L, by go_num, by omega, by omega, hK, hW, by omega⟩
          case round =>
            obtain ⟨j, L2, rfl, hj, hgk2, hK2, hW2, hL2⟩ := hrel
            clear hW hK c3 c9 c5 c6
            replace hK2 := Aside0.mk hK2
            by_cases hlt2 : j ≤ keys.length
            · have hltb2 : decide ((j : Int) ≤ (keys.length : Int)) = true := decide_eq_true (by omega)
              have c5 : wr.cell? ⟨b5, 0, none⟩ = some (.pointer (some ⟨g, 0, none⟩)) := blk_cell (hW2.out.cst _ (.tail _ (.tail _ m5))) 0
              have c6 : wr.cell? ⟨b6, 0, none⟩ = some (.pointer (some ⟨r, 0, none⟩)) := blk_cell (hW2.out.cst _ (.tail _ (.tail _ m6))) 0
              by_cases hne : L2 = []
              · subst hne
                go_wp2_with (first
                  | (go_at_call 34; refine (pd_pop0 hW2.out).mono ?_; rintro e w8 ⟨rfl, n8, rfl⟩)
                  | (go_at_call 32; refine (pd_rpop0 (hW2.out.drewN _)).mono ?_; rintro e w9 ⟨rfl, n9, rfl⟩))
                go_roundg (keys.length + 1 - j)
                case measure => omega
                case rel => exact ⟨j + 1, [], by go_num, by omega, by omega, hK2.out, ⟨hW2.out.drewN _⟩, by simp⟩
              · have hrl2 := rest_len hne
                replace hne := Aside0.mk hne
                go_wp2_with (first
                  | (go_at_call 34; refine (pd_pop hW2.out hne.out (by omega)).mono ?_; rintro e w8 ⟨rfl, hp8, hk8⟩; have c6 : w8.cell? ⟨b6, 0, none⟩ = some (.pointer (some ⟨r, 0, none⟩)) := blk_cell (hp8.cst _ (.tail _ (.tail _ m6))) 0; replace hp8 := Aside0.mk hp8; replace hk8 := Aside0.mk hk8)
                  | (go_at_call 32; refine (pd_rpop hp8.out hne.out (by omega)).mono ?_; rintro e w9 ⟨rfl, hp9, hk9⟩; replace hp9 := Aside0.mk hp9; replace hk9 := Aside0.mk hk9))
                go_roundg (keys.length + 1 - j)
                case measure => omega
                case rel => exact ⟨j + 1, rest L2, by go_num, by omega, by omega, (hk9.out _ (.inl rfl)).trans ((hk8.out _ (.inl rfl)).trans hK2.out), hp9, by omega⟩
            · have hltb2 : decide ((j : Int) ≤ (keys.length : Int)) = false := decide_eq_false (by omega)
              have c4 : wr.cell? ⟨w.heap.size + 1, 0, none⟩ = some (.bool false) := blk_cell (hW2.out.cst _ (.tail _ (.tail _ m4))) 0
              have z4 : wr.frozen? ⟨w.heap.size + 1, 0, none⟩ = false := blk_frozen (hW2.out.cst _ (.tail _ (.tail _ m4))) 0
              go_wp2_with fail
              obtain ⟨e1, e2, e3⟩ := s_end hW2.out m4 hlo hbB.out (by omega) hK2.out
              refine ⟨by simp, .inl ⟨_, _, rfl, run_takeDeferred e1, ?_⟩⟩
              exact ⟨_, results_bool rfl _ _ _ _ rfl e2, rfl, e3⟩
end Go.Proofs.Ytekcpcipbccodaa.Mem
