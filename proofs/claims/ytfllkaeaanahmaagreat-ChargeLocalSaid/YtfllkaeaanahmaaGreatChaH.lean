/- The script of layer 34's laws: the program's table and the reference's, side by side. Conditions: as each contract says. -/
import Derived.Test.YtfllkaeaanahmaaGreatColPB
namespace Go.Proofs.YtfllkaeaanahmaaGreat
set_option linter.unusedVariables false
set_option linter.unusedSimpArgs false
open Go.RowKit
set_option maxRecDepth 100000 in
set_option maxHeartbeats 1600000 in
theorem build34_long (A : Option Addr) (n c : Nat) (w : World) (hn : 120 < n) :
  Calls Tryz.prog 8 #[.slice A n c] w fun e w' => e = .returned (.tuple #[.pointer none, .pointer none, .bool false]) ∧ Below w.heap.size w w' := by
 have HN := Lib.hid (new_new w)
 have e1 : (120 : Int) < (n : Int) := by omega
 clear hn
 go_enter Tryz.func8, Tryz.ntmps8
 go_upto_region 2 with (go_at_call 28; refine HN.out.mono ?_; rintro e w1 ⟨a, rfl, F, S, _, _, hb⟩)
 have HB := Lib.hid (hb.trans (((Below.refl w1.heap.size w1).alloc (Nat.le_refl _) (.cells #[.slice none 0 0] 58)).mono hb.size))
 clear hb
 go_wp2_with fail
 go_ret3
 exact ⟨rfl, HB.out⟩
set_option maxRecDepth 100000 in
set_option maxHeartbeats 3200000 in
theorem build34_any (A : Option Addr) (n c : Nat) (ops : List Chk.Op) (w : World) (hn1 : n ≤ 120) (h : OpsAt w A n ops) :
  Calls Tryz.prog 8 #[.slice A n c] w fun e w' => ∃ a r, e = .returned (.tuple #[.pointer (some ⟨a, 0, none⟩), .pointer (some ⟨r, 0, none⟩), .bool true]) ∧ Pair w w' a (Chk.run [] ops) r (Chk.run [] ops) (fun _ => False) := by
 have HN := Lib.hid (new_new w)
 have HO := Lib.hid h
 have HDG := Lib.hid (fun (d : UInt8) W => digest_any d W)
 have e0 : ¬ (120 : Int) < (n : Int) := by omega
 clear h
 go_enter Tryz.func8, Tryz.ntmps8
 go_upto_region 2 with (go_at_call 28; refine HN.out.mono ?_; rintro e w1 ⟨a, rfl, htab⟩; have HT1 := Lib.hid htab; clear htab)
 have hp1 := HT1.out.pair
 obtain ⟨r, hr⟩ : ∃ r, w1.heap.size = r := ⟨_, rfl⟩
 rw [hr] at hp1 ⊢
 obtain ⟨w2, hw2⟩ : ∃ x, w1.alloc (.cells [.slice none 0 0].toArray 58) = x := ⟨_, rfl⟩
 have hw2' : w1.alloc (.cells #[.slice none 0 0] 58) = w2 := hw2
 try rw [hw2'] at hp1
 try rw [hw2'] at ⊢
 have HP3 := Lib.hid hp1
 clear hp1 hw2 hw2' hr HT1
 go_wp2_with fail
 go_loopw [21] (fun u wx => ∃ (wr : World) (j : Nat), wr = wx ∧ j ≤ n ∧ u = .int .i64 (j : Int) ∧ Hid (Pair w wr a (Chk.run [] (ops.take j)) r (Chk.run [] (ops.take j)) (fun _ => False))) (fun u _ => n - (intOf u).toNat)
 case atStart => exact ⟨_, 0, rfl, Nat.zero_le _, rfl, HP3⟩
 case round =>
  obtain ⟨wr, j, rfl, hj, rfl, HTJ⟩ := hrel
  by_cases hlt : j < n
  ·
   have hjl : j < ops.length := by rw [HO.out.len]; exact hlt
   have hbr := HTJ.out.b
   obtain ⟨b, off, rfl, hbb, hrg⟩ := HO.out.rd.elem (f := opL) (fun _ _ => rfl) hjl hlt
   have hpr := HO.out.pr ops[j] (List.getElem_mem hjl)
   have hst := run_take hjl []
   obtain ⟨o, ho⟩ : ∃ o, ops[j] = o := ⟨_, rfl⟩
   rw [ho] at hrg hpr hst
   have hrw : wr.rangeAt b (off + j * 9) (opL o) := fun q u hq => (hbr.cell (p := ⟨b, off + j * 9 + q, none⟩) hbb).trans (hrg q u hq)
   obtain ⟨l, hll⟩ : ∃ l, Chk.run [] (ops.take j) = l := ⟨_, rfl⟩
   rw [hll] at HTJ hst
   obtain ⟨v1, hv1⟩ : ∃ v, (Chk.step l o).2.1 = v := ⟨_, rfl⟩
   obtain ⟨v2, hv2⟩ : ∃ v, (Chk.step l o).2.2 = v := ⟨_, rfl⟩
   have HRD : Hid (∀ W G, Pair w W a l r l G → Calls Tryz.prog 27 #[.pointer (some ⟨r, 0, none⟩), opV o] W fun e w' => e = .returned (.tuple #[.int .i64 v1, .int .i64 v2]) ∧ Pair w w' a l r (Chk.run [] (ops.take (j + 1))) G ∧ SameG W w' G) := Lib.hid (fun W G hW => by
    have := hW.rdo_ o hpr
    rwa [hv1, hv2, ← hst] at this)
   obtain ⟨l2, hl2⟩ : ∃ l2, Chk.run [] (ops.take (j + 1)) = l2 := ⟨_, rfl⟩
   rw [hl2] at HRD hst
   have HL2 := Lib.hid hl2
   have HST := Lib.hid hst
   have HPR := Lib.hid hpr
   obtain ⟨os, hos⟩ : ∃ os, opL o = os := ⟨_, rfl⟩
   have HOV : Hid (opV o = .agg os.toArray) := Lib.hid (by rw [← hos]; rfl)
   rw [HOV.out] at HRD
   rw [hos] at hrw
   have HOS := Lib.hid hos
   have HLN := Lib.hid (show os.length = 9 by rw [← hos]; rfl)
   have HON := Lib.hid (show os.all (·.oneCell') = true by rw [← hos]; rfl)
   have e1 : (0 : Int) ≤ (j : Int) := by omega
   have e2 : (j : Int) < (n : Int) := by omega
   clear hjl hbr hbb hrg hpr hst ho hos hll hv1 hv2 hl2
   go_upto_region 7 with (first
    | (refine wpList_load_mid rfl _ (.tmp 23) rfl b (off + j * 9) rfl os _ hrw Tryz.underlying78 rfl (by rw [HLN.out]; exact sizeOp) ?_)
    | (refine wpList_allocRow rfl _ rfl _ infoOp ?_; intro w3 rz3 b3 z3; clear z3)
    | (refine wpList_storeRow rfl _ (.tmp 8) (.tmp 24) rfl (l' := os) rz3 rfl rfl (by rw [HLN.out]; exact sizeOp) (by rw [HLN.out]; rfl) HON.out ?_; intro w4 rz4 g4 z4; clear z4))
   have hb4 : Below wr.heap.size wr w4 := b3.grown g4 b3.size (fun i hi => by have := Option.some.inj hi; omega)
   obtain ⟨b6, hb6⟩ : ∃ y, wr.heap.size = y := ⟨_, rfl⟩
   have HP4 := Lib.hid (HTJ.out.more hb4 wr.heap.size (Nat.le_refl _) rz4.lt)
   rw [hb6] at rz4 HP4 ⊢
   have HR4 := Lib.hid rz4
   have hr4 : w4.rangeAt b6 0 os := fun q u hu => by rw [Nat.zero_add, rz4.cell]; exact hu
   clear rz3 b3 g4 hrw hb4 hb6 rz4
   try simp only [PT]
   go_upto_region 8 with (first
    | (refine wpList_load_mid rfl _ (.tmp 8) rfl b6 0 rfl os _ hr4 Tryz.underlying78 rfl (by rw [HLN.out]; exact sizeOp) ?_)
    | (go_at_call 27; refine (HRD.out _ _ HP4.out).mono ?_; rintro e w5 ⟨rfl, hp5, hs5⟩; have HP5 := Lib.hid hp5; have HS5 := Lib.hid hs5; clear hp5 hs5))
   have rz5 := HS5.out.row HR4.out rfl
   have HLT := Lib.hid rz5.lt
   rw [← HOS.out] at rz5
   have y0 := rz5.cell 0
   have y1 := rz5.cell 1
   have y2 := rz5.cell 2
   have y3 := rz5.cell 3
   have y4 := rz5.cell 4
   have y5 := rz5.cell 5
   have y6 := rz5.cell 6
   have y7 := rz5.cell 7
   have y8 := rz5.cell 8
   unfold opL at y0 y1 y2 y3 y4 y5 y6 y7 y8
   dsimp only [List.getElem?_cons_zero, List.getElem?_cons_succ] at y0 y1 y2 y3 y4 y5 y6 y7 y8
   clear rz5 hr4 HR4 HS5 HRD HP4 HOS HOV HLN HON
   try simp only [PT]
   by_cases k1 : o.kind = 1
   ·
    have hs : (Chk.step l o).1 = (Chk.add l (Chk.dig o.d) o.pr o.u o.t).1 := by unfold Chk.step; rw [if_pos k1]
    rw [← HST.out] at hs
    obtain ⟨la, na, ea, hR⟩ : ∃ la na ea, Chk.add l (Chk.dig o.d) o.pr o.u o.t = (la, na, ea) := ⟨_, _, _, rfl⟩
    rw [hR] at hs
    dsimp only at hs
    subst hs
    rw [k1] at y0
    have HAD := Lib.hid (fun (W : World) (hW : Below w5.heap.size w5 W) => (HP5.out.below hW).add_ (Chk.dig o.d) (by unfold Chk.dig; simp) o.pr HPR.out o.u o.t hR)
    unfold unV at HAD
    have HY := Lib.hid (And.intro y2 (And.intro y4 (And.intro y5 (And.intro y6 (And.intro y7 y8)))))
    clear y1 y2 y3 y4 y5 y6 y7 y8 hR
    replace HDG := Lib.hid (HDG.out o.d)
    go_upto_region 10 with fail
    clear y0
    have hv0 : w5.drew.heap[b6]? = w5.heap[b6]? := (Below.refl _ _).drew.block b6 HLT.out
    refine wp_region_held_drew (S := fun W => W.heap[b6]? = w5.heap[b6]?) (by kernel_rfl) (hv0) (fun hHeld => ?_)
    refine wpAnyH_take (i := 0) (oi := { dst := some 32, op := Op.move (Operand.tmp 5), type := 28, pos := "law.go:53", after := #[], guard := none }) (v := ?v0_1) rfl (by kernel_rfl) (by kernel_rfl) (by kernel_rfl) (fun _ _ _ h => h) (Or.inl ⟨by rfl, ?h0_1⟩) (by assumption) ?r0_1
    case h0_1 =>
     intro W hSW
     try dsimp only at hSW
     go_simp
     try with_reducible rfl
    try simp only [PT]
    refine wpAnyH_take (i := 1) (oi := { dst := some 33, op := Op.fieldAddr 78 (Operand.tmp 8) 5, type := 0, pos := "law.go:53", after := #[], guard := none }) (v := ?v1_2) rfl (by kernel_rfl) (by kernel_rfl) (by kernel_rfl) (fun _ _ _ h => h) (Or.inl ⟨by rfl, ?h1_2⟩) (by assumption) ?r1_2
    case h1_2 =>
     intro W hSW
     try dsimp only at hSW
     go_simp
     try with_reducible rfl
    try simp only [PT]
    refine wpAnyH_take (i := 2) (oi := { dst := some 34, op := Op.load 5 (Operand.tmp 33), type := 5, pos := "law.go:53", after := #[{ on := 1, ground := Ground.data }], guard := none }) (v := ?v2_3) rfl (by kernel_rfl) (by kernel_rfl) (by kernel_rfl) (fun _ _ _ h => h) (Or.inl ⟨by rfl, ?h2_3⟩) (by assumption) ?r2_3
    case h2_3 =>
     intro W hSW
     try dsimp only at hSW
     have c7 := (cell_hp (k := 7) hSW).trans HY.out.2.2.2.2.1
     go_simp
     try with_reducible rfl
    try simp only [PT]
    refine wpAnyH_take (i := 4) (oi := { dst := some 36, op := Op.fieldAddr 78 (Operand.tmp 8) 6, type := 0, pos := "law.go:53", after := #[], guard := none }) (v := ?v4_4) rfl (by kernel_rfl) (by kernel_rfl) (by kernel_rfl) (fun _ _ _ h => h) (Or.inl ⟨by rfl, ?h4_4⟩) (by assumption) ?r4_4
    case h4_4 =>
     intro W hSW
     try dsimp only at hSW
     go_simp
     try with_reducible rfl
    try simp only [PT]
    refine wpAnyH_take (i := 5) (oi := { dst := some 37, op := Op.load 61 (Operand.tmp 36), type := 61, pos := "law.go:53", after := #[{ on := 4, ground := Ground.data }], guard := none }) (v := ?v5_5) rfl (by kernel_rfl) (by kernel_rfl) (by kernel_rfl) (fun _ _ _ h => h) (Or.inl ⟨by rfl, ?h5_5⟩) (by assumption) ?r5_5
    case h5_5 =>
     intro W hSW
     try dsimp only at hSW
     have c8 := (cell_hp (k := 8) hSW).trans HY.out.2.2.2.2.2
     go_simp
     try with_reducible rfl
    try simp only [PT]
    refine wpAnyH_take (i := 6) (oi := { dst := some 38, op := Op.fieldAddr 78 (Operand.tmp 8) 4, type := 0, pos := "law.go:53", after := #[], guard := none }) (v := ?v6_6) rfl (by kernel_rfl) (by kernel_rfl) (by kernel_rfl) (fun _ _ _ h => h) (Or.inl ⟨by rfl, ?h6_6⟩) (by assumption) ?r6_6
    case h6_6 =>
     intro W hSW
     try dsimp only at hSW
     go_simp
     try with_reducible rfl
    try simp only [PT]
    refine wpAnyH_take (i := 7) (oi := { dst := some 39, op := Op.load 65 (Operand.tmp 38), type := 65, pos := "law.go:53", after := #[{ on := 6, ground := Ground.data }], guard := none }) (v := ?v7_7) rfl (by kernel_rfl) (by kernel_rfl) (by kernel_rfl) (fun _ _ _ h => h) (Or.inl ⟨by rfl, ?h7_7⟩) (by assumption) ?r7_7
    case h7_7 =>
     intro W hSW
     try dsimp only at hSW
     have c4 := (cell_hp (k := 4) hSW).trans HY.out.2.1
     have c5 := (cell_hp (k := 5) hSW).trans HY.out.2.2.1
     have c6 := (cell_hp (k := 6) hSW).trans HY.out.2.2.2.1
     go_simp
     try with_reducible rfl
    try simp only [PT]
    refine wpAnyH_take (i := 8) (oi := { dst := some 40, op := Op.fieldAddr 78 (Operand.tmp 8) 2, type := 0, pos := "law.go:53", after := #[], guard := none }) (v := ?v8_8) rfl (by kernel_rfl) (by kernel_rfl) (by kernel_rfl) (fun _ _ _ h => h) (Or.inl ⟨by rfl, ?h8_8⟩) (by assumption) ?r8_8
    case h8_8 =>
     intro W hSW
     try dsimp only at hSW
     go_simp
     try with_reducible rfl
    try simp only [PT]
    refine wpAnyH_take (i := 9) (oi := { dst := some 41, op := Op.load 3 (Operand.tmp 40), type := 3, pos := "law.go:53", after := #[{ on := 8, ground := Ground.data }], guard := none }) (v := ?v9_9) rfl (by kernel_rfl) (by kernel_rfl) (by kernel_rfl) (fun _ _ _ h => h) (Or.inl ⟨by rfl, ?h9_9⟩) (by assumption) ?r9_9
    case h9_9 =>
     intro W hSW
     try dsimp only at hSW
     have c2 := (cell_hp (k := 2) hSW).trans HY.out.1
     go_simp
     try with_reducible rfl
    try simp only [PT]
    refine wpAnyH_ready (rs := [3]) (by kernel_rfl) (by simp) ?_
    refine AllReadyH.cons (o := { dst := some 35, op := Op.call { callee := Callee.value (Operand.func 30), args := #[Operand.tmp 34], argTypes := #[5] }, type := 60, pos := "law.go:53", after := #[{ on := 2, ground := Ground.data }], guard := none }) rfl (fun K hK => ?_) AllReadyH.nil
    go_simp
    refine (HDG.out _).mono ?_
    rintro e w1 ⟨rfl, b1⟩
    have bd1 : Below w5.heap.size w5 w1 := (Below.refl w5.heap.size w5).drew.trans (b1.mono (Below.refl w5.heap.size w5).drew.size)
    have hv1 : w1.heap[b6]? = w5.heap[b6]? := bd1.block b6 HLT.out
    have HBD := Lib.hid bd1
    clear b1 bd1
    refine hK.out _ _ (hv1) (fun hHeld => ?_)
    clear hK K
    try simp only [PT]
    refine wpAnyH_ready (rs := [10]) (by kernel_rfl) (by simp) ?_
    refine AllReadyH.cons (o := { dst := some 42, op := Op.call { callee := Callee.value (Operand.func 29), args := #[Operand.tmp 32, Operand.tmp 35, Operand.tmp 37, Operand.tmp 39, Operand.tmp 41], argTypes := #[28, 60, 61, 65, 3] }, type := 45, pos := "law.go:53", after := #[{ on := 0, ground := Ground.data }, { on := 3, ground := Ground.data }, { on := 5, ground := Ground.data }, { on := 7, ground := Ground.data }, { on := 9, ground := Ground.data }, { on := 3, ground := Ground.chain }], guard := none }) rfl (fun K hK => ?_) AllReadyH.nil
    go_simp
    refine (HAD.out _ HBD.out).mono ?_
    rintro e w2 ⟨rfl, hp2, hs2⟩
    have hv2 : w2.heap[b6]? = w5.heap[b6]? := (hs2 b6 rfl).trans hv1
    have HP6 := Lib.hid hp2
    clear hp2 hs2
    refine hK.out _ _ (hv2) (fun hHeld => ?_)
    clear hK K
    try simp only [PT]
    refine wpAnyH_done (by kernel_rfl) ?_ _
    go_wp2_with fail
    go_roundw
    case rel => exact ⟨_, j + 1, rfl, by omega, by go_num, Lib.hid (by rw [HL2.out]; exact HP6.out.free)⟩
    case measure => simp [intOf]; omega
   by_cases k2 : o.kind = 2
   ·
    have hs : (Chk.step l o).1 = (Chk.refer l o.id o.t o.n).1 := by unfold Chk.step; rw [if_neg (by omega)]; rw [if_pos k2]
    rw [← HST.out] at hs
    obtain ⟨la, na, ea, hR⟩ : ∃ la na ea, Chk.refer l o.id o.t o.n = (la, na, ea) := ⟨_, _, _, rfl⟩
    rw [hR] at hs
    dsimp only at hs
    subst hs
    rw [k2] at y0
    have HCA := Lib.hid (HP5.out.refer_ o.id o.t o.n hR)
    clear y4 y5 y6 y7 y8 hR
    go_wp2_with (go_at_call 31; refine HCA.out.mono ?_; rintro e w6 ⟨rfl, hp6, hs6⟩; have HP6 := Lib.hid hp6; clear hp6 hs6)
    go_roundw
    case rel => exact ⟨_, j + 1, rfl, by omega, by go_num, Lib.hid (by rw [HL2.out]; exact HP6.out.free)⟩
    case measure => simp [intOf]; omega
   by_cases k3 : o.kind = 3
   ·
    have hs : (Chk.step l o).1 = (Chk.unrefer l o.id o.t o.n).1 := by unfold Chk.step; rw [if_neg (by omega)]; rw [if_neg (by omega)]; rw [if_pos k3]
    rw [← HST.out] at hs
    obtain ⟨la, na, ea, hR⟩ : ∃ la na ea, Chk.unrefer l o.id o.t o.n = (la, na, ea) := ⟨_, _, _, rfl⟩
    rw [hR] at hs
    dsimp only at hs
    subst hs
    rw [k3] at y0
    have HCA := Lib.hid (HP5.out.unrefer_ o.id o.t o.n _ hR rfl)
    obtain ⟨q, hq⟩ : ∃ q, decide (na = 1) = q := ⟨_, rfl⟩
    rw [hq] at HCA
    clear hq
    clear y4 y5 y6 y7 y8 hR
    go_wp2_with (go_at_call 32; refine HCA.out.mono ?_; rintro e w6 ⟨rfl, hp6, hs6⟩; have HP6 := Lib.hid hp6; clear hp6 hs6)
    go_roundw
    case rel => exact ⟨_, j + 1, rfl, by omega, by go_num, Lib.hid (by rw [HL2.out]; exact HP6.out.free)⟩
    case measure => simp [intOf]; omega
   by_cases k4 : o.kind = 4
   ·
    have hs : (Chk.step l o).1 = (Chk.move l o.id o.u).1 := by unfold Chk.step; rw [if_neg (by omega)]; rw [if_neg (by omega)]; rw [if_neg (by omega)]; rw [if_pos k4]
    rw [← HST.out] at hs
    obtain ⟨la, na, ea, hR⟩ : ∃ la na ea, Chk.move l o.id o.u = (la, na, ea) := ⟨_, _, _, rfl⟩
    rw [hR] at hs
    dsimp only at hs
    subst hs
    rw [k4] at y0
    have HCA := Lib.hid (HP5.out.move_ o.id o.u hR)
    unfold unV at HCA
    clear y2 y3 y7 y8 hR
    go_wp2_with (go_at_call 33; refine HCA.out.mono ?_; rintro e w6 ⟨rfl, hp6, hs6⟩; have HP6 := Lib.hid hp6; clear hp6 hs6)
    go_roundw
    case rel => exact ⟨_, j + 1, rfl, by omega, by go_num, Lib.hid (by rw [HL2.out]; exact HP6.out.free)⟩
    case measure => simp [intOf]; omega
   by_cases k5 : o.kind = 5
   ·
    have hs : (Chk.step l o).1 = (Chk.lose l o.id).1 := by unfold Chk.step; rw [if_neg (by omega)]; rw [if_neg (by omega)]; rw [if_neg (by omega)]; rw [if_neg (by omega)]; rw [if_pos k5]
    rw [← HST.out] at hs
    obtain ⟨la, na, ea, hR⟩ : ∃ la na ea, Chk.lose l o.id = (la, na, ea) := ⟨_, _, _, rfl⟩
    rw [hR] at hs
    dsimp only at hs
    subst hs
    rw [k5] at y0
    have HCA := Lib.hid (HP5.out.lose_ o.id hR)
    clear y2 y3 y4 y5 y6 y7 y8 hR
    go_wp2_with (go_at_call 34; refine HCA.out.mono ?_; rintro e w6 ⟨rfl, hp6, hs6⟩; have HP6 := Lib.hid hp6; clear hp6 hs6)
    go_roundw
    case rel => exact ⟨_, j + 1, rfl, by omega, by go_num, Lib.hid (by rw [HL2.out]; exact HP6.out.free)⟩
    case measure => simp [intOf]; omega
   have hs : (Chk.step l o).1 = l := by unfold Chk.step; rw [if_neg k1, if_neg k2, if_neg k3, if_neg k4, if_neg k5]
   rw [← HST.out] at hs
   subst hs
   obtain ⟨k, hk⟩ : ∃ k, o.kind = k := ⟨_, rfl⟩
   rw [hk] at y0 k1 k2 k3 k4 k5
   have d1 : (k == 1) = false := by simpa using k1
   have d2 : (k == 2) = false := by simpa using k2
   have d3 : (k == 3) = false := by simpa using k3
   have d4 : (k == 4) = false := by simpa using k4
   have d5 : (k == 5) = false := by simpa using k5
   clear y1 y2 y3 y4 y5 y6 y7 y8 hk
   have HP6 := HP5
   go_wp2_with fail
   go_roundw
   case rel => exact ⟨_, j + 1, rfl, by omega, by go_num, Lib.hid (by rw [HL2.out]; exact HP6.out.free)⟩
   case measure => simp [intOf]; omega
  ·
   obtain rfl : j = n := by omega
   have HE := Lib.hid (show ops.take j = ops from List.take_of_length_le (by rw [HO.out.len]; exact Nat.le_refl _))
   go_wp2_with fail
   go_ret3
   have h := HTJ.out
   rw [HE.out] at h
   exact ⟨a, r, rfl, h⟩
end Go.Proofs.YtfllkaeaanahmaaGreat
