/- The law's comparison of two tables that hold the same. Conditions: both are kept. -/
import Derived.Test.YtcicfneekmbamaaChkRF
namespace Go.Proofs.Ytcicfneekmbamaa
set_option linter.unusedVariables false
set_option linter.unusedSimpArgs false
open Go.RowKit
set_option maxRecDepth 100000 in
set_option maxHeartbeats 6400000 in
theorem same_any {w0 w : World} {F S G : Nat → Prop} {a r : Nat} {t : RM} {l : List Chk.Ck} (h1 : TabG w0 w a l G) (h2 : RAt w F S r t l) :
    Calls Try.prog 29 #[.pointer (some ⟨a, 0, none⟩), .pointer (some ⟨r, 0, none⟩)] w fun e w' => e = .returned (.bool true) ∧ Below w.heap.size w w' := by
  have hl := h2.len.1
  have hmx := h2.max
  have HL := Lib.hid hl
  have H1 := Lib.hid h1
  have H2 := Lib.hid h2
  have HIL : Hid ((Chk.ids l).length = t.n) := Lib.hid (by simp [hl])
  have HLN := Lib.hid (fun W hW => (h1.below (w' := W) hW).len_ t.n hl)
  have HI1 := Lib.hid (fun W hW => (h1.below (w' := W) hW).ids_ t.n hl (Chk.ids l) rfl)
  have HI2 := Lib.hid (fun W hW => rids_any (h2.below (w' := W) hW))
  have HC := Lib.hid (fun W hW => h2.rd (w' := W) hW)
  have HMX := Lib.hid hmx
  clear h1 h2 hl
  go_enter Try.func29, Try.ntmps29
  go_upto_region 1 with fail
  have hv0 : Below w.heap.size w w.drew := (Below.refl _ _).drew
  refine wp_region_held_drew (S := fun W => Below w.heap.size w W) (by kernel_rfl) (hv0) (fun hHeld => ?_)
  refine wpAnyH_take (i := 0) (oi := { dst := some 9, op := Op.move (Operand.tmp 0), type := 27, pos := "law.go:55", after := #[], guard := none }) (v := ?v0_1) rfl (by kernel_rfl) (by kernel_rfl) (by kernel_rfl) (fun _ _ _ h => h) (Or.inl ⟨by rfl, ?h0_1⟩) (by assumption) ?r0_1
  case h0_1 =>
    intro W hSW
    try dsimp only at hSW
    go_simp
    try with_reducible rfl
  try simp only [Act.put, List.setIfInBounds_toArray, List.set_cons_zero, List.set_cons_succ]
  refine wpAnyH_take (i := 1) (oi := { dst := some 10, op := Op.binOp BinOp.eql 27 (Operand.tmp 9) (Operand.const (Value.pointer none)) 27, type := 4, pos := "law.go:55", after := #[{ on := 0, ground := Ground.data }], guard := none }) (v := ?v1_2) rfl (by kernel_rfl) (by kernel_rfl) (by kernel_rfl) (fun _ _ _ h => h) (Or.inl ⟨by rfl, ?h1_2⟩) (by assumption) ?r1_2
  case h1_2 =>
    intro W hSW
    try dsimp only at hSW
    go_simp
    try with_reducible rfl
  try simp only [Act.put, List.setIfInBounds_toArray, List.set_cons_zero, List.set_cons_succ]
  refine wpAnyH_take (i := 2) (oi := { dst := some 11, op := Op.move (Operand.tmp 10), type := 4, pos := "law.go:55", after := #[{ on := 1, ground := Ground.data }], guard := none }) (v := ?v2_3) rfl (by kernel_rfl) (by kernel_rfl) (by kernel_rfl) (fun _ _ _ h => h) (Or.inl ⟨by rfl, ?h2_3⟩) (by assumption) ?r2_3
  case h2_3 =>
    intro W hSW
    try dsimp only at hSW
    go_simp
    try with_reducible rfl
  try simp only [Act.put, List.setIfInBounds_toArray, List.set_cons_zero, List.set_cons_succ]
  refine wpAnyH_take (i := 3) (oi := { dst := some 12, op := Op.move (Operand.tmp 0), type := 27, pos := "law.go:55", after := #[{ on := 2, ground := Ground.guard }], guard := some (2, false) }) (v := ?v3_4) rfl (by kernel_rfl) (by kernel_rfl) (by kernel_rfl) (fun _ _ _ h => h) (Or.inl ⟨by rfl, ?h3_4⟩) (by assumption) ?r3_4
  case h3_4 =>
    intro W hSW
    try dsimp only at hSW
    go_simp
    try with_reducible rfl
  try simp only [Act.put, List.setIfInBounds_toArray, List.set_cons_zero, List.set_cons_succ]
  refine wpAnyH_take (i := 5) (oi := { dst := some 14, op := Op.move (Operand.tmp 1), type := 31, pos := "law.go:55", after := #[{ on := 2, ground := Ground.guard }], guard := some (2, false) }) (v := ?v5_5) rfl (by kernel_rfl) (by kernel_rfl) (by kernel_rfl) (fun _ _ _ h => h) (Or.inl ⟨by rfl, ?h5_5⟩) (by assumption) ?r5_5
  case h5_5 =>
    intro W hSW
    try dsimp only at hSW
    go_simp
    try with_reducible rfl
  try simp only [Act.put, List.setIfInBounds_toArray, List.set_cons_zero, List.set_cons_succ]
  refine wpAnyH_take (i := 6) (oi := { dst := some 15, op := Op.nilCheck (Operand.tmp 14), type := 0, pos := "law.go:55", after := #[{ on := 5, ground := Ground.data }, { on := 2, ground := Ground.guard }], guard := some (2, false) }) (v := ?v6_6) rfl (by kernel_rfl) (by kernel_rfl) (by kernel_rfl) (fun _ _ _ h => h) (Or.inl ⟨by rfl, ?h6_6⟩) (by assumption) ?r6_6
  case h6_6 =>
    intro W hSW
    try dsimp only at hSW
    go_simp
    try with_reducible rfl
  try simp only [Act.put, List.setIfInBounds_toArray, List.set_cons_zero, List.set_cons_succ]
  refine wpAnyH_take (i := 7) (oi := { dst := some 16, op := Op.fieldAddr 34 (Operand.tmp 15) 0, type := 0, pos := "law.go:55", after := #[{ on := 6, ground := Ground.data }, { on := 2, ground := Ground.guard }], guard := some (2, false) }) (v := ?v7_7) rfl (by kernel_rfl) (by kernel_rfl) (by kernel_rfl) (fun _ _ _ h => h) (Or.inl ⟨by rfl, ?h7_7⟩) (by assumption) ?r7_7
  case h7_7 =>
    intro W hSW
    try dsimp only at hSW
    go_simp
    try with_reducible rfl
  try simp only [Act.put, List.setIfInBounds_toArray, List.set_cons_zero, List.set_cons_succ]
  refine wpAnyH_take (i := 8) (oi := { dst := some 17, op := Op.load 32 (Operand.tmp 16), type := 32, pos := "law.go:55", after := #[{ on := 7, ground := Ground.data }, { on := 2, ground := Ground.guard }], guard := some (2, false) }) (v := ?v8_8) rfl (by kernel_rfl) (by kernel_rfl) (by kernel_rfl) (fun _ _ _ h => h) (Or.inl ⟨by rfl, ?h8_8⟩) (by assumption) ?r8_8
  case h8_8 =>
    intro W hSW
    try dsimp only at hSW
    have c0 := HC.out W hSW
    go_simp
    try with_reducible rfl
  try simp only [Act.put, List.setIfInBounds_toArray, List.set_cons_zero, List.set_cons_succ]
  refine wpAnyH_take (i := 9) (oi := { dst := some 18, op := Op.call { callee := Callee.builtin Builtin.len, args := #[Operand.tmp 17], argTypes := #[32] }, type := 3, pos := "law.go:55", after := #[{ on := 8, ground := Ground.data }, { on := 2, ground := Ground.guard }], guard := some (2, false) }) (v := ?v9_9) rfl (by kernel_rfl) (by kernel_rfl) (by kernel_rfl) (fun _ _ _ h => h) (Or.inl ⟨by rfl, ?h9_9⟩) (by assumption) ?r9_9
  case h9_9 =>
    intro W hSW
    try dsimp only at hSW
    go_simp
    try with_reducible rfl
  try simp only [Act.put, List.setIfInBounds_toArray, List.set_cons_zero, List.set_cons_succ]
  refine wpAnyH_ready (rs := [4]) (by kernel_rfl) (by simp) ?_
  refine AllReadyH.cons (o := { dst := some 13, op := Op.call { callee := Callee.value (Operand.func 34), args := #[Operand.tmp 12], argTypes := #[27] }, type := 3, pos := "law.go:55", after := #[{ on := 3, ground := Ground.data }, { on := 2, ground := Ground.chain }, { on := 2, ground := Ground.guard }], guard := some (2, false) }) rfl (fun K hK => ?_) AllReadyH.nil
  go_simp
  refine (HLN.out _ hv0).mono ?_
  rintro e w90 ⟨rfl, hw90⟩
  obtain rfl := hw90.symm
  refine hK.out _ _ (hv0) (fun hHeld => ?_)
  clear hK K
  try simp only [Act.put, List.setIfInBounds_toArray, List.set_cons_zero, List.set_cons_succ]
  refine wpAnyH_take (i := 10) (oi := { dst := some 19, op := Op.binOp BinOp.neq 3 (Operand.tmp 13) (Operand.tmp 18) 3, type := 4, pos := "law.go:55", after := #[{ on := 4, ground := Ground.data }, { on := 9, ground := Ground.data }, { on := 2, ground := Ground.guard }], guard := some (2, false) }) (v := ?v10_10) rfl (by kernel_rfl) (by kernel_rfl) (by kernel_rfl) (fun _ _ _ h => h) (Or.inl ⟨by rfl, ?h10_10⟩) (by assumption) ?r10_10
  case h10_10 =>
    intro W hSW
    try dsimp only at hSW
    go_simp
    try with_reducible rfl
  try simp only [Act.put, List.setIfInBounds_toArray, List.set_cons_zero, List.set_cons_succ]
  refine wpAnyH_take (i := 11) (oi := { dst := some 20, op := Op.pick (Operand.tmp 11) (Operand.const (Value.bool true)) (Operand.tmp 19), type := 4, pos := "law.go:55", after := #[{ on := 2, ground := Ground.data }, { on := 10, ground := Ground.data }], guard := none }) (v := ?v11_11) rfl (by kernel_rfl) (by kernel_rfl) (by kernel_rfl) (fun _ _ _ h => h) (Or.inl ⟨by rfl, ?h11_11⟩) (by assumption) ?r11_11
  case h11_11 =>
    intro W hSW
    try dsimp only at hSW
    go_simp
    try with_reducible rfl
  try simp only [Act.put, List.setIfInBounds_toArray, List.set_cons_zero, List.set_cons_succ]
  refine wpAnyH_take (i := 12) (oi := { dst := some 21, op := Op.move (Operand.tmp 20), type := 4, pos := "law.go:55", after := #[{ on := 11, ground := Ground.data }, { on := 4, ground := Ground.chain }], guard := none }) (v := ?v12_12) rfl (by kernel_rfl) (by kernel_rfl) (by kernel_rfl) (fun _ _ _ h => h) (Or.inl ⟨by rfl, ?h12_12⟩) (by assumption) ?r12_12
  case h12_12 =>
    intro W hSW
    try dsimp only at hSW
    go_simp
    try with_reducible rfl
  try simp only [Act.put, List.setIfInBounds_toArray, List.set_cons_zero, List.set_cons_succ]
  refine wpAnyH_take (i := 13) (oi := { dst := some 22, op := Op.move (Operand.tmp 0), type := 27, pos := "law.go:55", after := #[{ on := 12, ground := Ground.guard }], guard := some (12, false) }) (v := ?v13_13) rfl (by kernel_rfl) (by kernel_rfl) (by kernel_rfl) (fun _ _ _ h => h) (Or.inl ⟨by rfl, ?h13_13⟩) (by assumption) ?r13_13
  case h13_13 =>
    intro W hSW
    try dsimp only at hSW
    go_simp
    try with_reducible rfl
  try simp only [Act.put, List.setIfInBounds_toArray, List.set_cons_zero, List.set_cons_succ]
  refine wpAnyH_take (i := 15) (oi := { dst := some 24, op := Op.move (Operand.tmp 1), type := 31, pos := "law.go:55", after := #[{ on := 12, ground := Ground.guard }], guard := some (12, false) }) (v := ?v15_14) rfl (by kernel_rfl) (by kernel_rfl) (by kernel_rfl) (fun _ _ _ h => h) (Or.inl ⟨by rfl, ?h15_14⟩) (by assumption) ?r15_14
  case h15_14 =>
    intro W hSW
    try dsimp only at hSW
    go_simp
    try with_reducible rfl
  try simp only [Act.put, List.setIfInBounds_toArray, List.set_cons_zero, List.set_cons_succ]
  refine wpAnyH_ready (rs := [14]) (by kernel_rfl) (by simp) ?_
  refine AllReadyH.cons (o := { dst := some 23, op := Op.call { callee := Callee.value (Operand.func 30), args := #[Operand.tmp 22], argTypes := #[27] }, type := 52, pos := "law.go:55", after := #[{ on := 13, ground := Ground.data }, { on := 12, ground := Ground.chain }, { on := 12, ground := Ground.guard }], guard := some (12, false) }) rfl (fun K hK => ?_) AllReadyH.nil
  go_simp
  refine (HI1.out _ hv0).mono ?_
  rintro e w91 ⟨A1, c1, rfl, own1, b91⟩
  have hv91 : Below w.heap.size w w91 := (hv0).trans (b91.mono (hv0).size)
  have R1 := Rd.of_own own1
  have HR1 := Lib.hid (fun (W : World) (hW : Below w91.heap.size w91 W) => (Rd.of_own own1).below hW)
  try have R2 := HR2.out w91 b91
  clear own1 b91
  refine hK.out _ _ (hv91) (fun hHeld => ?_)
  clear hK K
  try simp only [Act.put, List.setIfInBounds_toArray, List.set_cons_zero, List.set_cons_succ]
  refine wpAnyH_ready (rs := [16]) (by kernel_rfl) (by simp) ?_
  refine AllReadyH.cons (o := { dst := some 25, op := Op.call { callee := Callee.value (Operand.func 54), args := #[Operand.tmp 24], argTypes := #[31] }, type := 52, pos := "law.go:55", after := #[{ on := 15, ground := Ground.data }, { on := 14, ground := Ground.chain }, { on := 12, ground := Ground.guard }], guard := some (12, false) }) rfl (fun K hK => ?_) AllReadyH.nil
  go_simp
  refine (HI2.out _ hv91).mono ?_
  rintro e w92 ⟨A2, c2, rfl, own2, b92⟩
  have hv92 : Below w.heap.size w w92 := (hv91).trans (b92.mono (hv91).size)
  have R2 := Rd.of_own own2
  have HR2 := Lib.hid (fun (W : World) (hW : Below w92.heap.size w92 W) => (Rd.of_own own2).below hW)
  try have R1 := HR1.out w92 b92
  clear own2 b92
  refine hK.out _ _ (hv92) (fun hHeld => ?_)
  clear hK K
  try simp only [Act.put, List.setIfInBounds_toArray, List.set_cons_zero, List.set_cons_succ]
  refine wpAnyH_ready (rs := [17]) (by kernel_rfl) (by simp) ?_
  refine AllReadyH.cons (o := { dst := some 26, op := Op.call { callee := Callee.value (Operand.func 19), args := #[Operand.tmp 23, Operand.tmp 25], argTypes := #[52, 52] }, type := 4, pos := "law.go:55", after := #[{ on := 14, ground := Ground.data }, { on := 16, ground := Ground.data }, { on := 16, ground := Ground.chain }, { on := 12, ground := Ground.guard }], guard := some (12, false) }) rfl (fun K hK => ?_) AllReadyH.nil
  go_simp
  refine (same_eq _ _ _ _ t.n (Chk.ids l) HIL.out (by omega) _ _ _ R1 R2).mono ?_
  rintro e w93 ⟨rfl, b93⟩
  have hv93 : Below w.heap.size w w93 := (hv92).trans (b93.mono (hv92).size)
  clear b93
  refine hK.out _ _ (hv93) (fun hHeld => ?_)
  clear hK K
  try simp only [Act.put, List.setIfInBounds_toArray, List.set_cons_zero, List.set_cons_succ]
  refine wpAnyH_take (i := 18) (oi := { dst := some 27, op := Op.unOp UnOp.not 4 (Operand.tmp 26), type := 4, pos := "law.go:55", after := #[{ on := 17, ground := Ground.data }, { on := 12, ground := Ground.guard }], guard := some (12, false) }) (v := ?v18_15) rfl (by kernel_rfl) (by kernel_rfl) (by kernel_rfl) (fun _ _ _ h => h) (Or.inl ⟨by rfl, ?h18_15⟩) (by assumption) ?r18_15
  case h18_15 =>
    intro W hSW
    try dsimp only at hSW
    go_simp
    try with_reducible rfl
  try simp only [Act.put, List.setIfInBounds_toArray, List.set_cons_zero, List.set_cons_succ]
  refine wpAnyH_take (i := 19) (oi := { dst := some 28, op := Op.pick (Operand.tmp 21) (Operand.const (Value.bool true)) (Operand.tmp 27), type := 4, pos := "law.go:55", after := #[{ on := 12, ground := Ground.data }, { on := 18, ground := Ground.data }], guard := none }) (v := ?v19_16) rfl (by kernel_rfl) (by kernel_rfl) (by kernel_rfl) (fun _ _ _ h => h) (Or.inl ⟨by rfl, ?h19_16⟩) (by assumption) ?r19_16
  case h19_16 =>
    intro W hSW
    try dsimp only at hSW
    go_simp
    try with_reducible rfl
  try simp only [Act.put, List.setIfInBounds_toArray, List.set_cons_zero, List.set_cons_succ]
  refine wpAnyH_done (by kernel_rfl) ?_ _
  have HW := Lib.hid hv93
  try clear R1
  try clear R2
  have c0 := HC.out _ HW.out
  go_upto_region 4 with fail
  clear c0
  go_loopw [34] (fun u34 wx => ∃ (wr : World) (j : Nat), wr = wx ∧ j ≤ t.n ∧ u34 = .int .i64 (j : Int) ∧ Hid (Below w.heap.size w wr)) (fun u34 _ => t.n - (intOf u34).toNat)
  case atStart => exact ⟨_, 0, rfl, Nat.zero_le _, rfl, HW⟩
  case round =>
    obtain ⟨wr, j, rfl, hj, rfl, HB⟩ := hrel
    have hmx := HMX.out
    by_cases hlt : j < t.n
    · have h2 := H2.out.below HB.out
      have hjl : j < l.length := by rw [HL.out]; exact hlt
      obtain ⟨g, x, hA, hg, hx, hn, hok, hck, hrg⟩ := h2.at hlt
      have hpos := Chk.pos_nth' H2.out.inv hjl
      rw [hn] at hpos
      have HGT := Lib.hid (fun (W : World) (hW : Below wr.heap.size wr W) => ((H1.out.below HB.out).below hW).getOkN x.c.id j x.c hpos hn x.n hok.n)
      have HOK := Lib.hid hok
      have HCK := Lib.hid (And.intro hck.dg (refs_len hck.refs))
      have hd := ckCells_len hck.dg (.slice x.A x.n x.k)
      have hone := List.all_eq_true.2 (ckCells_one x.c (.slice x.A x.n x.k) rfl)
      have hat := (ckCells_at x.c (.slice x.A x.n x.k) hck.dg).1
      obtain ⟨cs, hcs⟩ : ∃ cs, ckCells x.c (.slice x.A x.n x.k) = cs := ⟨_, rfl⟩
      have hcs' : x.cells = cs := hcs
      rw [hcs'] at hrg
      rw [hcs] at hd hone hat
      have HCL := Lib.hid hd
      have HCO := Lib.hid hone
      have HAT := Lib.hid hat
      have HCS := Lib.hid hcs
      have hA' : t.A = some ⟨g, 0, none⟩ := hA
      rw [hA']
      have e1 : (0 : Int) ≤ (j : Int) := by omega
      have e2 : (j : Int) < (t.n : Int) := by omega
      clear h2 hjl hA hA' hx hn hck hok hpos hd hone hat hcs hcs'
      go_upto_region 6 with (first
        | (refine wpList_load_mid rfl _ (.tmp 36) rfl g (j * 23) rfl cs _ hrg Try.underlying45 rfl (by rw [HCL.out]; exact sizeCk) ?_)
        | (refine wpList_storeRow rfl _ (.tmp 6) (.tmp 37) rfl (l' := cs) rz3 rfl rfl (by rw [HCL.out]; exact sizeCk) (by rw [HCL.out]; rfl) HCO.out ?_; intro w4 rz4 g4 z4; clear z4)
        | (refine wpList_allocRow rfl _ rfl _ infoCk' ?_; intro w3 rz3 b3 z3; clear z3))
      have hb4 : Below wr.heap.size wr w4 := b3.grown g4 b3.size (fun i hi => by have := Option.some.inj hi; omega)
      obtain ⟨b6, hb6⟩ : ∃ y, wr.heap.size = y := ⟨_, rfl⟩
      have HB4 := Lib.hid hb4
      rw [hb6] at rz4 ⊢
      have q0 := (rz4.cell 0).trans HAT.out
      have HR4 := Lib.hid rz4
      have HG4 := Lib.hid (HGT.out w4 hb4)
      clear rz3 b3 g4 hb4 rz4 hrg hg hb6
      try simp only [Act.put, List.setIfInBounds_toArray, List.set_cons_zero, List.set_cons_succ]
      go_upto_region 7 with (first
        | (go_at_call 14; refine HG4.out.mono ?_; rintro e w5 ⟨A5, k5, rfl, own5, b5⟩; (have HCL5 := Lib.hid (ckCells_len HCK.out.1 (.slice A5 x.n k5))); (have HCO5 := Lib.hid (List.all_eq_true.2 (ckCells_one x.c (.slice A5 x.n k5) rfl))); (obtain ⟨cs5, hcs5⟩ : ∃ cs, ckCells x.c (.slice A5 x.n k5) = cs := ⟨_, rfl⟩); rw [hcs5] at HCL5 HCO5 ⊢; (have HCS5 := Lib.hid hcs5); (have HO5 := Lib.hid own5); clear own5 hcs5)
        | (refine wpList_storeRow rfl _ (.tmp 7) (.tmp 43) rfl (l' := cs5) rz7 rfl rfl (by rw [HCL5.out]; exact sizeCk) (by rw [HCL5.out]; rfl) HCO5.out ?_; intro w8 rz8 g8 z8; clear z8)
        | (refine wpList_allocRow rfl _ rfl _ infoCk' ?_; intro w7 rz7 b7 z7; clear z7))
      have hb8 : Below w5.heap.size w5 w8 := b7.grown g8 b7.size (fun i hi => by have := Option.some.inj hi; omega)
      obtain ⟨b9, hb9⟩ : ∃ y, w5.heap.size = y := ⟨_, rfl⟩
      have h48 := b5.trans (hb8.mono b5.size)
      have hr8 := HB4.out.trans (h48.mono HB4.out.size)
      have hsc := sameCk_eq x.c HCK.out.1 x.n HOK.out.n (by have := HOK.out.n; have := HCK.out.2; omega) A5 x.A k5 x.k w8 (Rd.of_own (own_same2 HO5.out fun b _ e => hb8.block b e)) ((HOK.out.rd.below hr8).more hr8.size)
      rw [HCS5.out, HCS.out] at hsc
      have HSC := Lib.hid hsc
      have HB8 := Lib.hid (HB.out.trans (hr8.mono HB.out.size))
      rw [hb9] at rz8 ⊢
      have rg8 : w8.rangeAt b9 0 cs5 := fun q u hu => (by rw [Nat.zero_add, rz8.cell]; exact hu)
      have rg4 : w8.rangeAt b6 0 cs := fun q u hu => (by rw [Nat.zero_add, (HR4.out.below' h48).cell]; exact hu)
      clear rz7 b7 g8 hb8 b5 rz8 hb9 h48 hr8 hsc q0
      try simp only [Act.put, List.setIfInBounds_toArray, List.set_cons_zero, List.set_cons_succ]
      go_wp2_with (first
        | (refine wpList_load_midG (by rfl) _ (.tmp 7) rfl b9 0 rfl cs5 _ rg8 Try.underlying45 rfl (by rw [HCL5.out]; exact sizeCk) ?_)
        | (refine wpList_load_midG (by rfl) _ (.tmp 6) rfl b6 0 rfl cs _ rg4 Try.underlying45 rfl (by rw [HCL.out]; exact sizeCk) ?_)
        | (go_at_call 18; refine HSC.out.mono ?_; rintro e w10 ⟨rfl, b10⟩))
      go_roundw
      case rel => exact ⟨_, j + 1, rfl, by omega, by go_num, Lib.hid (HB8.out.trans (b10.mono HB8.out.size))⟩
      case measure => simp [intOf]; omega
    · obtain rfl : j = t.n := by omega
      go_wp2_with fail
      go_ret
      exact ⟨rfl, HB.out⟩
end Go.Proofs.Ytcicfneekmbamaa
