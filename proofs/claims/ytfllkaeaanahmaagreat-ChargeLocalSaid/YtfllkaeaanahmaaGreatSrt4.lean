/- symMerge of two neighbouring sorted parts of a row, one of which has one element. Conditions: the parts lie in the row, which has at most 1000 elements. -/
import Derived.Test.YtfllkaeaanahmaaGreatHeld2
import Derived.Test.YtfllkaeaanahmaaGreatSrt3
namespace Go.Proofs.YtfllkaeaanahmaaGreat.W
set_option linter.unusedVariables false
set_option linter.unusedSimpArgs false
open Go.RowKit
abbrev oSrt40 : Oper := { dst := some 40, op := Op.move (Operand.tmp 4), type := 140, pos := "zsortanyfunc.go:390", after := #[], guard := none }
abbrev oSrt41 : Oper := { dst := some 41, op := Op.move (Operand.tmp 0), type := 27, pos := "zsortanyfunc.go:390", after := #[], guard := none }
abbrev oSrt42 : Oper := { dst := some 42, op := Op.move (Operand.tmp 12), type := 3, pos := "zsortanyfunc.go:390", after := #[], guard := none }
abbrev oSrt43 : Oper := { dst := some 43, op := Op.indexAddr 27 (Operand.tmp 41) (Operand.tmp 42), type := 0, pos := "zsortanyfunc.go:390", after := #[{ on := 1, ground := Ground.data }, { on := 2, ground := Ground.data }], guard := none }
abbrev oSrt44 : Oper := { dst := some 44, op := Op.load 3 (Operand.tmp 43), type := 3, pos := "zsortanyfunc.go:390", after := #[{ on := 3, ground := Ground.data }], guard := none }
abbrev oSrt45 : Oper := { dst := some 45, op := Op.move (Operand.tmp 0), type := 27, pos := "zsortanyfunc.go:390", after := #[], guard := none }
abbrev oSrt46 : Oper := { dst := some 46, op := Op.move (Operand.tmp 1), type := 3, pos := "zsortanyfunc.go:390", after := #[], guard := none }
abbrev oSrt47 : Oper := { dst := some 47, op := Op.indexAddr 27 (Operand.tmp 45) (Operand.tmp 46), type := 0, pos := "zsortanyfunc.go:390", after := #[{ on := 5, ground := Ground.data }, { on := 6, ground := Ground.data }], guard := none }
abbrev oSrt48 : Oper := { dst := some 48, op := Op.load 3 (Operand.tmp 47), type := 3, pos := "zsortanyfunc.go:390", after := #[{ on := 7, ground := Ground.data }], guard := none }
abbrev oSrt49 : Oper := { dst := some 49, op := Op.call { callee := Callee.value (Operand.tmp 40), args := #[Operand.tmp 44, Operand.tmp 48], argTypes := #[3, 3] }, type := 3, pos := "zsortanyfunc.go:390", after := #[{ on := 0, ground := Ground.data }, { on := 4, ground := Ground.data }, { on := 8, ground := Ground.data }], guard := none }
abbrev oSrt410 : Oper := { dst := some 50, op := Op.binOp BinOp.lss 3 (Operand.tmp 49) (Operand.const (Value.int IntKind.i64 0)) 3, type := 4, pos := "zsortanyfunc.go:390", after := #[{ on := 9, ground := Ground.data }], guard := none }
abbrev oSrt411 : Oper := { dst := some 92, op := Op.move (Operand.tmp 4), type := 140, pos := "zsortanyfunc.go:414", after := #[], guard := none }
abbrev oSrt412 : Oper := { dst := some 93, op := Op.move (Operand.tmp 0), type := 27, pos := "zsortanyfunc.go:414", after := #[], guard := none }
abbrev oSrt413 : Oper := { dst := some 94, op := Op.move (Operand.tmp 2), type := 3, pos := "zsortanyfunc.go:414", after := #[], guard := none }
abbrev oSrt414 : Oper := { dst := some 95, op := Op.indexAddr 27 (Operand.tmp 93) (Operand.tmp 94), type := 0, pos := "zsortanyfunc.go:414", after := #[{ on := 1, ground := Ground.data }, { on := 2, ground := Ground.data }], guard := none }
abbrev oSrt415 : Oper := { dst := some 96, op := Op.load 3 (Operand.tmp 95), type := 3, pos := "zsortanyfunc.go:414", after := #[{ on := 3, ground := Ground.data }], guard := none }
abbrev oSrt416 : Oper := { dst := some 97, op := Op.move (Operand.tmp 0), type := 27, pos := "zsortanyfunc.go:414", after := #[], guard := none }
abbrev oSrt417 : Oper := { dst := some 98, op := Op.move (Operand.tmp 16), type := 3, pos := "zsortanyfunc.go:414", after := #[], guard := none }
abbrev oSrt418 : Oper := { dst := some 99, op := Op.indexAddr 27 (Operand.tmp 97) (Operand.tmp 98), type := 0, pos := "zsortanyfunc.go:414", after := #[{ on := 5, ground := Ground.data }, { on := 6, ground := Ground.data }], guard := none }
abbrev oSrt419 : Oper := { dst := some 100, op := Op.load 3 (Operand.tmp 99), type := 3, pos := "zsortanyfunc.go:414", after := #[{ on := 7, ground := Ground.data }], guard := none }
abbrev oSrt420 : Oper := { dst := some 101, op := Op.call { callee := Callee.value (Operand.tmp 92), args := #[Operand.tmp 96, Operand.tmp 100], argTypes := #[3, 3] }, type := 3, pos := "zsortanyfunc.go:414", after := #[{ on := 0, ground := Ground.data }, { on := 4, ground := Ground.data }, { on := 8, ground := Ground.data }], guard := none }
abbrev oSrt421 : Oper := { dst := some 102, op := Op.binOp BinOp.lss 3 (Operand.tmp 101) (Operand.const (Value.int IntKind.i64 0)) 3, type := 4, pos := "zsortanyfunc.go:414", after := #[{ on := 9, ground := Ground.data }], guard := none }
abbrev oSrt422 : Oper := { dst := some 103, op := Op.unOp UnOp.not 4 (Operand.tmp 102), type := 4, pos := "zsortanyfunc.go:414", after := #[{ on := 10, ground := Ground.data }], guard := none }
set_option maxRecDepth 100000 in
set_option maxHeartbeats 4000000 in
theorem sym_left (w0 : World) (g n c bt bw bs : Nat) (R : Int → Int → Prop) (ls : Int → Int → Bool) (O : So.Ord R) (HC0 : CmpOk w0 g n bt bw bs ls) (a m b : Nat) (ham : a < m) (hmb : m < b) (hbn : b ≤ n) (hn : n ≤ 1000) (cur : Nat → Int) (hrg : Rng n cur) (hT : So.Two R ls cur a m b) (w : World) (hg0 : w0.grownBy w (some g)) (hr : FRow w g n cur) (hm1 : m = a + 1) : Calls Tryz.prog 126 #[.slice (some ⟨g, 0, none⟩) n c, .int .i64 a, .int .i64 m, .int .i64 b, firstF bt bw bs] w (SortRes R g n a b cur w) := by
 have qma : (m : Int) - (a : Int) = 1 := by omega
 have HR := Lib.hid hr
 have HCC := Lib.hid HC0
 have HO := Lib.hid O
 have HRG := Lib.hid hrg
 have HT := Lib.hid hT
 have HG0 := Lib.hid hg0
 have HM1 := Lib.hid hm1
 clear hr HC0 O hrg hT hg0 hm1
 go_enter Tryz.func126, Tryz.ntmps126
 go_wp2
 go_loopw [10, 11] (fun u10 u11 wr => ∃ i j : Nat, m ≤ i ∧ i ≤ j ∧ j ≤ b ∧ u10 = .int .i64 i ∧ u11 = .int .i64 j ∧ Hid (m < i → ls (cur (i - 1)) (cur a) = true) ∧ Hid (j < b → ls (cur j) (cur a) = false) ∧ Hid (FRow wr g n cur) ∧ w.grownBy wr (some g)) (fun u10 u11 _ => (intOf u11).toNat - (intOf u10).toNat)
 case atStart => exact ⟨m, b, Nat.le_refl _, by omega, Nat.le_refl _, rfl, rfl, fun h => absurd h (Nat.lt_irrefl _), fun h => absurd h (Nat.lt_irrefl _), HR.out, World.grownBy.refl _ _⟩
 case round =>
  obtain ⟨i, j, hmi, hij, hjb, rfl, rfl, HP1, HP2, HF, hg⟩ := hrel
  have HG := Lib.hid hg
  by_cases hlt : i < j
  ·
   have hij' : (i : Int) < (j : Int) := by omega
   obtain ⟨z, hz⟩ : ∃ z, i + j = z := ⟨_, rfl⟩
   obtain ⟨h, hh⟩ : ∃ h, z / 2 = h := ⟨_, rfl⟩
   have qz : (i : Int) + (j : Int) = (z : Int) := by omega
   have wz : IntKind.i64.wrap (z : Int) = (z : Int) := IntWalk.i64_in _ (by omega)
   have uz : IntKind.u64.wrap (z : Int) = (z : Int) := by rw [IntKind.wrap_u64]; omega
   have uh : IntKind.u64.wrap (h : Int) = (h : Int) := by rw [IntKind.wrap_u64]; omega
   have wh : IntKind.i64.wrap (h : Int) = (h : Int) := IntWalk.i64_in _ (by omega)
   have qh : (z : Int) / 2 = (h : Int) := by omega
   have hh1 : i ≤ h ∧ h < j := by omega
   obtain ⟨h', hh'⟩ : ∃ x, h + 1 = x := ⟨_, rfl⟩
   have qh' : (h : Int) + 1 = (h' : Int) := by omega
   have wh' : IntKind.i64.wrap (h' : Int) = (h' : Int) := IntWalk.i64_in _ (by omega)
   have x0 : (0 : Int) ≤ (h : Int) := by omega
   have x1 : (h : Int) < (n : Int) := by omega
   have x2 : (0 : Int) ≤ (a : Int) := by omega
   have x3 : (a : Int) < (n : Int) := by omega
   have C1 := Lib.hid (HF.out.cell (h) (by omega))
   have C2 := Lib.hid (HF.out.cell (a) (by omega))
   have hr1 := HRG.out (h) (by omega)
   have hr2 := HRG.out (a) (by omega)
   have HCM := Lib.hid (fun (W : World) (hW : Below wr.heap.size wr W) => HCC.out W ((HG0.out.trans HG.out).trans (grownBy_of_below hW).any) (cur (h)) (cur (a)) hr1.1 hr1.2 hr2.1 hr2.2)
   have HGL := Lib.hid HF.out.lt
   obtain ⟨vx, hx⟩ : ∃ v, cur (h) = v := ⟨_, rfl⟩
   obtain ⟨vy, hy⟩ : ∃ v, cur (a) = v := ⟨_, rfl⟩
   obtain ⟨q, hq⟩ : ∃ q, ls vx vy = q := ⟨_, rfl⟩
   rw [hx] at C1 HCM
   rw [hy] at C2 HCM
   rw [hq] at HCM
   have HXY := Lib.hid (And.intro hx (And.intro hy hq))
   clear hr1 hr2 hx hy hq
   have HHJ := Lib.hid (And.intro hh1 hh')
   clear hg hz hh hh1 hh'
   cases q with
   | false =>
    go_wp2_with fail
    have hv0 : Below wr.heap.size wr wr.drew := (Below.refl _ _).drew
    refine wp_region_held_drew (S := fun W => Below wr.heap.size wr W) (by kernel_rfl) (hv0) (fun hHeld => ?_)
    refine tkH 0 oSrt40 ?v0_1001 (.inl ⟨by rfl, ?h0_1001⟩) ?r0_1001
    case h0_1001 =>
     intro W hSW
     unfold oSrt40
     try dsimp only at hSW
     go_simp
     try with_reducible rfl
    try simp only [oSrt40, PT]
    refine tkH 1 oSrt41 ?v1_1002 (.inl ⟨by rfl, ?h1_1002⟩) ?r1_1002
    case h1_1002 =>
     intro W hSW
     unfold oSrt41
     try dsimp only at hSW
     go_simp
     try with_reducible rfl
    try simp only [oSrt41, PT]
    refine tkH 2 oSrt42 ?v2_1003 (.inl ⟨by rfl, ?h2_1003⟩) ?r2_1003
    case h2_1003 =>
     intro W hSW
     unfold oSrt42
     try dsimp only at hSW
     go_simp
     try with_reducible rfl
    try simp only [oSrt42, PT]
    refine tkH 3 oSrt43 ?v3_1004 (.inl ⟨by rfl, ?h3_1004⟩) ?r3_1004
    case h3_1004 =>
     intro W hSW
     unfold oSrt43
     try dsimp only at hSW
     go_simp
     try with_reducible rfl
    try simp only [oSrt43, PT]
    refine tkH 4 oSrt44 ?v4_1005 (.inl ⟨by rfl, ?h4_1005⟩) ?r4_1005
    case h4_1005 =>
     intro W hSW
     unfold oSrt44
     try dsimp only at hSW
     have hc0 := (hSW.cell (p := ⟨g, h, none⟩) HGL.out).trans C1.out
     go_simp
     try with_reducible rfl
    try simp only [oSrt44, PT]
    refine tkH 5 oSrt45 ?v5_1006 (.inl ⟨by rfl, ?h5_1006⟩) ?r5_1006
    case h5_1006 =>
     intro W hSW
     unfold oSrt45
     try dsimp only at hSW
     go_simp
     try with_reducible rfl
    try simp only [oSrt45, PT]
    refine tkH 6 oSrt46 ?v6_1007 (.inl ⟨by rfl, ?h6_1007⟩) ?r6_1007
    case h6_1007 =>
     intro W hSW
     unfold oSrt46
     try dsimp only at hSW
     go_simp
     try with_reducible rfl
    try simp only [oSrt46, PT]
    refine tkH 7 oSrt47 ?v7_1008 (.inl ⟨by rfl, ?h7_1008⟩) ?r7_1008
    case h7_1008 =>
     intro W hSW
     unfold oSrt47
     try dsimp only at hSW
     go_simp
     try with_reducible rfl
    try simp only [oSrt47, PT]
    refine tkH 8 oSrt48 ?v8_1009 (.inl ⟨by rfl, ?h8_1009⟩) ?r8_1009
    case h8_1009 =>
     intro W hSW
     unfold oSrt48
     try dsimp only at hSW
     have hc0 := (hSW.cell (p := ⟨g, a, none⟩) HGL.out).trans C2.out
     go_simp
     try with_reducible rfl
    try simp only [oSrt48, PT]
    refine rdyH [9] ?_
    refine AllReadyH.cons (o := oSrt49) rfl (fun K hK => ?_) AllReadyH.nil
    unfold oSrt49
    go_simp
    refine (HCM.out _ hv0).mono ?_
    rintro e w1 ⟨cc, rfl, hcc2, b1⟩
    have hv1 : Below wr.heap.size wr w1 := hv0.trans (b1.mono hv0.size)
    go_wp2_with fail
    refine hK.out _ _ (hv1) (fun hHeld => ?_)
    clear hK K
    try simp only [PT]
    refine tkH 10 oSrt410 ?v10_1010 (.inl ⟨by rfl, ?h10_1010⟩) ?r10_1010
    case h10_1010 =>
     intro W hSW
     unfold oSrt410
     try dsimp only at hSW
     go_simp
     try with_reducible rfl
    try simp only [oSrt410, PT]
    refine wpAnyH_done (by kernel_rfl) ?_ _
    have F5 := HF.out.below hv1
    have G5 := HG.out.trans (grownBy_of_below hv1).any
    clear hHeld
    go_wp2_with fail
    go_roundw
    case rel => exact ⟨i, h, hmi, by have := HHJ.out; omega, by have := HHJ.out; omega, rfl, rfl, HP1.out, fun _ => by rw [HXY.out.1, HXY.out.2.1]; exact HXY.out.2.2, F5, G5⟩
    case measure => have := HHJ.out; simp [intOf]; omega
   | true =>
    go_wp2_with fail
    have hv0 : Below wr.heap.size wr wr.drew := (Below.refl _ _).drew
    refine wp_region_held_drew (S := fun W => Below wr.heap.size wr W) (by kernel_rfl) (hv0) (fun hHeld => ?_)
    refine tkH 0 oSrt40 ?v0_2001 (.inl ⟨by rfl, ?h0_2001⟩) ?r0_2001
    case h0_2001 =>
     intro W hSW
     unfold oSrt40
     try dsimp only at hSW
     go_simp
     try with_reducible rfl
    try simp only [oSrt40, PT]
    refine tkH 1 oSrt41 ?v1_2002 (.inl ⟨by rfl, ?h1_2002⟩) ?r1_2002
    case h1_2002 =>
     intro W hSW
     unfold oSrt41
     try dsimp only at hSW
     go_simp
     try with_reducible rfl
    try simp only [oSrt41, PT]
    refine tkH 2 oSrt42 ?v2_2003 (.inl ⟨by rfl, ?h2_2003⟩) ?r2_2003
    case h2_2003 =>
     intro W hSW
     unfold oSrt42
     try dsimp only at hSW
     go_simp
     try with_reducible rfl
    try simp only [oSrt42, PT]
    refine tkH 3 oSrt43 ?v3_2004 (.inl ⟨by rfl, ?h3_2004⟩) ?r3_2004
    case h3_2004 =>
     intro W hSW
     unfold oSrt43
     try dsimp only at hSW
     go_simp
     try with_reducible rfl
    try simp only [oSrt43, PT]
    refine tkH 4 oSrt44 ?v4_2005 (.inl ⟨by rfl, ?h4_2005⟩) ?r4_2005
    case h4_2005 =>
     intro W hSW
     unfold oSrt44
     try dsimp only at hSW
     have hc0 := (hSW.cell (p := ⟨g, h, none⟩) HGL.out).trans C1.out
     go_simp
     try with_reducible rfl
    try simp only [oSrt44, PT]
    refine tkH 5 oSrt45 ?v5_2006 (.inl ⟨by rfl, ?h5_2006⟩) ?r5_2006
    case h5_2006 =>
     intro W hSW
     unfold oSrt45
     try dsimp only at hSW
     go_simp
     try with_reducible rfl
    try simp only [oSrt45, PT]
    refine tkH 6 oSrt46 ?v6_2007 (.inl ⟨by rfl, ?h6_2007⟩) ?r6_2007
    case h6_2007 =>
     intro W hSW
     unfold oSrt46
     try dsimp only at hSW
     go_simp
     try with_reducible rfl
    try simp only [oSrt46, PT]
    refine tkH 7 oSrt47 ?v7_2008 (.inl ⟨by rfl, ?h7_2008⟩) ?r7_2008
    case h7_2008 =>
     intro W hSW
     unfold oSrt47
     try dsimp only at hSW
     go_simp
     try with_reducible rfl
    try simp only [oSrt47, PT]
    refine tkH 8 oSrt48 ?v8_2009 (.inl ⟨by rfl, ?h8_2009⟩) ?r8_2009
    case h8_2009 =>
     intro W hSW
     unfold oSrt48
     try dsimp only at hSW
     have hc0 := (hSW.cell (p := ⟨g, a, none⟩) HGL.out).trans C2.out
     go_simp
     try with_reducible rfl
    try simp only [oSrt48, PT]
    refine rdyH [9] ?_
    refine AllReadyH.cons (o := oSrt49) rfl (fun K hK => ?_) AllReadyH.nil
    unfold oSrt49
    go_simp
    refine (HCM.out _ hv0).mono ?_
    rintro e w1 ⟨cc, rfl, hcc2, b1⟩
    have hv1 : Below wr.heap.size wr w1 := hv0.trans (b1.mono hv0.size)
    go_wp2_with fail
    refine hK.out _ _ (hv1) (fun hHeld => ?_)
    clear hK K
    try simp only [PT]
    refine tkH 10 oSrt410 ?v10_2010 (.inl ⟨by rfl, ?h10_2010⟩) ?r10_2010
    case h10_2010 =>
     intro W hSW
     unfold oSrt410
     try dsimp only at hSW
     go_simp
     try with_reducible rfl
    try simp only [oSrt410, PT]
    refine wpAnyH_done (by kernel_rfl) ?_ _
    have F5 := HF.out.below hv1
    have G5 := HG.out.trans (grownBy_of_below hv1).any
    clear hHeld
    go_wp2_with fail
    go_roundw
    case rel => exact ⟨h', j, by have := HHJ.out; omega, by have := HHJ.out; omega, hjb, by go_num, rfl, fun _ => by have := HHJ.out; rw [show h' - 1 = h by omega, HXY.out.1, HXY.out.2.1]; exact HXY.out.2.2, HP2.out, F5, G5⟩
    case measure => have := HHJ.out; simp [intOf]; omega
  ·
   obtain rfl : i = j := by omega
   have HML := Lib.hid (So.merge_l HO.out HT.out HM1.out hmi hjb HP1.out HP2.out)
   obtain ⟨e, he⟩ : ∃ x, i - 1 = x := ⟨_, rfl⟩
   have qe : (i : Int) - 1 = (e : Int) := by omega
   have we : IntKind.i64.wrap (e : Int) = (e : Int) := IntWalk.i64_in _ (by omega)
   have HE := Lib.hid he
   clear hg he
   go_wp2_with fail
   go_loopw [13] (fun u13 wy => ∃ (wx : World) (k : Nat), wx = wy ∧ a ≤ k ∧ k ≤ e ∧ u13 = .int .i64 k ∧ Hid (FRow wx g n (So.rot cur a (a + 1) (k + 1))) ∧ w.grownBy wx (some g)) (fun u13 _ => e - (intOf u13).toNat)
   case atStart => exact ⟨_, a, rfl, Nat.le_refl _, by have := HE.out; omega, rfl, by rw [So.rot_id]; exact HF.out, HG.out⟩
   case round =>
    obtain ⟨wx, k, rfl, hak, hke, rfl, HFK, hgk⟩ := hrel
    have HGK := Lib.hid hgk
    by_cases hkl : k < e
    ·
     obtain ⟨k', hk'⟩ : ∃ x, k + 1 = x := ⟨_, rfl⟩
     have qk : (k : Int) + 1 = (k' : Int) := by omega
     have wk : IntKind.i64.wrap (k' : Int) = (k' : Int) := IntWalk.i64_in _ (by omega)
     have k1 : (k : Int) < (e : Int) := by omega
     have y0 : (0 : Int) ≤ (k : Int) := by omega
     have y1 : (k : Int) < (n : Int) := by have := HE.out; omega
     have y2 : (0 : Int) ≤ (k' : Int) := by omega
     have y3 : (k' : Int) < (n : Int) := by have := HE.out; omega
     have hkn : k < n := by omega
     have hkn' : k' < n := by omega
     have c1 := HFK.out.cell k hkn
     have c2 := HFK.out.cell k' hkn'
     have f1 := HFK.out.free k hkn
     have f2 := HFK.out.free k' hkn'
     have hne : k ≠ k' := by omega
     have HSW := Lib.hid (HFK.out.swap hkn hkn')
     have HKK := Lib.hid hk'
     clear hgk hk'
     go_wp2_with fail
     go_region
     all_goals go_wp2
     go_roundw
     case rel =>
      have hk' := HKK.out
      refine ⟨_, k', rfl, by omega, by omega, by go_num, ?_, ?_⟩
      ·
       refine FRow.congr (d := fun t => if t = k' then So.rot cur a (a + 1) (k + 1) k else if t = k then So.rot cur a (a + 1) (k + 1) k' else So.rot cur a (a + 1) (k + 1) t) (by first | exact HSW.out.1 | exact HSW.out.1.drewN _) fun t _ => ?_
       subst hk'
       rw [So.rot_up cur hak t]
       by_cases e1 : t = k
       ·
        rw [if_pos e1, if_neg (by omega), if_pos e1]
       ·
        rw [if_neg e1, if_neg e1]
      ·
       exact HGK.out.trans (by first | exact HSW.out.2 | exact grown_drewN HSW.out.2 _)
     case measure => have := HKK.out; simp [intOf]; omega
    ·
     obtain rfl : k = e := by omega
     have HQ : Hid (So.rot cur a (a + 1) (k + 1) = So.rot cur a m i) := Lib.hid (by rw [HM1.out, show k + 1 = i by have := HE.out; omega])
     clear hgk
     go_wp2_with fail
     go_end0
     exact ⟨rfl, _, by rw [← HQ.out]; exact HFK.out, HML.out.2, HML.out.1, HGK.out⟩
set_option maxRecDepth 100000 in
set_option maxHeartbeats 4000000 in
theorem sym_right (w0 : World) (g n c bt bw bs : Nat) (R : Int → Int → Prop) (ls : Int → Int → Bool) (O : So.Ord R) (HC0 : CmpOk w0 g n bt bw bs ls) (a m b : Nat) (ham : a < m) (hmb : m < b) (hbn : b ≤ n) (hn : n ≤ 1000) (cur : Nat → Int) (hrg : Rng n cur) (hT : So.Two R ls cur a m b) (w : World) (hg0 : w0.grownBy w (some g)) (hr : FRow w g n cur) (hm1 : ¬ m = a + 1) (hb1 : b = m + 1) : Calls Tryz.prog 126 #[.slice (some ⟨g, 0, none⟩) n c, .int .i64 a, .int .i64 m, .int .i64 b, firstF bt bw bs] w (SortRes R g n a b cur w) := by
 obtain ⟨d0, hd0⟩ : ∃ x, m - a = x := ⟨_, rfl⟩
 have qma : (m : Int) - (a : Int) = (d0 : Int) := by omega
 have wma : IntKind.i64.wrap (d0 : Int) = (d0 : Int) := IntWalk.i64_in _ (by omega)
 have nma : ((d0 : Int) == 1) = false := by rw [beq_eq_false_iff_ne]; omega
 have qbm : (b : Int) - (m : Int) = 1 := by omega
 have HR := Lib.hid hr
 have HCC := Lib.hid HC0
 have HO := Lib.hid O
 have HRG := Lib.hid hrg
 have HT := Lib.hid hT
 have HG0 := Lib.hid hg0
 have HB1 := Lib.hid hb1
 clear hr HC0 O hrg hT hg0 hd0 hb1 hm1
 go_enter Tryz.func126, Tryz.ntmps126
 go_wp2
 go_loopw [14, 15] (fun u10 u11 wr => ∃ i j : Nat, a ≤ i ∧ i ≤ j ∧ j ≤ m ∧ u10 = .int .i64 i ∧ u11 = .int .i64 j ∧ Hid (a < i → ls (cur m) (cur (i - 1)) = false) ∧ Hid (j < m → ls (cur m) (cur j) = true) ∧ Hid (FRow wr g n cur) ∧ w.grownBy wr (some g)) (fun u10 u11 _ => (intOf u11).toNat - (intOf u10).toNat)
 case atStart => exact ⟨a, m, Nat.le_refl _, by omega, Nat.le_refl _, rfl, rfl, fun h => absurd h (Nat.lt_irrefl _), fun h => absurd h (Nat.lt_irrefl _), HR.out, World.grownBy.refl _ _⟩
 case round =>
  obtain ⟨i, j, hmi, hij, hjb, rfl, rfl, HP1, HP2, HF, hg⟩ := hrel
  have HG := Lib.hid hg
  by_cases hlt : i < j
  ·
   have hij' : (i : Int) < (j : Int) := by omega
   obtain ⟨z, hz⟩ : ∃ z, i + j = z := ⟨_, rfl⟩
   obtain ⟨h, hh⟩ : ∃ h, z / 2 = h := ⟨_, rfl⟩
   have qz : (i : Int) + (j : Int) = (z : Int) := by omega
   have wz : IntKind.i64.wrap (z : Int) = (z : Int) := IntWalk.i64_in _ (by omega)
   have uz : IntKind.u64.wrap (z : Int) = (z : Int) := by rw [IntKind.wrap_u64]; omega
   have uh : IntKind.u64.wrap (h : Int) = (h : Int) := by rw [IntKind.wrap_u64]; omega
   have wh : IntKind.i64.wrap (h : Int) = (h : Int) := IntWalk.i64_in _ (by omega)
   have qh : (z : Int) / 2 = (h : Int) := by omega
   have hh1 : i ≤ h ∧ h < j := by omega
   obtain ⟨h', hh'⟩ : ∃ x, h + 1 = x := ⟨_, rfl⟩
   have qh' : (h : Int) + 1 = (h' : Int) := by omega
   have wh' : IntKind.i64.wrap (h' : Int) = (h' : Int) := IntWalk.i64_in _ (by omega)
   have x0 : (0 : Int) ≤ (h : Int) := by omega
   have x1 : (h : Int) < (n : Int) := by omega
   have x2 : (0 : Int) ≤ (m : Int) := by omega
   have x3 : (m : Int) < (n : Int) := by omega
   have C1 := Lib.hid (HF.out.cell (m) (by omega))
   have C2 := Lib.hid (HF.out.cell (h) (by omega))
   have hr1 := HRG.out (m) (by omega)
   have hr2 := HRG.out (h) (by omega)
   have HCM := Lib.hid (fun (W : World) (hW : Below wr.heap.size wr W) => HCC.out W ((HG0.out.trans HG.out).trans (grownBy_of_below hW).any) (cur (m)) (cur (h)) hr1.1 hr1.2 hr2.1 hr2.2)
   have HGL := Lib.hid HF.out.lt
   obtain ⟨vx, hx⟩ : ∃ v, cur (m) = v := ⟨_, rfl⟩
   obtain ⟨vy, hy⟩ : ∃ v, cur (h) = v := ⟨_, rfl⟩
   obtain ⟨q, hq⟩ : ∃ q, ls vx vy = q := ⟨_, rfl⟩
   rw [hx] at C1 HCM
   rw [hy] at C2 HCM
   rw [hq] at HCM
   have HXY := Lib.hid (And.intro hx (And.intro hy hq))
   clear hr1 hr2 hx hy hq
   have HHJ := Lib.hid (And.intro hh1 hh')
   clear hg hz hh hh1 hh'
   cases q with
   | false =>
    go_wp2_with fail
    have hv0 : Below wr.heap.size wr wr.drew := (Below.refl _ _).drew
    refine wp_region_held_drew (S := fun W => Below wr.heap.size wr W) (by kernel_rfl) (hv0) (fun hHeld => ?_)
    refine tkH 0 oSrt411 ?v0_5001 (.inl ⟨by rfl, ?h0_5001⟩) ?r0_5001
    case h0_5001 =>
     intro W hSW
     unfold oSrt411
     try dsimp only at hSW
     go_simp
     try with_reducible rfl
    try simp only [oSrt411, PT]
    refine tkH 1 oSrt412 ?v1_5002 (.inl ⟨by rfl, ?h1_5002⟩) ?r1_5002
    case h1_5002 =>
     intro W hSW
     unfold oSrt412
     try dsimp only at hSW
     go_simp
     try with_reducible rfl
    try simp only [oSrt412, PT]
    refine tkH 2 oSrt413 ?v2_5003 (.inl ⟨by rfl, ?h2_5003⟩) ?r2_5003
    case h2_5003 =>
     intro W hSW
     unfold oSrt413
     try dsimp only at hSW
     go_simp
     try with_reducible rfl
    try simp only [oSrt413, PT]
    refine tkH 3 oSrt414 ?v3_5004 (.inl ⟨by rfl, ?h3_5004⟩) ?r3_5004
    case h3_5004 =>
     intro W hSW
     unfold oSrt414
     try dsimp only at hSW
     go_simp
     try with_reducible rfl
    try simp only [oSrt414, PT]
    refine tkH 4 oSrt415 ?v4_5005 (.inl ⟨by rfl, ?h4_5005⟩) ?r4_5005
    case h4_5005 =>
     intro W hSW
     unfold oSrt415
     try dsimp only at hSW
     have hc0 := (hSW.cell (p := ⟨g, m, none⟩) HGL.out).trans C1.out
     go_simp
     try with_reducible rfl
    try simp only [oSrt415, PT]
    refine tkH 5 oSrt416 ?v5_5006 (.inl ⟨by rfl, ?h5_5006⟩) ?r5_5006
    case h5_5006 =>
     intro W hSW
     unfold oSrt416
     try dsimp only at hSW
     go_simp
     try with_reducible rfl
    try simp only [oSrt416, PT]
    refine tkH 6 oSrt417 ?v6_5007 (.inl ⟨by rfl, ?h6_5007⟩) ?r6_5007
    case h6_5007 =>
     intro W hSW
     unfold oSrt417
     try dsimp only at hSW
     go_simp
     try with_reducible rfl
    try simp only [oSrt417, PT]
    refine tkH 7 oSrt418 ?v7_5008 (.inl ⟨by rfl, ?h7_5008⟩) ?r7_5008
    case h7_5008 =>
     intro W hSW
     unfold oSrt418
     try dsimp only at hSW
     go_simp
     try with_reducible rfl
    try simp only [oSrt418, PT]
    refine tkH 8 oSrt419 ?v8_5009 (.inl ⟨by rfl, ?h8_5009⟩) ?r8_5009
    case h8_5009 =>
     intro W hSW
     unfold oSrt419
     try dsimp only at hSW
     have hc0 := (hSW.cell (p := ⟨g, h, none⟩) HGL.out).trans C2.out
     go_simp
     try with_reducible rfl
    try simp only [oSrt419, PT]
    refine rdyH [9] ?_
    refine AllReadyH.cons (o := oSrt420) rfl (fun K hK => ?_) AllReadyH.nil
    unfold oSrt420
    go_simp
    refine (HCM.out _ hv0).mono ?_
    rintro e w1 ⟨cc, rfl, hcc2, b1⟩
    have hv1 : Below wr.heap.size wr w1 := hv0.trans (b1.mono hv0.size)
    go_wp2_with fail
    refine hK.out _ _ (hv1) (fun hHeld => ?_)
    clear hK K
    try simp only [PT]
    refine tkH 10 oSrt421 ?v10_5010 (.inl ⟨by rfl, ?h10_5010⟩) ?r10_5010
    case h10_5010 =>
     intro W hSW
     unfold oSrt421
     try dsimp only at hSW
     go_simp
     try with_reducible rfl
    try simp only [oSrt421, PT]
    refine tkH 11 oSrt422 ?v11_5011 (.inl ⟨by rfl, ?h11_5011⟩) ?r11_5011
    case h11_5011 =>
     intro W hSW
     unfold oSrt422
     try dsimp only at hSW
     go_simp
     try with_reducible rfl
    try simp only [oSrt422, PT]
    refine wpAnyH_done (by kernel_rfl) ?_ _
    have F5 := HF.out.below hv1
    have G5 := HG.out.trans (grownBy_of_below hv1).any
    clear hHeld
    go_wp2_with fail
    go_roundw
    case rel => exact ⟨h', j, by have := HHJ.out; omega, by have := HHJ.out; omega, hjb, by go_num, rfl, fun _ => by have := HHJ.out; rw [show h' - 1 = h by omega, HXY.out.1, HXY.out.2.1]; exact HXY.out.2.2, HP2.out, F5, G5⟩
    case measure => have := HHJ.out; simp [intOf]; omega
   | true =>
    go_wp2_with fail
    have hv0 : Below wr.heap.size wr wr.drew := (Below.refl _ _).drew
    refine wp_region_held_drew (S := fun W => Below wr.heap.size wr W) (by kernel_rfl) (hv0) (fun hHeld => ?_)
    refine tkH 0 oSrt411 ?v0_6001 (.inl ⟨by rfl, ?h0_6001⟩) ?r0_6001
    case h0_6001 =>
     intro W hSW
     unfold oSrt411
     try dsimp only at hSW
     go_simp
     try with_reducible rfl
    try simp only [oSrt411, PT]
    refine tkH 1 oSrt412 ?v1_6002 (.inl ⟨by rfl, ?h1_6002⟩) ?r1_6002
    case h1_6002 =>
     intro W hSW
     unfold oSrt412
     try dsimp only at hSW
     go_simp
     try with_reducible rfl
    try simp only [oSrt412, PT]
    refine tkH 2 oSrt413 ?v2_6003 (.inl ⟨by rfl, ?h2_6003⟩) ?r2_6003
    case h2_6003 =>
     intro W hSW
     unfold oSrt413
     try dsimp only at hSW
     go_simp
     try with_reducible rfl
    try simp only [oSrt413, PT]
    refine tkH 3 oSrt414 ?v3_6004 (.inl ⟨by rfl, ?h3_6004⟩) ?r3_6004
    case h3_6004 =>
     intro W hSW
     unfold oSrt414
     try dsimp only at hSW
     go_simp
     try with_reducible rfl
    try simp only [oSrt414, PT]
    refine tkH 4 oSrt415 ?v4_6005 (.inl ⟨by rfl, ?h4_6005⟩) ?r4_6005
    case h4_6005 =>
     intro W hSW
     unfold oSrt415
     try dsimp only at hSW
     have hc0 := (hSW.cell (p := ⟨g, m, none⟩) HGL.out).trans C1.out
     go_simp
     try with_reducible rfl
    try simp only [oSrt415, PT]
    refine tkH 5 oSrt416 ?v5_6006 (.inl ⟨by rfl, ?h5_6006⟩) ?r5_6006
    case h5_6006 =>
     intro W hSW
     unfold oSrt416
     try dsimp only at hSW
     go_simp
     try with_reducible rfl
    try simp only [oSrt416, PT]
    refine tkH 6 oSrt417 ?v6_6007 (.inl ⟨by rfl, ?h6_6007⟩) ?r6_6007
    case h6_6007 =>
     intro W hSW
     unfold oSrt417
     try dsimp only at hSW
     go_simp
     try with_reducible rfl
    try simp only [oSrt417, PT]
    refine tkH 7 oSrt418 ?v7_6008 (.inl ⟨by rfl, ?h7_6008⟩) ?r7_6008
    case h7_6008 =>
     intro W hSW
     unfold oSrt418
     try dsimp only at hSW
     go_simp
     try with_reducible rfl
    try simp only [oSrt418, PT]
    refine tkH 8 oSrt419 ?v8_6009 (.inl ⟨by rfl, ?h8_6009⟩) ?r8_6009
    case h8_6009 =>
     intro W hSW
     unfold oSrt419
     try dsimp only at hSW
     have hc0 := (hSW.cell (p := ⟨g, h, none⟩) HGL.out).trans C2.out
     go_simp
     try with_reducible rfl
    try simp only [oSrt419, PT]
    refine rdyH [9] ?_
    refine AllReadyH.cons (o := oSrt420) rfl (fun K hK => ?_) AllReadyH.nil
    unfold oSrt420
    go_simp
    refine (HCM.out _ hv0).mono ?_
    rintro e w1 ⟨cc, rfl, hcc2, b1⟩
    have hv1 : Below wr.heap.size wr w1 := hv0.trans (b1.mono hv0.size)
    go_wp2_with fail
    refine hK.out _ _ (hv1) (fun hHeld => ?_)
    clear hK K
    try simp only [PT]
    refine tkH 10 oSrt421 ?v10_6010 (.inl ⟨by rfl, ?h10_6010⟩) ?r10_6010
    case h10_6010 =>
     intro W hSW
     unfold oSrt421
     try dsimp only at hSW
     go_simp
     try with_reducible rfl
    try simp only [oSrt421, PT]
    refine tkH 11 oSrt422 ?v11_6011 (.inl ⟨by rfl, ?h11_6011⟩) ?r11_6011
    case h11_6011 =>
     intro W hSW
     unfold oSrt422
     try dsimp only at hSW
     go_simp
     try with_reducible rfl
    try simp only [oSrt422, PT]
    refine wpAnyH_done (by kernel_rfl) ?_ _
    have F5 := HF.out.below hv1
    have G5 := HG.out.trans (grownBy_of_below hv1).any
    clear hHeld
    go_wp2_with fail
    go_roundw
    case rel => exact ⟨i, h, hmi, by have := HHJ.out; omega, by have := HHJ.out; omega, rfl, rfl, HP1.out, fun _ => by rw [HXY.out.1, HXY.out.2.1]; exact HXY.out.2.2, F5, G5⟩
    case measure => have := HHJ.out; simp [intOf]; omega
  ·
   obtain rfl : i = j := by omega
   have HML := Lib.hid (So.merge_r HO.out HT.out HB1.out hmi hjb HP1.out HP2.out)
   clear hg
   go_wp2_with fail
   go_loopw [17] (fun u13 wy => ∃ (wx : World) (k : Nat), wx = wy ∧ i ≤ k ∧ k ≤ m ∧ u13 = .int .i64 k ∧ Hid (FRow wx g n (So.rot cur k m (m + 1))) ∧ w.grownBy wx (some g)) (fun u13 _ => (intOf u13).toNat)
   case atStart => exact ⟨_, m, rfl, hjb, Nat.le_refl _, rfl, by rw [So.rot_id']; exact HF.out, HG.out⟩
   case round =>
    obtain ⟨wx, k, rfl, hik, hkm, rfl, HFK, hgk⟩ := hrel
    have HGK := Lib.hid hgk
    by_cases hkl : i < k
    ·
     obtain ⟨k', hk'⟩ : ∃ x, k - 1 = x := ⟨_, rfl⟩
     have qk : (k : Int) - 1 = (k' : Int) := by omega
     have wk : IntKind.i64.wrap (k' : Int) = (k' : Int) := IntWalk.i64_in _ (by omega)
     have k1 : (i : Int) < (k : Int) := by omega
     have y0 : (0 : Int) ≤ (k : Int) := by omega
     have y1 : (k : Int) < (n : Int) := by omega
     have y2 : (0 : Int) ≤ (k' : Int) := by omega
     have y3 : (k' : Int) < (n : Int) := by omega
     have hkn : k < n := by omega
     have hkn' : k' < n := by omega
     have c1 := HFK.out.cell k hkn
     have c2 := HFK.out.cell k' hkn'
     have f1 := HFK.out.free k hkn
     have f2 := HFK.out.free k' hkn'
     have hne : k ≠ k' := by omega
     have HSW := Lib.hid (HFK.out.swap hkn hkn')
     have HKK := Lib.hid hk'
     clear hgk hk'
     go_wp2_with fail
     go_region
     all_goals go_wp2
     go_roundw
     case rel =>
      have hk' := HKK.out
      refine ⟨_, k', rfl, by omega, by omega, by go_num, ?_, ?_⟩
      ·
       refine FRow.congr (d := fun t => if t = k' then So.rot cur k m (m + 1) k else if t = k then So.rot cur k m (m + 1) k' else So.rot cur k m (m + 1) t) (by first | exact HSW.out.1 | exact HSW.out.1.drewN _) fun t _ => ?_
       obtain rfl : k = k' + 1 := by omega
       rw [So.rot_down cur (show k' + 1 ≤ m by omega) t]
       by_cases e1 : t = k'
       ·
        rw [if_neg (by omega), if_pos e1, if_pos e1]
       ·
        rw [if_neg e1, if_neg e1]
      ·
       exact HGK.out.trans (by first | exact HSW.out.2 | exact grown_drewN HSW.out.2 _)
     case measure => have := HKK.out; simp [intOf]; omega
    ·
     obtain rfl : i = k := by omega
     have HQ : Hid (So.rot cur i m (m + 1) = So.rot cur i m b) := Lib.hid (by rw [HB1.out])
     clear hgk
     go_wp2_with fail
     go_end0
     exact ⟨rfl, _, by rw [← HQ.out]; exact HFK.out, HML.out.2, HML.out.1, HGK.out⟩
end Go.Proofs.YtfllkaeaanahmaaGreat.W
