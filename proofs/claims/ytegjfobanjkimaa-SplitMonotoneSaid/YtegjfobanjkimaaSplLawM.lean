/- The law SplitMonotone: it returns true. Conditions: none beyond what each argument's type says. -/
import Derived.Test.YtegjfobanjkimaaSplF
namespace Go.Proofs.Ytegjfobanjkimaa
set_option linter.unusedVariables false
set_option linter.unusedSimpArgs false
open Go.RowKit
set_option maxRecDepth 100000 in
set_option maxHeartbeats 4000000 in
theorem lawMono (T : Int) (l_T : -9223372036854775808 ≤ T) (u_T : T ≤ 9223372036854775807) (A : Option Addr) (n c : Nat) (ws : List Int) (hl : ws.length = n) (nc : n ≤ c) (cc : c ≤ 140737488355328) (xr : ∀ x ∈ ws, -9223372036854775808 ≤ x ∧ x ≤ 9223372036854775807) (x : Int) (l_x : -9223372036854775808 ≤ x) (u_x : x ≤ 9223372036854775807) (y : Int) (l_y : -9223372036854775808 ≤ y) (u_y : y ≤ 9223372036854775807) (w : World) (rd : Rd w w.heap.size 1 A n (ivs ws)) :
    Calls Try.prog 6 #[.int .i64 T, .slice A n c, .int .i64 x, .int .i64 y] w fun e w' => e = .returned (.bool true) ∧ Below w.heap.size w w' := by
  clear xr
  by_cases h3 : n ≤ 300
  case neg =>
    have h31 : (300 : Int) < (n : Int) := by omega
    clear rd hl
    go_enter Try.func6, Try.ntmps6
    go_wp2_with (go_at_call 8; refine (sanity_any _).mono ?_; rintro e ws_ ⟨rfl, bs_⟩)
    go_ret
    exact ⟨rfl, bs_⟩
  case pos =>
  have h31 : (n : Int) ≤ 300 := by omega
  by_cases hx0 : x < 0
  case pos =>
    skip
    clear rd hl
    go_enter Try.func6, Try.ntmps6
    go_wp2_with (go_at_call 8; refine (sanity_any _).mono ?_; rintro e ws_ ⟨rfl, bs_⟩)
    go_ret
    exact ⟨rfl, bs_⟩
  case neg =>
  by_cases hy0 : y < 0
  case pos =>
    skip
    clear rd hl
    go_enter Try.func6, Try.ntmps6
    go_wp2_with (go_at_call 8; refine (sanity_any _).mono ?_; rintro e ws_ ⟨rfl, bs_⟩)
    go_ret
    exact ⟨rfl, bs_⟩
  case neg =>
  by_cases hxn : (n : Int) ≤ x
  case pos =>
    skip
    clear rd hl
    go_enter Try.func6, Try.ntmps6
    go_wp2_with (go_at_call 8; refine (sanity_any _).mono ?_; rintro e ws_ ⟨rfl, bs_⟩)
    go_ret
    exact ⟨rfl, bs_⟩
  case neg =>
  by_cases hyn : (n : Int) ≤ y
  case pos =>
    skip
    clear rd hl
    go_enter Try.func6, Try.ntmps6
    go_wp2_with (go_at_call 8; refine (sanity_any _).mono ?_; rintro e ws_ ⟨rfl, bs_⟩)
    go_ret
    exact ⟨rfl, bs_⟩
  case neg =>
  obtain ⟨i, rfl⟩ : ∃ i : Nat, x = i := ⟨x.toNat, by omega⟩
  obtain ⟨j, rfl⟩ : ∃ j : Nat, y = j := ⟨y.toNat, by omega⟩
  by_cases hv : 0 ≤ T ∧ T ≤ 2147483647 ∧ OkTo ws n ∧ Spl.sumTo (wOf ws) n ≠ 0
  case neg =>
    have HW := Lib.hid (weighted_bad T A n c ws hl (by omega) w.heap.size w rd (Nat.le_refl _) (not_val hv))
    clear rd hl hv
    go_enter Try.func6, Try.ntmps6
    go_wp2_with (first
      | (go_at_call 11; refine HW.out.mono ?_; rintro e w1 ⟨rfl, b1⟩)
      | (go_at_call 8; refine (sanity_any _).mono ?_; rintro e ws_ ⟨rfl, bs_⟩))
    go_ret
    exact ⟨rfl, b1.trans (bs_.mono b1.size)⟩
  case pos =>
  have HW := Lib.hid (weighted_ok T A n c ws hl (by omega) w.heap.size w rd (Nat.le_refl _) hv.1 hv.2.1 hv.2.2.1 hv.2.2.2)
  have hin : i < n := by omega
  have hjn : j < n := by omega
  obtain ⟨b, off, rfl, hb, hc⟩ := rd.int hl (by omega)
  have CI := Lib.hid (hc i hin)
  have CJ := Lib.hid (hc j hjn)
  have HBB := Lib.hid hb
  have HV := Lib.hid hv
  have HL := Lib.hid hl
  have HIJ := Lib.hid (And.intro hin hjn)
  clear rd hl hv hc hb hin hjn
  go_enter Try.func6, Try.ntmps6
  go_upto_region 4 with (go_at_call 11; refine HW.out.mono ?_; rintro e w1 ⟨g, c', p, k, rfl, hc', F1, O, hk, hkn, hg, b1⟩)
  have HB := Lib.hid b1
  have CI1 := Lib.hid ((b1.cell (p := ⟨b, off + i, none⟩) HBB.out).trans CI.out)
  have CJ1 := Lib.hid ((b1.cell (p := ⟨b, off + j, none⟩) HBB.out).trans CJ.out)
  have HB1 := Lib.hid (Nat.lt_of_lt_of_le HBB.out b1.size)
  have HG1 := Lib.hid F1.lt
  have e1 := sh_eq O hkn HIJ.out.1
  have e2 := sh_eq O hkn HIJ.out.2
  have r1 := sh_range HL.out HV.out O hkn HIJ.out.1
  have r2 := sh_range HL.out HV.out O hkn HIJ.out.2
  have hmo := fun (h : ws.getD j 0 < ws.getD i 0) => Spl.mono (T := T) (W := Spl.sumTo (wOf ws) n) (w := wOf ws) (val_pos HV.out).1 HV.out.1 rfl O hk hkn HIJ.out.1 (j := j) h
  have hal := fun (h : ws.getD i 0 = ws.getD j 0) (hlt : i < j) => Spl.alike (T := T) (W := Spl.sumTo (wOf ws) n) (w := wOf ws) O hkn HIJ.out.1 (j := j) h hlt
  unfold wOf at hmo hal e1 e2
  rw [← e1, ← e2] at hmo hal
  have DI := Lib.hid (show w1.cell? ⟨g, i, none⟩ = some (.int .i64 (shOf T ws n p k i)) from F1.cell i HIJ.out.1)
  have DJ := Lib.hid (show w1.cell? ⟨g, j, none⟩ = some (.int .i64 (shOf T ws n p k j)) from F1.cell j HIJ.out.2)
  obtain ⟨av, ha⟩ : ∃ v, shOf T ws n p k i = v := ⟨_, rfl⟩
  obtain ⟨bv, hb'⟩ : ∃ v, shOf T ws n p k j = v := ⟨_, rfl⟩
  obtain ⟨wi, hwi⟩ : ∃ v, ws.getD i 0 = v := ⟨_, rfl⟩
  obtain ⟨wj, hwj⟩ : ∃ v, ws.getD j 0 = v := ⟨_, rfl⟩
  rw [ha] at DI r1 hmo hal
  rw [hb'] at DJ r2 hmo hal
  rw [hwi] at CI1 hmo hal
  rw [hwj] at CJ1 hmo hal
  have i0 : (0 : Int) ≤ (i : Int) := by omega
  have j0 : (0 : Int) ≤ (j : Int) := by omega
  have i1 : (i : Int) < (n : Int) := by omega
  have j1 : (j : Int) < (n : Int) := by omega
  have i2 : (i : Int) < (c' : Int) := by omega
  have j2 : (j : Int) < (c' : Int) := by omega
  have m1 : IntKind.i64.wrap (bv + 1) = bv + 1 := IntWalk.i64_in _ (by have := HV.out.2.1; omega)
  have HMO := Lib.hid hmo
  have HAL := Lib.hid hal
  clear ha hb' hwi hwj e1 e2 r1 r2 hmo hal O hk hkn F1 b1 hg
  go_wp2_with fail
  by_cases hgt : wj < wi
  · have hge := HMO.out hgt
    have hge' : ¬ (av < bv) := by omega
    have hv0 : Below w1.heap.size w1 w1.drew := (Below.refl _ _).drew
    refine wp_region_held_drew (S := fun W => Below w1.heap.size w1 W) (by kernel_rfl) (hv0) (fun hHeld => ?_)
    refine wpAnyH_take (i := 0) (oi := { dst := some 49, op := Op.move (Operand.tmp 1), type := 22, pos := "law.go:87", after := #[], guard := none }) (v := ?v0_1001) rfl (by kernel_rfl) (by kernel_rfl) (by kernel_rfl) (fun _ _ _ h => h) (Or.inl ⟨by rfl, ?h0_1001⟩) (by assumption) ?r0_1001
    case h0_1001 =>
      intro W hSW
      try dsimp only at hSW
      go_simp
      try with_reducible rfl
    try simp only [Act.put, List.setIfInBounds_toArray, List.set_cons_zero, List.set_cons_succ]
    refine wpAnyH_take (i := 1) (oi := { dst := some 50, op := Op.move (Operand.tmp 2), type := 3, pos := "law.go:87", after := #[], guard := none }) (v := ?v1_1002) rfl (by kernel_rfl) (by kernel_rfl) (by kernel_rfl) (fun _ _ _ h => h) (Or.inl ⟨by rfl, ?h1_1002⟩) (by assumption) ?r1_1002
    case h1_1002 =>
      intro W hSW
      try dsimp only at hSW
      go_simp
      try with_reducible rfl
    try simp only [Act.put, List.setIfInBounds_toArray, List.set_cons_zero, List.set_cons_succ]
    refine wpAnyH_take (i := 2) (oi := { dst := some 51, op := Op.indexAddr 22 (Operand.tmp 49) (Operand.tmp 50), type := 0, pos := "law.go:87", after := #[{ on := 0, ground := Ground.data }, { on := 1, ground := Ground.data }], guard := none }) (v := ?v2_1003) rfl (by kernel_rfl) (by kernel_rfl) (by kernel_rfl) (fun _ _ _ h => h) (Or.inl ⟨by rfl, ?h2_1003⟩) (by assumption) ?r2_1003
    case h2_1003 =>
      intro W hSW
      try dsimp only at hSW
      go_simp
      try with_reducible rfl
    try simp only [Act.put, List.setIfInBounds_toArray, List.set_cons_zero, List.set_cons_succ]
    refine wpAnyH_take (i := 3) (oi := { dst := some 52, op := Op.load 3 (Operand.tmp 51), type := 3, pos := "law.go:87", after := #[{ on := 2, ground := Ground.data }], guard := none }) (v := ?v3_1004) rfl (by kernel_rfl) (by kernel_rfl) (by kernel_rfl) (fun _ _ _ h => h) (Or.inl ⟨by rfl, ?h3_1004⟩) (by assumption) ?r3_1004
    case h3_1004 =>
      intro W hSW
      try dsimp only at hSW
      have hcc := (hSW.cell (p := ⟨b, off + i, none⟩) HB1.out).trans CI1.out
      go_simp
      try with_reducible rfl
    try simp only [Act.put, List.setIfInBounds_toArray, List.set_cons_zero, List.set_cons_succ]
    refine wpAnyH_take (i := 4) (oi := { dst := some 53, op := Op.move (Operand.tmp 1), type := 22, pos := "law.go:87", after := #[], guard := none }) (v := ?v4_1005) rfl (by kernel_rfl) (by kernel_rfl) (by kernel_rfl) (fun _ _ _ h => h) (Or.inl ⟨by rfl, ?h4_1005⟩) (by assumption) ?r4_1005
    case h4_1005 =>
      intro W hSW
      try dsimp only at hSW
      go_simp
      try with_reducible rfl
    try simp only [Act.put, List.setIfInBounds_toArray, List.set_cons_zero, List.set_cons_succ]
    refine wpAnyH_take (i := 5) (oi := { dst := some 54, op := Op.move (Operand.tmp 3), type := 3, pos := "law.go:87", after := #[], guard := none }) (v := ?v5_1006) rfl (by kernel_rfl) (by kernel_rfl) (by kernel_rfl) (fun _ _ _ h => h) (Or.inl ⟨by rfl, ?h5_1006⟩) (by assumption) ?r5_1006
    case h5_1006 =>
      intro W hSW
      try dsimp only at hSW
      go_simp
      try with_reducible rfl
    try simp only [Act.put, List.setIfInBounds_toArray, List.set_cons_zero, List.set_cons_succ]
    refine wpAnyH_take (i := 6) (oi := { dst := some 55, op := Op.indexAddr 22 (Operand.tmp 53) (Operand.tmp 54), type := 0, pos := "law.go:87", after := #[{ on := 4, ground := Ground.data }, { on := 5, ground := Ground.data }], guard := none }) (v := ?v6_1007) rfl (by kernel_rfl) (by kernel_rfl) (by kernel_rfl) (fun _ _ _ h => h) (Or.inl ⟨by rfl, ?h6_1007⟩) (by assumption) ?r6_1007
    case h6_1007 =>
      intro W hSW
      try dsimp only at hSW
      go_simp
      try with_reducible rfl
    try simp only [Act.put, List.setIfInBounds_toArray, List.set_cons_zero, List.set_cons_succ]
    refine wpAnyH_take (i := 7) (oi := { dst := some 56, op := Op.load 3 (Operand.tmp 55), type := 3, pos := "law.go:87", after := #[{ on := 6, ground := Ground.data }], guard := none }) (v := ?v7_1008) rfl (by kernel_rfl) (by kernel_rfl) (by kernel_rfl) (fun _ _ _ h => h) (Or.inl ⟨by rfl, ?h7_1008⟩) (by assumption) ?r7_1008
    case h7_1008 =>
      intro W hSW
      try dsimp only at hSW
      have hcc := (hSW.cell (p := ⟨b, off + j, none⟩) HB1.out).trans CJ1.out
      go_simp
      try with_reducible rfl
    try simp only [Act.put, List.setIfInBounds_toArray, List.set_cons_zero, List.set_cons_succ]
    refine wpAnyH_take (i := 8) (oi := { dst := some 57, op := Op.binOp BinOp.gtr 3 (Operand.tmp 52) (Operand.tmp 56) 3, type := 4, pos := "law.go:87", after := #[{ on := 3, ground := Ground.data }, { on := 7, ground := Ground.data }], guard := none }) (v := ?v8_1009) rfl (by kernel_rfl) (by kernel_rfl) (by kernel_rfl) (fun _ _ _ h => h) (Or.inl ⟨by rfl, ?h8_1009⟩) (by assumption) ?r8_1009
    case h8_1009 =>
      intro W hSW
      try dsimp only at hSW
      go_simp
      try with_reducible rfl
    try simp only [Act.put, List.setIfInBounds_toArray, List.set_cons_zero, List.set_cons_succ]
    refine wpAnyH_done (by kernel_rfl) ?_ _
    have HB8 := Lib.hid hv0
    obtain ⟨w8, hw8⟩ : ∃ x, w1.drew = x := ⟨_, rfl⟩
    rw [hw8] at HB8 ⊢
    have CI1 := Lib.hid ((HB8.out.cell (p := ⟨b, off + i, none⟩) HB1.out).trans CI1.out)
    have CJ1 := Lib.hid ((HB8.out.cell (p := ⟨b, off + j, none⟩) HB1.out).trans CJ1.out)
    have DI := Lib.hid ((HB8.out.cell (p := ⟨g, i, none⟩) HG1.out).trans DI.out)
    have DJ := Lib.hid ((HB8.out.cell (p := ⟨g, j, none⟩) HG1.out).trans DJ.out)
    have HB1 := Lib.hid (Nat.lt_of_lt_of_le HB1.out HB8.out.size)
    have HG1 := Lib.hid (Nat.lt_of_lt_of_le HG1.out HB8.out.size)
    have HB := Lib.hid (HB.out.trans (HB8.out.mono HB.out.size))
    clear hw8 hHeld
    go_wp2_with fail
    have hv0 : Below w8.heap.size w8 w8.drew := (Below.refl _ _).drew
    refine wp_region_held_drew (S := fun W => Below w8.heap.size w8 W) (by kernel_rfl) (hv0) (fun hHeld => ?_)
    refine wpAnyH_ready (rs := [0]) (by kernel_rfl) (by simp) ?_
    refine AllReadyH.cons (o := { dst := some 58, op := Op.call { callee := Callee.value (Operand.func 8), args := #[], argTypes := #[] }, type := 4, pos := "law.go:88", after := #[], guard := none }) rfl (fun K hK => ?_) AllReadyH.nil
    go_simp
    refine (sanity_any _).mono ?_
    rintro e w40 ⟨rfl, b40⟩
    have hv40 : Below w8.heap.size w8 w40 := hv0.trans (b40.mono hv0.size)
    go_wp2_with fail
    refine hK.out _ _ (hv40) (fun hHeld => ?_)
    clear hK K
    try simp only [Act.put, List.setIfInBounds_toArray, List.set_cons_zero, List.set_cons_succ]
    refine wpAnyH_take (i := 1) (oi := { dst := some 59, op := Op.move (Operand.tmp 58), type := 4, pos := "law.go:88", after := #[{ on := 0, ground := Ground.data }, { on := 0, ground := Ground.chain }], guard := none }) (v := ?v1_2001) rfl (by kernel_rfl) (by kernel_rfl) (by kernel_rfl) (fun _ _ _ h => h) (Or.inl ⟨by rfl, ?h1_2001⟩) (by assumption) ?r1_2001
    case h1_2001 =>
      intro W hSW
      try dsimp only at hSW
      go_simp
      try with_reducible rfl
    try simp only [Act.put, List.setIfInBounds_toArray, List.set_cons_zero, List.set_cons_succ]
    refine wpAnyH_take (i := 2) (oi := { dst := some 60, op := Op.move (Operand.tmp 9), type := 22, pos := "law.go:88", after := #[{ on := 1, ground := Ground.guard }], guard := some (1, true) }) (v := ?v2_2002) rfl (by kernel_rfl) (by kernel_rfl) (by kernel_rfl) (fun _ _ _ h => h) (Or.inl ⟨by rfl, ?h2_2002⟩) (by assumption) ?r2_2002
    case h2_2002 =>
      intro W hSW
      try dsimp only at hSW
      go_simp
      try with_reducible rfl
    try simp only [Act.put, List.setIfInBounds_toArray, List.set_cons_zero, List.set_cons_succ]
    refine wpAnyH_take (i := 3) (oi := { dst := some 61, op := Op.move (Operand.tmp 2), type := 3, pos := "law.go:88", after := #[{ on := 1, ground := Ground.guard }], guard := some (1, true) }) (v := ?v3_2003) rfl (by kernel_rfl) (by kernel_rfl) (by kernel_rfl) (fun _ _ _ h => h) (Or.inl ⟨by rfl, ?h3_2003⟩) (by assumption) ?r3_2003
    case h3_2003 =>
      intro W hSW
      try dsimp only at hSW
      go_simp
      try with_reducible rfl
    try simp only [Act.put, List.setIfInBounds_toArray, List.set_cons_zero, List.set_cons_succ]
    refine wpAnyH_take (i := 4) (oi := { dst := some 62, op := Op.indexAddr 22 (Operand.tmp 60) (Operand.tmp 61), type := 0, pos := "law.go:88", after := #[{ on := 2, ground := Ground.data }, { on := 3, ground := Ground.data }, { on := 1, ground := Ground.guard }], guard := some (1, true) }) (v := ?v4_2004) rfl (by kernel_rfl) (by kernel_rfl) (by kernel_rfl) (fun _ _ _ h => h) (Or.inl ⟨by rfl, ?h4_2004⟩) (by assumption) ?r4_2004
    case h4_2004 =>
      intro W hSW
      try dsimp only at hSW
      go_simp
      try with_reducible rfl
    try simp only [Act.put, List.setIfInBounds_toArray, List.set_cons_zero, List.set_cons_succ]
    refine wpAnyH_take (i := 5) (oi := { dst := some 63, op := Op.load 3 (Operand.tmp 62), type := 3, pos := "law.go:88", after := #[{ on := 4, ground := Ground.data }, { on := 1, ground := Ground.guard }], guard := some (1, true) }) (v := ?v5_2005) rfl (by kernel_rfl) (by kernel_rfl) (by kernel_rfl) (fun _ _ _ h => h) (Or.inl ⟨by rfl, ?h5_2005⟩) (by assumption) ?r5_2005
    case h5_2005 =>
      intro W hSW
      try dsimp only at hSW
      have hcc := (hSW.cell (p := ⟨g, i, none⟩) HG1.out).trans DI.out
      go_simp
      try with_reducible rfl
    try simp only [Act.put, List.setIfInBounds_toArray, List.set_cons_zero, List.set_cons_succ]
    refine wpAnyH_take (i := 6) (oi := { dst := some 64, op := Op.move (Operand.tmp 9), type := 22, pos := "law.go:88", after := #[{ on := 1, ground := Ground.guard }], guard := some (1, true) }) (v := ?v6_2006) rfl (by kernel_rfl) (by kernel_rfl) (by kernel_rfl) (fun _ _ _ h => h) (Or.inl ⟨by rfl, ?h6_2006⟩) (by assumption) ?r6_2006
    case h6_2006 =>
      intro W hSW
      try dsimp only at hSW
      go_simp
      try with_reducible rfl
    try simp only [Act.put, List.setIfInBounds_toArray, List.set_cons_zero, List.set_cons_succ]
    refine wpAnyH_take (i := 7) (oi := { dst := some 65, op := Op.move (Operand.tmp 3), type := 3, pos := "law.go:88", after := #[{ on := 1, ground := Ground.guard }], guard := some (1, true) }) (v := ?v7_2007) rfl (by kernel_rfl) (by kernel_rfl) (by kernel_rfl) (fun _ _ _ h => h) (Or.inl ⟨by rfl, ?h7_2007⟩) (by assumption) ?r7_2007
    case h7_2007 =>
      intro W hSW
      try dsimp only at hSW
      go_simp
      try with_reducible rfl
    try simp only [Act.put, List.setIfInBounds_toArray, List.set_cons_zero, List.set_cons_succ]
    refine wpAnyH_take (i := 8) (oi := { dst := some 66, op := Op.indexAddr 22 (Operand.tmp 64) (Operand.tmp 65), type := 0, pos := "law.go:88", after := #[{ on := 6, ground := Ground.data }, { on := 7, ground := Ground.data }, { on := 1, ground := Ground.guard }], guard := some (1, true) }) (v := ?v8_2008) rfl (by kernel_rfl) (by kernel_rfl) (by kernel_rfl) (fun _ _ _ h => h) (Or.inl ⟨by rfl, ?h8_2008⟩) (by assumption) ?r8_2008
    case h8_2008 =>
      intro W hSW
      try dsimp only at hSW
      go_simp
      try with_reducible rfl
    try simp only [Act.put, List.setIfInBounds_toArray, List.set_cons_zero, List.set_cons_succ]
    refine wpAnyH_take (i := 9) (oi := { dst := some 67, op := Op.load 3 (Operand.tmp 66), type := 3, pos := "law.go:88", after := #[{ on := 8, ground := Ground.data }, { on := 1, ground := Ground.guard }], guard := some (1, true) }) (v := ?v9_2009) rfl (by kernel_rfl) (by kernel_rfl) (by kernel_rfl) (fun _ _ _ h => h) (Or.inl ⟨by rfl, ?h9_2009⟩) (by assumption) ?r9_2009
    case h9_2009 =>
      intro W hSW
      try dsimp only at hSW
      have hcc := (hSW.cell (p := ⟨g, j, none⟩) HG1.out).trans DJ.out
      go_simp
      try with_reducible rfl
    try simp only [Act.put, List.setIfInBounds_toArray, List.set_cons_zero, List.set_cons_succ]
    refine wpAnyH_take (i := 10) (oi := { dst := some 68, op := Op.binOp BinOp.geq 3 (Operand.tmp 63) (Operand.tmp 67) 3, type := 4, pos := "law.go:88", after := #[{ on := 5, ground := Ground.data }, { on := 9, ground := Ground.data }, { on := 1, ground := Ground.guard }], guard := some (1, true) }) (v := ?v10_2010) rfl (by kernel_rfl) (by kernel_rfl) (by kernel_rfl) (fun _ _ _ h => h) (Or.inl ⟨by rfl, ?h10_2010⟩) (by assumption) ?r10_2010
    case h10_2010 =>
      intro W hSW
      try dsimp only at hSW
      go_simp
      try with_reducible rfl
    try simp only [Act.put, List.setIfInBounds_toArray, List.set_cons_zero, List.set_cons_succ]
    refine wpAnyH_take (i := 11) (oi := { dst := some 69, op := Op.pick (Operand.tmp 59) (Operand.tmp 68) (Operand.const (Value.bool false)), type := 4, pos := "law.go:88", after := #[{ on := 1, ground := Ground.data }, { on := 10, ground := Ground.data }], guard := none }) (v := ?v11_2011) rfl (by kernel_rfl) (by kernel_rfl) (by kernel_rfl) (fun _ _ _ h => h) (Or.inl ⟨by rfl, ?h11_2011⟩) (by assumption) ?r11_2011
    case h11_2011 =>
      intro W hSW
      try dsimp only at hSW
      go_simp
      try with_reducible rfl
    try simp only [Act.put, List.setIfInBounds_toArray, List.set_cons_zero, List.set_cons_succ]
    refine wpAnyH_take (i := 12) (oi := { dst := some 8, op := Op.assign (Operand.tmp 69), type := 4, pos := "law.go:88", after := #[{ on := 11, ground := Ground.data }, { on := 1, ground := Ground.chain }, { on := 0, ground := Ground.phase }, { on := 1, ground := Ground.phase }, { on := 2, ground := Ground.phase }, { on := 3, ground := Ground.phase }, { on := 4, ground := Ground.phase }, { on := 5, ground := Ground.phase }, { on := 6, ground := Ground.phase }, { on := 7, ground := Ground.phase }, { on := 8, ground := Ground.phase }, { on := 9, ground := Ground.phase }, { on := 10, ground := Ground.phase }, { on := 11, ground := Ground.phase }], guard := none }) (v := ?v12_2012) rfl (by kernel_rfl) (by kernel_rfl) (by kernel_rfl) (fun _ _ _ h => h) (Or.inl ⟨by rfl, ?h12_2012⟩) (by assumption) ?r12_2012
    case h12_2012 =>
      intro W hSW
      try dsimp only at hSW
      go_simp
      try with_reducible rfl
    try simp only [Act.put, List.setIfInBounds_toArray, List.set_cons_zero, List.set_cons_succ]
    refine wpAnyH_done (by kernel_rfl) ?_ _
    go_wp2_with fail
    go_ret
    exact ⟨rfl, HB.out.trans (hv40.mono HB.out.size)⟩
  · by_cases heq : wi = wj ∧ i < j
    · obtain ⟨he, hlt⟩ := heq
      have hal := HAL.out he hlt
      subst he
      have hlt' : (i : Int) < (j : Int) := by omega
      by_cases hab : av = bv
      · subst hab
        have hv0 : Below w1.heap.size w1 w1.drew := (Below.refl _ _).drew
        refine wp_region_held_drew (S := fun W => Below w1.heap.size w1 W) (by kernel_rfl) (hv0) (fun hHeld => ?_)
        refine wpAnyH_take (i := 0) (oi := { dst := some 49, op := Op.move (Operand.tmp 1), type := 22, pos := "law.go:87", after := #[], guard := none }) (v := ?v0_3001) rfl (by kernel_rfl) (by kernel_rfl) (by kernel_rfl) (fun _ _ _ h => h) (Or.inl ⟨by rfl, ?h0_3001⟩) (by assumption) ?r0_3001
        case h0_3001 =>
          intro W hSW
          try dsimp only at hSW
          go_simp
          try with_reducible rfl
        try simp only [Act.put, List.setIfInBounds_toArray, List.set_cons_zero, List.set_cons_succ]
        refine wpAnyH_take (i := 1) (oi := { dst := some 50, op := Op.move (Operand.tmp 2), type := 3, pos := "law.go:87", after := #[], guard := none }) (v := ?v1_3002) rfl (by kernel_rfl) (by kernel_rfl) (by kernel_rfl) (fun _ _ _ h => h) (Or.inl ⟨by rfl, ?h1_3002⟩) (by assumption) ?r1_3002
        case h1_3002 =>
          intro W hSW
          try dsimp only at hSW
          go_simp
          try with_reducible rfl
        try simp only [Act.put, List.setIfInBounds_toArray, List.set_cons_zero, List.set_cons_succ]
        refine wpAnyH_take (i := 2) (oi := { dst := some 51, op := Op.indexAddr 22 (Operand.tmp 49) (Operand.tmp 50), type := 0, pos := "law.go:87", after := #[{ on := 0, ground := Ground.data }, { on := 1, ground := Ground.data }], guard := none }) (v := ?v2_3003) rfl (by kernel_rfl) (by kernel_rfl) (by kernel_rfl) (fun _ _ _ h => h) (Or.inl ⟨by rfl, ?h2_3003⟩) (by assumption) ?r2_3003
        case h2_3003 =>
          intro W hSW
          try dsimp only at hSW
          go_simp
          try with_reducible rfl
        try simp only [Act.put, List.setIfInBounds_toArray, List.set_cons_zero, List.set_cons_succ]
        refine wpAnyH_take (i := 3) (oi := { dst := some 52, op := Op.load 3 (Operand.tmp 51), type := 3, pos := "law.go:87", after := #[{ on := 2, ground := Ground.data }], guard := none }) (v := ?v3_3004) rfl (by kernel_rfl) (by kernel_rfl) (by kernel_rfl) (fun _ _ _ h => h) (Or.inl ⟨by rfl, ?h3_3004⟩) (by assumption) ?r3_3004
        case h3_3004 =>
          intro W hSW
          try dsimp only at hSW
          have hcc := (hSW.cell (p := ⟨b, off + i, none⟩) HB1.out).trans CI1.out
          go_simp
          try with_reducible rfl
        try simp only [Act.put, List.setIfInBounds_toArray, List.set_cons_zero, List.set_cons_succ]
        refine wpAnyH_take (i := 4) (oi := { dst := some 53, op := Op.move (Operand.tmp 1), type := 22, pos := "law.go:87", after := #[], guard := none }) (v := ?v4_3005) rfl (by kernel_rfl) (by kernel_rfl) (by kernel_rfl) (fun _ _ _ h => h) (Or.inl ⟨by rfl, ?h4_3005⟩) (by assumption) ?r4_3005
        case h4_3005 =>
          intro W hSW
          try dsimp only at hSW
          go_simp
          try with_reducible rfl
        try simp only [Act.put, List.setIfInBounds_toArray, List.set_cons_zero, List.set_cons_succ]
        refine wpAnyH_take (i := 5) (oi := { dst := some 54, op := Op.move (Operand.tmp 3), type := 3, pos := "law.go:87", after := #[], guard := none }) (v := ?v5_3006) rfl (by kernel_rfl) (by kernel_rfl) (by kernel_rfl) (fun _ _ _ h => h) (Or.inl ⟨by rfl, ?h5_3006⟩) (by assumption) ?r5_3006
        case h5_3006 =>
          intro W hSW
          try dsimp only at hSW
          go_simp
          try with_reducible rfl
        try simp only [Act.put, List.setIfInBounds_toArray, List.set_cons_zero, List.set_cons_succ]
        refine wpAnyH_take (i := 6) (oi := { dst := some 55, op := Op.indexAddr 22 (Operand.tmp 53) (Operand.tmp 54), type := 0, pos := "law.go:87", after := #[{ on := 4, ground := Ground.data }, { on := 5, ground := Ground.data }], guard := none }) (v := ?v6_3007) rfl (by kernel_rfl) (by kernel_rfl) (by kernel_rfl) (fun _ _ _ h => h) (Or.inl ⟨by rfl, ?h6_3007⟩) (by assumption) ?r6_3007
        case h6_3007 =>
          intro W hSW
          try dsimp only at hSW
          go_simp
          try with_reducible rfl
        try simp only [Act.put, List.setIfInBounds_toArray, List.set_cons_zero, List.set_cons_succ]
        refine wpAnyH_take (i := 7) (oi := { dst := some 56, op := Op.load 3 (Operand.tmp 55), type := 3, pos := "law.go:87", after := #[{ on := 6, ground := Ground.data }], guard := none }) (v := ?v7_3008) rfl (by kernel_rfl) (by kernel_rfl) (by kernel_rfl) (fun _ _ _ h => h) (Or.inl ⟨by rfl, ?h7_3008⟩) (by assumption) ?r7_3008
        case h7_3008 =>
          intro W hSW
          try dsimp only at hSW
          have hcc := (hSW.cell (p := ⟨b, off + j, none⟩) HB1.out).trans CJ1.out
          go_simp
          try with_reducible rfl
        try simp only [Act.put, List.setIfInBounds_toArray, List.set_cons_zero, List.set_cons_succ]
        refine wpAnyH_take (i := 8) (oi := { dst := some 57, op := Op.binOp BinOp.gtr 3 (Operand.tmp 52) (Operand.tmp 56) 3, type := 4, pos := "law.go:87", after := #[{ on := 3, ground := Ground.data }, { on := 7, ground := Ground.data }], guard := none }) (v := ?v8_3009) rfl (by kernel_rfl) (by kernel_rfl) (by kernel_rfl) (fun _ _ _ h => h) (Or.inl ⟨by rfl, ?h8_3009⟩) (by assumption) ?r8_3009
        case h8_3009 =>
          intro W hSW
          try dsimp only at hSW
          go_simp
          try with_reducible rfl
        try simp only [Act.put, List.setIfInBounds_toArray, List.set_cons_zero, List.set_cons_succ]
        refine wpAnyH_done (by kernel_rfl) ?_ _
        have HB8 := Lib.hid hv0
        obtain ⟨w8, hw8⟩ : ∃ x, w1.drew = x := ⟨_, rfl⟩
        rw [hw8] at HB8 ⊢
        have CI1 := Lib.hid ((HB8.out.cell (p := ⟨b, off + i, none⟩) HB1.out).trans CI1.out)
        have CJ1 := Lib.hid ((HB8.out.cell (p := ⟨b, off + j, none⟩) HB1.out).trans CJ1.out)
        have DI := Lib.hid ((HB8.out.cell (p := ⟨g, i, none⟩) HG1.out).trans DI.out)
        have DJ := Lib.hid ((HB8.out.cell (p := ⟨g, j, none⟩) HG1.out).trans DJ.out)
        have HB1 := Lib.hid (Nat.lt_of_lt_of_le HB1.out HB8.out.size)
        have HG1 := Lib.hid (Nat.lt_of_lt_of_le HG1.out HB8.out.size)
        have HB := Lib.hid (HB.out.trans (HB8.out.mono HB.out.size))
        clear hw8 hHeld
        go_wp2_with fail
        have hv0 : Below w8.heap.size w8 w8.drew := (Below.refl _ _).drew
        refine wp_region_held_drew (S := fun W => Below w8.heap.size w8 W) (by kernel_rfl) (hv0) (fun hHeld => ?_)
        refine wpAnyH_take (i := 0) (oi := { dst := some 70, op := Op.move (Operand.tmp 1), type := 22, pos := "law.go:90", after := #[], guard := none }) (v := ?v0_4001) rfl (by kernel_rfl) (by kernel_rfl) (by kernel_rfl) (fun _ _ _ h => h) (Or.inl ⟨by rfl, ?h0_4001⟩) (by assumption) ?r0_4001
        case h0_4001 =>
          intro W hSW
          try dsimp only at hSW
          go_simp
          try with_reducible rfl
        try simp only [Act.put, List.setIfInBounds_toArray, List.set_cons_zero, List.set_cons_succ]
        refine wpAnyH_take (i := 1) (oi := { dst := some 71, op := Op.move (Operand.tmp 2), type := 3, pos := "law.go:90", after := #[], guard := none }) (v := ?v1_4002) rfl (by kernel_rfl) (by kernel_rfl) (by kernel_rfl) (fun _ _ _ h => h) (Or.inl ⟨by rfl, ?h1_4002⟩) (by assumption) ?r1_4002
        case h1_4002 =>
          intro W hSW
          try dsimp only at hSW
          go_simp
          try with_reducible rfl
        try simp only [Act.put, List.setIfInBounds_toArray, List.set_cons_zero, List.set_cons_succ]
        refine wpAnyH_take (i := 2) (oi := { dst := some 72, op := Op.indexAddr 22 (Operand.tmp 70) (Operand.tmp 71), type := 0, pos := "law.go:90", after := #[{ on := 0, ground := Ground.data }, { on := 1, ground := Ground.data }], guard := none }) (v := ?v2_4003) rfl (by kernel_rfl) (by kernel_rfl) (by kernel_rfl) (fun _ _ _ h => h) (Or.inl ⟨by rfl, ?h2_4003⟩) (by assumption) ?r2_4003
        case h2_4003 =>
          intro W hSW
          try dsimp only at hSW
          go_simp
          try with_reducible rfl
        try simp only [Act.put, List.setIfInBounds_toArray, List.set_cons_zero, List.set_cons_succ]
        refine wpAnyH_take (i := 3) (oi := { dst := some 73, op := Op.load 3 (Operand.tmp 72), type := 3, pos := "law.go:90", after := #[{ on := 2, ground := Ground.data }], guard := none }) (v := ?v3_4004) rfl (by kernel_rfl) (by kernel_rfl) (by kernel_rfl) (fun _ _ _ h => h) (Or.inl ⟨by rfl, ?h3_4004⟩) (by assumption) ?r3_4004
        case h3_4004 =>
          intro W hSW
          try dsimp only at hSW
          have hcc := (hSW.cell (p := ⟨b, off + i, none⟩) HB1.out).trans CI1.out
          go_simp
          try with_reducible rfl
        try simp only [Act.put, List.setIfInBounds_toArray, List.set_cons_zero, List.set_cons_succ]
        refine wpAnyH_take (i := 4) (oi := { dst := some 74, op := Op.move (Operand.tmp 1), type := 22, pos := "law.go:90", after := #[], guard := none }) (v := ?v4_4005) rfl (by kernel_rfl) (by kernel_rfl) (by kernel_rfl) (fun _ _ _ h => h) (Or.inl ⟨by rfl, ?h4_4005⟩) (by assumption) ?r4_4005
        case h4_4005 =>
          intro W hSW
          try dsimp only at hSW
          go_simp
          try with_reducible rfl
        try simp only [Act.put, List.setIfInBounds_toArray, List.set_cons_zero, List.set_cons_succ]
        refine wpAnyH_take (i := 5) (oi := { dst := some 75, op := Op.move (Operand.tmp 3), type := 3, pos := "law.go:90", after := #[], guard := none }) (v := ?v5_4006) rfl (by kernel_rfl) (by kernel_rfl) (by kernel_rfl) (fun _ _ _ h => h) (Or.inl ⟨by rfl, ?h5_4006⟩) (by assumption) ?r5_4006
        case h5_4006 =>
          intro W hSW
          try dsimp only at hSW
          go_simp
          try with_reducible rfl
        try simp only [Act.put, List.setIfInBounds_toArray, List.set_cons_zero, List.set_cons_succ]
        refine wpAnyH_take (i := 6) (oi := { dst := some 76, op := Op.indexAddr 22 (Operand.tmp 74) (Operand.tmp 75), type := 0, pos := "law.go:90", after := #[{ on := 4, ground := Ground.data }, { on := 5, ground := Ground.data }], guard := none }) (v := ?v6_4007) rfl (by kernel_rfl) (by kernel_rfl) (by kernel_rfl) (fun _ _ _ h => h) (Or.inl ⟨by rfl, ?h6_4007⟩) (by assumption) ?r6_4007
        case h6_4007 =>
          intro W hSW
          try dsimp only at hSW
          go_simp
          try with_reducible rfl
        try simp only [Act.put, List.setIfInBounds_toArray, List.set_cons_zero, List.set_cons_succ]
        refine wpAnyH_take (i := 7) (oi := { dst := some 77, op := Op.load 3 (Operand.tmp 76), type := 3, pos := "law.go:90", after := #[{ on := 6, ground := Ground.data }], guard := none }) (v := ?v7_4008) rfl (by kernel_rfl) (by kernel_rfl) (by kernel_rfl) (fun _ _ _ h => h) (Or.inl ⟨by rfl, ?h7_4008⟩) (by assumption) ?r7_4008
        case h7_4008 =>
          intro W hSW
          try dsimp only at hSW
          have hcc := (hSW.cell (p := ⟨b, off + j, none⟩) HB1.out).trans CJ1.out
          go_simp
          try with_reducible rfl
        try simp only [Act.put, List.setIfInBounds_toArray, List.set_cons_zero, List.set_cons_succ]
        refine wpAnyH_take (i := 8) (oi := { dst := some 78, op := Op.binOp BinOp.eql 3 (Operand.tmp 73) (Operand.tmp 77) 3, type := 4, pos := "law.go:90", after := #[{ on := 3, ground := Ground.data }, { on := 7, ground := Ground.data }], guard := none }) (v := ?v8_4009) rfl (by kernel_rfl) (by kernel_rfl) (by kernel_rfl) (fun _ _ _ h => h) (Or.inl ⟨by rfl, ?h8_4009⟩) (by assumption) ?r8_4009
        case h8_4009 =>
          intro W hSW
          try dsimp only at hSW
          go_simp
          try with_reducible rfl
        try simp only [Act.put, List.setIfInBounds_toArray, List.set_cons_zero, List.set_cons_succ]
        refine wpAnyH_take (i := 9) (oi := { dst := some 79, op := Op.move (Operand.tmp 78), type := 4, pos := "law.go:90", after := #[{ on := 8, ground := Ground.data }], guard := none }) (v := ?v9_4010) rfl (by kernel_rfl) (by kernel_rfl) (by kernel_rfl) (fun _ _ _ h => h) (Or.inl ⟨by rfl, ?h9_4010⟩) (by assumption) ?r9_4010
        case h9_4010 =>
          intro W hSW
          try dsimp only at hSW
          go_simp
          try with_reducible rfl
        try simp only [Act.put, List.setIfInBounds_toArray, List.set_cons_zero, List.set_cons_succ]
        refine wpAnyH_take (i := 10) (oi := { dst := some 80, op := Op.move (Operand.tmp 2), type := 3, pos := "law.go:90", after := #[{ on := 9, ground := Ground.guard }], guard := some (9, true) }) (v := ?v10_4011) rfl (by kernel_rfl) (by kernel_rfl) (by kernel_rfl) (fun _ _ _ h => h) (Or.inl ⟨by rfl, ?h10_4011⟩) (by assumption) ?r10_4011
        case h10_4011 =>
          intro W hSW
          try dsimp only at hSW
          go_simp
          try with_reducible rfl
        try simp only [Act.put, List.setIfInBounds_toArray, List.set_cons_zero, List.set_cons_succ]
        refine wpAnyH_take (i := 11) (oi := { dst := some 81, op := Op.move (Operand.tmp 3), type := 3, pos := "law.go:90", after := #[{ on := 9, ground := Ground.guard }], guard := some (9, true) }) (v := ?v11_4012) rfl (by kernel_rfl) (by kernel_rfl) (by kernel_rfl) (fun _ _ _ h => h) (Or.inl ⟨by rfl, ?h11_4012⟩) (by assumption) ?r11_4012
        case h11_4012 =>
          intro W hSW
          try dsimp only at hSW
          go_simp
          try with_reducible rfl
        try simp only [Act.put, List.setIfInBounds_toArray, List.set_cons_zero, List.set_cons_succ]
        refine wpAnyH_take (i := 12) (oi := { dst := some 82, op := Op.binOp BinOp.lss 3 (Operand.tmp 80) (Operand.tmp 81) 3, type := 4, pos := "law.go:90", after := #[{ on := 10, ground := Ground.data }, { on := 11, ground := Ground.data }, { on := 9, ground := Ground.guard }], guard := some (9, true) }) (v := ?v12_4013) rfl (by kernel_rfl) (by kernel_rfl) (by kernel_rfl) (fun _ _ _ h => h) (Or.inl ⟨by rfl, ?h12_4013⟩) (by assumption) ?r12_4013
        case h12_4013 =>
          intro W hSW
          try dsimp only at hSW
          go_simp
          try with_reducible rfl
        try simp only [Act.put, List.setIfInBounds_toArray, List.set_cons_zero, List.set_cons_succ]
        refine wpAnyH_take (i := 13) (oi := { dst := some 83, op := Op.pick (Operand.tmp 79) (Operand.tmp 82) (Operand.const (Value.bool false)), type := 4, pos := "law.go:90", after := #[{ on := 9, ground := Ground.data }, { on := 12, ground := Ground.data }], guard := none }) (v := ?v13_4014) rfl (by kernel_rfl) (by kernel_rfl) (by kernel_rfl) (fun _ _ _ h => h) (Or.inl ⟨by rfl, ?h13_4014⟩) (by assumption) ?r13_4014
        case h13_4014 =>
          intro W hSW
          try dsimp only at hSW
          go_simp
          try with_reducible rfl
        try simp only [Act.put, List.setIfInBounds_toArray, List.set_cons_zero, List.set_cons_succ]
        refine wpAnyH_done (by kernel_rfl) ?_ _
        have HB10 := Lib.hid hv0
        obtain ⟨w10, hw10⟩ : ∃ x, w8.drew = x := ⟨_, rfl⟩
        rw [hw10] at HB10 ⊢
        have CI1 := Lib.hid ((HB10.out.cell (p := ⟨b, off + i, none⟩) HB1.out).trans CI1.out)
        have CJ1 := Lib.hid ((HB10.out.cell (p := ⟨b, off + j, none⟩) HB1.out).trans CJ1.out)
        have DI := Lib.hid ((HB10.out.cell (p := ⟨g, i, none⟩) HG1.out).trans DI.out)
        have DJ := Lib.hid ((HB10.out.cell (p := ⟨g, j, none⟩) HG1.out).trans DJ.out)
        have HB1 := Lib.hid (Nat.lt_of_lt_of_le HB1.out HB10.out.size)
        have HG1 := Lib.hid (Nat.lt_of_lt_of_le HG1.out HB10.out.size)
        have HB := Lib.hid (HB.out.trans (HB10.out.mono HB.out.size))
        clear hw10 hHeld
        go_wp2_with fail
        have hv0 : Below w10.heap.size w10 w10.drew := (Below.refl _ _).drew
        refine wp_region_held_drew (S := fun W => Below w10.heap.size w10 W) (by kernel_rfl) (hv0) (fun hHeld => ?_)
        refine wpAnyH_ready (rs := [0]) (by kernel_rfl) (by simp) ?_
        refine AllReadyH.cons (o := { dst := some 84, op := Op.call { callee := Callee.value (Operand.func 8), args := #[], argTypes := #[] }, type := 4, pos := "law.go:91", after := #[], guard := none }) rfl (fun K hK => ?_) AllReadyH.nil
        go_simp
        refine (sanity_any _).mono ?_
        rintro e w60 ⟨rfl, b60⟩
        have hv60 : Below w10.heap.size w10 w60 := hv0.trans (b60.mono hv0.size)
        go_wp2_with fail
        refine hK.out _ _ (hv60) (fun hHeld => ?_)
        clear hK K
        try simp only [Act.put, List.setIfInBounds_toArray, List.set_cons_zero, List.set_cons_succ]
        refine wpAnyH_take (i := 1) (oi := { dst := some 85, op := Op.move (Operand.tmp 84), type := 4, pos := "law.go:91", after := #[{ on := 0, ground := Ground.data }, { on := 0, ground := Ground.chain }], guard := none }) (v := ?v1_5001) rfl (by kernel_rfl) (by kernel_rfl) (by kernel_rfl) (fun _ _ _ h => h) (Or.inl ⟨by rfl, ?h1_5001⟩) (by assumption) ?r1_5001
        case h1_5001 =>
          intro W hSW
          try dsimp only at hSW
          go_simp
          try with_reducible rfl
        try simp only [Act.put, List.setIfInBounds_toArray, List.set_cons_zero, List.set_cons_succ]
        refine wpAnyH_take (i := 2) (oi := { dst := some 86, op := Op.move (Operand.tmp 9), type := 22, pos := "law.go:91", after := #[{ on := 1, ground := Ground.guard }], guard := some (1, true) }) (v := ?v2_5002) rfl (by kernel_rfl) (by kernel_rfl) (by kernel_rfl) (fun _ _ _ h => h) (Or.inl ⟨by rfl, ?h2_5002⟩) (by assumption) ?r2_5002
        case h2_5002 =>
          intro W hSW
          try dsimp only at hSW
          go_simp
          try with_reducible rfl
        try simp only [Act.put, List.setIfInBounds_toArray, List.set_cons_zero, List.set_cons_succ]
        refine wpAnyH_take (i := 3) (oi := { dst := some 87, op := Op.move (Operand.tmp 2), type := 3, pos := "law.go:91", after := #[{ on := 1, ground := Ground.guard }], guard := some (1, true) }) (v := ?v3_5003) rfl (by kernel_rfl) (by kernel_rfl) (by kernel_rfl) (fun _ _ _ h => h) (Or.inl ⟨by rfl, ?h3_5003⟩) (by assumption) ?r3_5003
        case h3_5003 =>
          intro W hSW
          try dsimp only at hSW
          go_simp
          try with_reducible rfl
        try simp only [Act.put, List.setIfInBounds_toArray, List.set_cons_zero, List.set_cons_succ]
        refine wpAnyH_take (i := 4) (oi := { dst := some 88, op := Op.indexAddr 22 (Operand.tmp 86) (Operand.tmp 87), type := 0, pos := "law.go:91", after := #[{ on := 2, ground := Ground.data }, { on := 3, ground := Ground.data }, { on := 1, ground := Ground.guard }], guard := some (1, true) }) (v := ?v4_5004) rfl (by kernel_rfl) (by kernel_rfl) (by kernel_rfl) (fun _ _ _ h => h) (Or.inl ⟨by rfl, ?h4_5004⟩) (by assumption) ?r4_5004
        case h4_5004 =>
          intro W hSW
          try dsimp only at hSW
          go_simp
          try with_reducible rfl
        try simp only [Act.put, List.setIfInBounds_toArray, List.set_cons_zero, List.set_cons_succ]
        refine wpAnyH_take (i := 5) (oi := { dst := some 89, op := Op.load 3 (Operand.tmp 88), type := 3, pos := "law.go:91", after := #[{ on := 4, ground := Ground.data }, { on := 1, ground := Ground.guard }], guard := some (1, true) }) (v := ?v5_5005) rfl (by kernel_rfl) (by kernel_rfl) (by kernel_rfl) (fun _ _ _ h => h) (Or.inl ⟨by rfl, ?h5_5005⟩) (by assumption) ?r5_5005
        case h5_5005 =>
          intro W hSW
          try dsimp only at hSW
          have hcc := (hSW.cell (p := ⟨g, i, none⟩) HG1.out).trans DI.out
          go_simp
          try with_reducible rfl
        try simp only [Act.put, List.setIfInBounds_toArray, List.set_cons_zero, List.set_cons_succ]
        refine wpAnyH_take (i := 6) (oi := { dst := some 90, op := Op.move (Operand.tmp 9), type := 22, pos := "law.go:91", after := #[{ on := 1, ground := Ground.guard }], guard := some (1, true) }) (v := ?v6_5006) rfl (by kernel_rfl) (by kernel_rfl) (by kernel_rfl) (fun _ _ _ h => h) (Or.inl ⟨by rfl, ?h6_5006⟩) (by assumption) ?r6_5006
        case h6_5006 =>
          intro W hSW
          try dsimp only at hSW
          go_simp
          try with_reducible rfl
        try simp only [Act.put, List.setIfInBounds_toArray, List.set_cons_zero, List.set_cons_succ]
        refine wpAnyH_take (i := 7) (oi := { dst := some 91, op := Op.move (Operand.tmp 3), type := 3, pos := "law.go:91", after := #[{ on := 1, ground := Ground.guard }], guard := some (1, true) }) (v := ?v7_5007) rfl (by kernel_rfl) (by kernel_rfl) (by kernel_rfl) (fun _ _ _ h => h) (Or.inl ⟨by rfl, ?h7_5007⟩) (by assumption) ?r7_5007
        case h7_5007 =>
          intro W hSW
          try dsimp only at hSW
          go_simp
          try with_reducible rfl
        try simp only [Act.put, List.setIfInBounds_toArray, List.set_cons_zero, List.set_cons_succ]
        refine wpAnyH_take (i := 8) (oi := { dst := some 92, op := Op.indexAddr 22 (Operand.tmp 90) (Operand.tmp 91), type := 0, pos := "law.go:91", after := #[{ on := 6, ground := Ground.data }, { on := 7, ground := Ground.data }, { on := 1, ground := Ground.guard }], guard := some (1, true) }) (v := ?v8_5008) rfl (by kernel_rfl) (by kernel_rfl) (by kernel_rfl) (fun _ _ _ h => h) (Or.inl ⟨by rfl, ?h8_5008⟩) (by assumption) ?r8_5008
        case h8_5008 =>
          intro W hSW
          try dsimp only at hSW
          go_simp
          try with_reducible rfl
        try simp only [Act.put, List.setIfInBounds_toArray, List.set_cons_zero, List.set_cons_succ]
        refine wpAnyH_take (i := 9) (oi := { dst := some 93, op := Op.load 3 (Operand.tmp 92), type := 3, pos := "law.go:91", after := #[{ on := 8, ground := Ground.data }, { on := 1, ground := Ground.guard }], guard := some (1, true) }) (v := ?v9_5009) rfl (by kernel_rfl) (by kernel_rfl) (by kernel_rfl) (fun _ _ _ h => h) (Or.inl ⟨by rfl, ?h9_5009⟩) (by assumption) ?r9_5009
        case h9_5009 =>
          intro W hSW
          try dsimp only at hSW
          have hcc := (hSW.cell (p := ⟨g, j, none⟩) HG1.out).trans DJ.out
          go_simp
          try with_reducible rfl
        try simp only [Act.put, List.setIfInBounds_toArray, List.set_cons_zero, List.set_cons_succ]
        refine wpAnyH_take (i := 10) (oi := { dst := some 94, op := Op.binOp BinOp.eql 3 (Operand.tmp 89) (Operand.tmp 93) 3, type := 4, pos := "law.go:91", after := #[{ on := 5, ground := Ground.data }, { on := 9, ground := Ground.data }, { on := 1, ground := Ground.guard }], guard := some (1, true) }) (v := ?v10_5010) rfl (by kernel_rfl) (by kernel_rfl) (by kernel_rfl) (fun _ _ _ h => h) (Or.inl ⟨by rfl, ?h10_5010⟩) (by assumption) ?r10_5010
        case h10_5010 =>
          intro W hSW
          try dsimp only at hSW
          go_simp
          try with_reducible rfl
        try simp only [Act.put, List.setIfInBounds_toArray, List.set_cons_zero, List.set_cons_succ]
        refine wpAnyH_take (i := 11) (oi := { dst := some 95, op := Op.move (Operand.tmp 94), type := 4, pos := "law.go:91", after := #[{ on := 10, ground := Ground.data }, { on := 1, ground := Ground.chain }, { on := 1, ground := Ground.guard }], guard := some (1, true) }) (v := ?v11_5011) rfl (by kernel_rfl) (by kernel_rfl) (by kernel_rfl) (fun _ _ _ h => h) (Or.inl ⟨by rfl, ?h11_5011⟩) (by assumption) ?r11_5011
        case h11_5011 =>
          intro W hSW
          try dsimp only at hSW
          go_simp
          try with_reducible rfl
        try simp only [Act.put, List.setIfInBounds_toArray, List.set_cons_zero, List.set_cons_succ]
        refine wpAnyH_take (i := 12) (oi := { dst := some 96, op := Op.move (Operand.tmp 9), type := 22, pos := "law.go:91", after := #[{ on := 11, ground := Ground.guard }], guard := some (11, false) }) (v := undef) rfl (by kernel_rfl) (by kernel_rfl) (by kernel_rfl) (fun _ _ _ h => h) (Or.inr ⟨by rfl, rfl⟩) (by assumption) ?_
        try simp only [Act.put, List.setIfInBounds_toArray, List.set_cons_zero, List.set_cons_succ]
        refine wpAnyH_take (i := 13) (oi := { dst := some 97, op := Op.move (Operand.tmp 2), type := 3, pos := "law.go:91", after := #[{ on := 11, ground := Ground.guard }], guard := some (11, false) }) (v := undef) rfl (by kernel_rfl) (by kernel_rfl) (by kernel_rfl) (fun _ _ _ h => h) (Or.inr ⟨by rfl, rfl⟩) (by assumption) ?_
        try simp only [Act.put, List.setIfInBounds_toArray, List.set_cons_zero, List.set_cons_succ]
        refine wpAnyH_take (i := 14) (oi := { dst := some 98, op := Op.indexAddr 22 (Operand.tmp 96) (Operand.tmp 97), type := 0, pos := "law.go:91", after := #[{ on := 12, ground := Ground.data }, { on := 13, ground := Ground.data }, { on := 11, ground := Ground.guard }], guard := some (11, false) }) (v := undef) rfl (by kernel_rfl) (by kernel_rfl) (by kernel_rfl) (fun _ _ _ h => h) (Or.inr ⟨by rfl, rfl⟩) (by assumption) ?_
        try simp only [Act.put, List.setIfInBounds_toArray, List.set_cons_zero, List.set_cons_succ]
        refine wpAnyH_take (i := 15) (oi := { dst := some 99, op := Op.load 3 (Operand.tmp 98), type := 3, pos := "law.go:91", after := #[{ on := 14, ground := Ground.data }, { on := 11, ground := Ground.guard }], guard := some (11, false) }) (v := undef) rfl (by kernel_rfl) (by kernel_rfl) (by kernel_rfl) (fun _ _ _ h => h) (Or.inr ⟨by rfl, rfl⟩) (by assumption) ?_
        try simp only [Act.put, List.setIfInBounds_toArray, List.set_cons_zero, List.set_cons_succ]
        refine wpAnyH_take (i := 16) (oi := { dst := some 100, op := Op.move (Operand.tmp 9), type := 22, pos := "law.go:91", after := #[{ on := 11, ground := Ground.guard }], guard := some (11, false) }) (v := undef) rfl (by kernel_rfl) (by kernel_rfl) (by kernel_rfl) (fun _ _ _ h => h) (Or.inr ⟨by rfl, rfl⟩) (by assumption) ?_
        try simp only [Act.put, List.setIfInBounds_toArray, List.set_cons_zero, List.set_cons_succ]
        refine wpAnyH_take (i := 17) (oi := { dst := some 101, op := Op.move (Operand.tmp 3), type := 3, pos := "law.go:91", after := #[{ on := 11, ground := Ground.guard }], guard := some (11, false) }) (v := undef) rfl (by kernel_rfl) (by kernel_rfl) (by kernel_rfl) (fun _ _ _ h => h) (Or.inr ⟨by rfl, rfl⟩) (by assumption) ?_
        try simp only [Act.put, List.setIfInBounds_toArray, List.set_cons_zero, List.set_cons_succ]
        refine wpAnyH_take (i := 18) (oi := { dst := some 102, op := Op.indexAddr 22 (Operand.tmp 100) (Operand.tmp 101), type := 0, pos := "law.go:91", after := #[{ on := 16, ground := Ground.data }, { on := 17, ground := Ground.data }, { on := 11, ground := Ground.guard }], guard := some (11, false) }) (v := undef) rfl (by kernel_rfl) (by kernel_rfl) (by kernel_rfl) (fun _ _ _ h => h) (Or.inr ⟨by rfl, rfl⟩) (by assumption) ?_
        try simp only [Act.put, List.setIfInBounds_toArray, List.set_cons_zero, List.set_cons_succ]
        refine wpAnyH_take (i := 19) (oi := { dst := some 103, op := Op.load 3 (Operand.tmp 102), type := 3, pos := "law.go:91", after := #[{ on := 18, ground := Ground.data }, { on := 11, ground := Ground.guard }], guard := some (11, false) }) (v := undef) rfl (by kernel_rfl) (by kernel_rfl) (by kernel_rfl) (fun _ _ _ h => h) (Or.inr ⟨by rfl, rfl⟩) (by assumption) ?_
        try simp only [Act.put, List.setIfInBounds_toArray, List.set_cons_zero, List.set_cons_succ]
        refine wpAnyH_take (i := 20) (oi := { dst := some 104, op := Op.binOp BinOp.add 3 (Operand.tmp 103) (Operand.const (Value.int IntKind.i64 1)) 3, type := 3, pos := "law.go:91", after := #[{ on := 19, ground := Ground.data }, { on := 11, ground := Ground.guard }], guard := some (11, false) }) (v := undef) rfl (by kernel_rfl) (by kernel_rfl) (by kernel_rfl) (fun _ _ _ h => h) (Or.inr ⟨by rfl, rfl⟩) (by assumption) ?_
        try simp only [Act.put, List.setIfInBounds_toArray, List.set_cons_zero, List.set_cons_succ]
        refine wpAnyH_take (i := 21) (oi := { dst := some 105, op := Op.binOp BinOp.eql 3 (Operand.tmp 99) (Operand.tmp 104) 3, type := 4, pos := "law.go:91", after := #[{ on := 15, ground := Ground.data }, { on := 20, ground := Ground.data }, { on := 11, ground := Ground.guard }], guard := some (11, false) }) (v := undef) rfl (by kernel_rfl) (by kernel_rfl) (by kernel_rfl) (fun _ _ _ h => h) (Or.inr ⟨by rfl, rfl⟩) (by assumption) ?_
        try simp only [Act.put, List.setIfInBounds_toArray, List.set_cons_zero, List.set_cons_succ]
        refine wpAnyH_take (i := 22) (oi := { dst := some 106, op := Op.pick (Operand.tmp 95) (Operand.const (Value.bool true)) (Operand.tmp 105), type := 4, pos := "law.go:91", after := #[{ on := 11, ground := Ground.data }, { on := 21, ground := Ground.data }, { on := 1, ground := Ground.guard }], guard := some (1, true) }) (v := ?v22_5022) rfl (by kernel_rfl) (by kernel_rfl) (by kernel_rfl) (fun _ _ _ h => h) (Or.inl ⟨by rfl, ?h22_5022⟩) (by assumption) ?r22_5022
        case h22_5022 =>
          intro W hSW
          try dsimp only at hSW
          go_simp
          try with_reducible rfl
        try simp only [Act.put, List.setIfInBounds_toArray, List.set_cons_zero, List.set_cons_succ]
        refine wpAnyH_take (i := 23) (oi := { dst := some 107, op := Op.pick (Operand.tmp 85) (Operand.tmp 106) (Operand.const (Value.bool false)), type := 4, pos := "law.go:91", after := #[{ on := 1, ground := Ground.data }, { on := 22, ground := Ground.data }], guard := none }) (v := ?v23_5023) rfl (by kernel_rfl) (by kernel_rfl) (by kernel_rfl) (fun _ _ _ h => h) (Or.inl ⟨by rfl, ?h23_5023⟩) (by assumption) ?r23_5023
        case h23_5023 =>
          intro W hSW
          try dsimp only at hSW
          go_simp
          try with_reducible rfl
        try simp only [Act.put, List.setIfInBounds_toArray, List.set_cons_zero, List.set_cons_succ]
        refine wpAnyH_take (i := 24) (oi := { dst := some 8, op := Op.assign (Operand.tmp 107), type := 4, pos := "law.go:91", after := #[{ on := 23, ground := Ground.data }, { on := 11, ground := Ground.chain }, { on := 0, ground := Ground.phase }, { on := 1, ground := Ground.phase }, { on := 2, ground := Ground.phase }, { on := 3, ground := Ground.phase }, { on := 4, ground := Ground.phase }, { on := 5, ground := Ground.phase }, { on := 6, ground := Ground.phase }, { on := 7, ground := Ground.phase }, { on := 8, ground := Ground.phase }, { on := 9, ground := Ground.phase }, { on := 10, ground := Ground.phase }, { on := 11, ground := Ground.phase }, { on := 12, ground := Ground.phase }, { on := 13, ground := Ground.phase }, { on := 14, ground := Ground.phase }, { on := 15, ground := Ground.phase }, { on := 16, ground := Ground.phase }, { on := 17, ground := Ground.phase }, { on := 18, ground := Ground.phase }, { on := 19, ground := Ground.phase }, { on := 20, ground := Ground.phase }, { on := 21, ground := Ground.phase }, { on := 22, ground := Ground.phase }, { on := 23, ground := Ground.phase }], guard := none }) (v := ?v24_5024) rfl (by kernel_rfl) (by kernel_rfl) (by kernel_rfl) (fun _ _ _ h => h) (Or.inl ⟨by rfl, ?h24_5024⟩) (by assumption) ?r24_5024
        case h24_5024 =>
          intro W hSW
          try dsimp only at hSW
          go_simp
          try with_reducible rfl
        try simp only [Act.put, List.setIfInBounds_toArray, List.set_cons_zero, List.set_cons_succ]
        refine wpAnyH_done (by kernel_rfl) ?_ _
        go_wp2_with fail
        go_ret
        exact ⟨rfl, HB.out.trans (hv60.mono HB.out.size)⟩
      · have hab1 : (av == bv) = false := by rw [beq_eq_false_iff_ne]; exact hab
        have hab2 : av = bv + 1 := by omega
        subst hab2
        have hv0 : Below w1.heap.size w1 w1.drew := (Below.refl _ _).drew
        refine wp_region_held_drew (S := fun W => Below w1.heap.size w1 W) (by kernel_rfl) (hv0) (fun hHeld => ?_)
        refine wpAnyH_take (i := 0) (oi := { dst := some 49, op := Op.move (Operand.tmp 1), type := 22, pos := "law.go:87", after := #[], guard := none }) (v := ?v0_6001) rfl (by kernel_rfl) (by kernel_rfl) (by kernel_rfl) (fun _ _ _ h => h) (Or.inl ⟨by rfl, ?h0_6001⟩) (by assumption) ?r0_6001
        case h0_6001 =>
          intro W hSW
          try dsimp only at hSW
          go_simp
          try with_reducible rfl
        try simp only [Act.put, List.setIfInBounds_toArray, List.set_cons_zero, List.set_cons_succ]
        refine wpAnyH_take (i := 1) (oi := { dst := some 50, op := Op.move (Operand.tmp 2), type := 3, pos := "law.go:87", after := #[], guard := none }) (v := ?v1_6002) rfl (by kernel_rfl) (by kernel_rfl) (by kernel_rfl) (fun _ _ _ h => h) (Or.inl ⟨by rfl, ?h1_6002⟩) (by assumption) ?r1_6002
        case h1_6002 =>
          intro W hSW
          try dsimp only at hSW
          go_simp
          try with_reducible rfl
        try simp only [Act.put, List.setIfInBounds_toArray, List.set_cons_zero, List.set_cons_succ]
        refine wpAnyH_take (i := 2) (oi := { dst := some 51, op := Op.indexAddr 22 (Operand.tmp 49) (Operand.tmp 50), type := 0, pos := "law.go:87", after := #[{ on := 0, ground := Ground.data }, { on := 1, ground := Ground.data }], guard := none }) (v := ?v2_6003) rfl (by kernel_rfl) (by kernel_rfl) (by kernel_rfl) (fun _ _ _ h => h) (Or.inl ⟨by rfl, ?h2_6003⟩) (by assumption) ?r2_6003
        case h2_6003 =>
          intro W hSW
          try dsimp only at hSW
          go_simp
          try with_reducible rfl
        try simp only [Act.put, List.setIfInBounds_toArray, List.set_cons_zero, List.set_cons_succ]
        refine wpAnyH_take (i := 3) (oi := { dst := some 52, op := Op.load 3 (Operand.tmp 51), type := 3, pos := "law.go:87", after := #[{ on := 2, ground := Ground.data }], guard := none }) (v := ?v3_6004) rfl (by kernel_rfl) (by kernel_rfl) (by kernel_rfl) (fun _ _ _ h => h) (Or.inl ⟨by rfl, ?h3_6004⟩) (by assumption) ?r3_6004
        case h3_6004 =>
          intro W hSW
          try dsimp only at hSW
          have hcc := (hSW.cell (p := ⟨b, off + i, none⟩) HB1.out).trans CI1.out
          go_simp
          try with_reducible rfl
        try simp only [Act.put, List.setIfInBounds_toArray, List.set_cons_zero, List.set_cons_succ]
        refine wpAnyH_take (i := 4) (oi := { dst := some 53, op := Op.move (Operand.tmp 1), type := 22, pos := "law.go:87", after := #[], guard := none }) (v := ?v4_6005) rfl (by kernel_rfl) (by kernel_rfl) (by kernel_rfl) (fun _ _ _ h => h) (Or.inl ⟨by rfl, ?h4_6005⟩) (by assumption) ?r4_6005
        case h4_6005 =>
          intro W hSW
          try dsimp only at hSW
          go_simp
          try with_reducible rfl
        try simp only [Act.put, List.setIfInBounds_toArray, List.set_cons_zero, List.set_cons_succ]
        refine wpAnyH_take (i := 5) (oi := { dst := some 54, op := Op.move (Operand.tmp 3), type := 3, pos := "law.go:87", after := #[], guard := none }) (v := ?v5_6006) rfl (by kernel_rfl) (by kernel_rfl) (by kernel_rfl) (fun _ _ _ h => h) (Or.inl ⟨by rfl, ?h5_6006⟩) (by assumption) ?r5_6006
        case h5_6006 =>
          intro W hSW
          try dsimp only at hSW
          go_simp
          try with_reducible rfl
        try simp only [Act.put, List.setIfInBounds_toArray, List.set_cons_zero, List.set_cons_succ]
        refine wpAnyH_take (i := 6) (oi := { dst := some 55, op := Op.indexAddr 22 (Operand.tmp 53) (Operand.tmp 54), type := 0, pos := "law.go:87", after := #[{ on := 4, ground := Ground.data }, { on := 5, ground := Ground.data }], guard := none }) (v := ?v6_6007) rfl (by kernel_rfl) (by kernel_rfl) (by kernel_rfl) (fun _ _ _ h => h) (Or.inl ⟨by rfl, ?h6_6007⟩) (by assumption) ?r6_6007
        case h6_6007 =>
          intro W hSW
          try dsimp only at hSW
          go_simp
          try with_reducible rfl
        try simp only [Act.put, List.setIfInBounds_toArray, List.set_cons_zero, List.set_cons_succ]
        refine wpAnyH_take (i := 7) (oi := { dst := some 56, op := Op.load 3 (Operand.tmp 55), type := 3, pos := "law.go:87", after := #[{ on := 6, ground := Ground.data }], guard := none }) (v := ?v7_6008) rfl (by kernel_rfl) (by kernel_rfl) (by kernel_rfl) (fun _ _ _ h => h) (Or.inl ⟨by rfl, ?h7_6008⟩) (by assumption) ?r7_6008
        case h7_6008 =>
          intro W hSW
          try dsimp only at hSW
          have hcc := (hSW.cell (p := ⟨b, off + j, none⟩) HB1.out).trans CJ1.out
          go_simp
          try with_reducible rfl
        try simp only [Act.put, List.setIfInBounds_toArray, List.set_cons_zero, List.set_cons_succ]
        refine wpAnyH_take (i := 8) (oi := { dst := some 57, op := Op.binOp BinOp.gtr 3 (Operand.tmp 52) (Operand.tmp 56) 3, type := 4, pos := "law.go:87", after := #[{ on := 3, ground := Ground.data }, { on := 7, ground := Ground.data }], guard := none }) (v := ?v8_6009) rfl (by kernel_rfl) (by kernel_rfl) (by kernel_rfl) (fun _ _ _ h => h) (Or.inl ⟨by rfl, ?h8_6009⟩) (by assumption) ?r8_6009
        case h8_6009 =>
          intro W hSW
          try dsimp only at hSW
          go_simp
          try with_reducible rfl
        try simp only [Act.put, List.setIfInBounds_toArray, List.set_cons_zero, List.set_cons_succ]
        refine wpAnyH_done (by kernel_rfl) ?_ _
        have HB8 := Lib.hid hv0
        obtain ⟨w8, hw8⟩ : ∃ x, w1.drew = x := ⟨_, rfl⟩
        rw [hw8] at HB8 ⊢
        have CI1 := Lib.hid ((HB8.out.cell (p := ⟨b, off + i, none⟩) HB1.out).trans CI1.out)
        have CJ1 := Lib.hid ((HB8.out.cell (p := ⟨b, off + j, none⟩) HB1.out).trans CJ1.out)
        have DI := Lib.hid ((HB8.out.cell (p := ⟨g, i, none⟩) HG1.out).trans DI.out)
        have DJ := Lib.hid ((HB8.out.cell (p := ⟨g, j, none⟩) HG1.out).trans DJ.out)
        have HB1 := Lib.hid (Nat.lt_of_lt_of_le HB1.out HB8.out.size)
        have HG1 := Lib.hid (Nat.lt_of_lt_of_le HG1.out HB8.out.size)
        have HB := Lib.hid (HB.out.trans (HB8.out.mono HB.out.size))
        clear hw8 hHeld
        go_wp2_with fail
        have hv0 : Below w8.heap.size w8 w8.drew := (Below.refl _ _).drew
        refine wp_region_held_drew (S := fun W => Below w8.heap.size w8 W) (by kernel_rfl) (hv0) (fun hHeld => ?_)
        refine wpAnyH_take (i := 0) (oi := { dst := some 70, op := Op.move (Operand.tmp 1), type := 22, pos := "law.go:90", after := #[], guard := none }) (v := ?v0_7001) rfl (by kernel_rfl) (by kernel_rfl) (by kernel_rfl) (fun _ _ _ h => h) (Or.inl ⟨by rfl, ?h0_7001⟩) (by assumption) ?r0_7001
        case h0_7001 =>
          intro W hSW
          try dsimp only at hSW
          go_simp
          try with_reducible rfl
        try simp only [Act.put, List.setIfInBounds_toArray, List.set_cons_zero, List.set_cons_succ]
        refine wpAnyH_take (i := 1) (oi := { dst := some 71, op := Op.move (Operand.tmp 2), type := 3, pos := "law.go:90", after := #[], guard := none }) (v := ?v1_7002) rfl (by kernel_rfl) (by kernel_rfl) (by kernel_rfl) (fun _ _ _ h => h) (Or.inl ⟨by rfl, ?h1_7002⟩) (by assumption) ?r1_7002
        case h1_7002 =>
          intro W hSW
          try dsimp only at hSW
          go_simp
          try with_reducible rfl
        try simp only [Act.put, List.setIfInBounds_toArray, List.set_cons_zero, List.set_cons_succ]
        refine wpAnyH_take (i := 2) (oi := { dst := some 72, op := Op.indexAddr 22 (Operand.tmp 70) (Operand.tmp 71), type := 0, pos := "law.go:90", after := #[{ on := 0, ground := Ground.data }, { on := 1, ground := Ground.data }], guard := none }) (v := ?v2_7003) rfl (by kernel_rfl) (by kernel_rfl) (by kernel_rfl) (fun _ _ _ h => h) (Or.inl ⟨by rfl, ?h2_7003⟩) (by assumption) ?r2_7003
        case h2_7003 =>
          intro W hSW
          try dsimp only at hSW
          go_simp
          try with_reducible rfl
        try simp only [Act.put, List.setIfInBounds_toArray, List.set_cons_zero, List.set_cons_succ]
        refine wpAnyH_take (i := 3) (oi := { dst := some 73, op := Op.load 3 (Operand.tmp 72), type := 3, pos := "law.go:90", after := #[{ on := 2, ground := Ground.data }], guard := none }) (v := ?v3_7004) rfl (by kernel_rfl) (by kernel_rfl) (by kernel_rfl) (fun _ _ _ h => h) (Or.inl ⟨by rfl, ?h3_7004⟩) (by assumption) ?r3_7004
        case h3_7004 =>
          intro W hSW
          try dsimp only at hSW
          have hcc := (hSW.cell (p := ⟨b, off + i, none⟩) HB1.out).trans CI1.out
          go_simp
          try with_reducible rfl
        try simp only [Act.put, List.setIfInBounds_toArray, List.set_cons_zero, List.set_cons_succ]
        refine wpAnyH_take (i := 4) (oi := { dst := some 74, op := Op.move (Operand.tmp 1), type := 22, pos := "law.go:90", after := #[], guard := none }) (v := ?v4_7005) rfl (by kernel_rfl) (by kernel_rfl) (by kernel_rfl) (fun _ _ _ h => h) (Or.inl ⟨by rfl, ?h4_7005⟩) (by assumption) ?r4_7005
        case h4_7005 =>
          intro W hSW
          try dsimp only at hSW
          go_simp
          try with_reducible rfl
        try simp only [Act.put, List.setIfInBounds_toArray, List.set_cons_zero, List.set_cons_succ]
        refine wpAnyH_take (i := 5) (oi := { dst := some 75, op := Op.move (Operand.tmp 3), type := 3, pos := "law.go:90", after := #[], guard := none }) (v := ?v5_7006) rfl (by kernel_rfl) (by kernel_rfl) (by kernel_rfl) (fun _ _ _ h => h) (Or.inl ⟨by rfl, ?h5_7006⟩) (by assumption) ?r5_7006
        case h5_7006 =>
          intro W hSW
          try dsimp only at hSW
          go_simp
          try with_reducible rfl
        try simp only [Act.put, List.setIfInBounds_toArray, List.set_cons_zero, List.set_cons_succ]
        refine wpAnyH_take (i := 6) (oi := { dst := some 76, op := Op.indexAddr 22 (Operand.tmp 74) (Operand.tmp 75), type := 0, pos := "law.go:90", after := #[{ on := 4, ground := Ground.data }, { on := 5, ground := Ground.data }], guard := none }) (v := ?v6_7007) rfl (by kernel_rfl) (by kernel_rfl) (by kernel_rfl) (fun _ _ _ h => h) (Or.inl ⟨by rfl, ?h6_7007⟩) (by assumption) ?r6_7007
        case h6_7007 =>
          intro W hSW
          try dsimp only at hSW
          go_simp
          try with_reducible rfl
        try simp only [Act.put, List.setIfInBounds_toArray, List.set_cons_zero, List.set_cons_succ]
        refine wpAnyH_take (i := 7) (oi := { dst := some 77, op := Op.load 3 (Operand.tmp 76), type := 3, pos := "law.go:90", after := #[{ on := 6, ground := Ground.data }], guard := none }) (v := ?v7_7008) rfl (by kernel_rfl) (by kernel_rfl) (by kernel_rfl) (fun _ _ _ h => h) (Or.inl ⟨by rfl, ?h7_7008⟩) (by assumption) ?r7_7008
        case h7_7008 =>
          intro W hSW
          try dsimp only at hSW
          have hcc := (hSW.cell (p := ⟨b, off + j, none⟩) HB1.out).trans CJ1.out
          go_simp
          try with_reducible rfl
        try simp only [Act.put, List.setIfInBounds_toArray, List.set_cons_zero, List.set_cons_succ]
        refine wpAnyH_take (i := 8) (oi := { dst := some 78, op := Op.binOp BinOp.eql 3 (Operand.tmp 73) (Operand.tmp 77) 3, type := 4, pos := "law.go:90", after := #[{ on := 3, ground := Ground.data }, { on := 7, ground := Ground.data }], guard := none }) (v := ?v8_7009) rfl (by kernel_rfl) (by kernel_rfl) (by kernel_rfl) (fun _ _ _ h => h) (Or.inl ⟨by rfl, ?h8_7009⟩) (by assumption) ?r8_7009
        case h8_7009 =>
          intro W hSW
          try dsimp only at hSW
          go_simp
          try with_reducible rfl
        try simp only [Act.put, List.setIfInBounds_toArray, List.set_cons_zero, List.set_cons_succ]
        refine wpAnyH_take (i := 9) (oi := { dst := some 79, op := Op.move (Operand.tmp 78), type := 4, pos := "law.go:90", after := #[{ on := 8, ground := Ground.data }], guard := none }) (v := ?v9_7010) rfl (by kernel_rfl) (by kernel_rfl) (by kernel_rfl) (fun _ _ _ h => h) (Or.inl ⟨by rfl, ?h9_7010⟩) (by assumption) ?r9_7010
        case h9_7010 =>
          intro W hSW
          try dsimp only at hSW
          go_simp
          try with_reducible rfl
        try simp only [Act.put, List.setIfInBounds_toArray, List.set_cons_zero, List.set_cons_succ]
        refine wpAnyH_take (i := 10) (oi := { dst := some 80, op := Op.move (Operand.tmp 2), type := 3, pos := "law.go:90", after := #[{ on := 9, ground := Ground.guard }], guard := some (9, true) }) (v := ?v10_7011) rfl (by kernel_rfl) (by kernel_rfl) (by kernel_rfl) (fun _ _ _ h => h) (Or.inl ⟨by rfl, ?h10_7011⟩) (by assumption) ?r10_7011
        case h10_7011 =>
          intro W hSW
          try dsimp only at hSW
          go_simp
          try with_reducible rfl
        try simp only [Act.put, List.setIfInBounds_toArray, List.set_cons_zero, List.set_cons_succ]
        refine wpAnyH_take (i := 11) (oi := { dst := some 81, op := Op.move (Operand.tmp 3), type := 3, pos := "law.go:90", after := #[{ on := 9, ground := Ground.guard }], guard := some (9, true) }) (v := ?v11_7012) rfl (by kernel_rfl) (by kernel_rfl) (by kernel_rfl) (fun _ _ _ h => h) (Or.inl ⟨by rfl, ?h11_7012⟩) (by assumption) ?r11_7012
        case h11_7012 =>
          intro W hSW
          try dsimp only at hSW
          go_simp
          try with_reducible rfl
        try simp only [Act.put, List.setIfInBounds_toArray, List.set_cons_zero, List.set_cons_succ]
        refine wpAnyH_take (i := 12) (oi := { dst := some 82, op := Op.binOp BinOp.lss 3 (Operand.tmp 80) (Operand.tmp 81) 3, type := 4, pos := "law.go:90", after := #[{ on := 10, ground := Ground.data }, { on := 11, ground := Ground.data }, { on := 9, ground := Ground.guard }], guard := some (9, true) }) (v := ?v12_7013) rfl (by kernel_rfl) (by kernel_rfl) (by kernel_rfl) (fun _ _ _ h => h) (Or.inl ⟨by rfl, ?h12_7013⟩) (by assumption) ?r12_7013
        case h12_7013 =>
          intro W hSW
          try dsimp only at hSW
          go_simp
          try with_reducible rfl
        try simp only [Act.put, List.setIfInBounds_toArray, List.set_cons_zero, List.set_cons_succ]
        refine wpAnyH_take (i := 13) (oi := { dst := some 83, op := Op.pick (Operand.tmp 79) (Operand.tmp 82) (Operand.const (Value.bool false)), type := 4, pos := "law.go:90", after := #[{ on := 9, ground := Ground.data }, { on := 12, ground := Ground.data }], guard := none }) (v := ?v13_7014) rfl (by kernel_rfl) (by kernel_rfl) (by kernel_rfl) (fun _ _ _ h => h) (Or.inl ⟨by rfl, ?h13_7014⟩) (by assumption) ?r13_7014
        case h13_7014 =>
          intro W hSW
          try dsimp only at hSW
          go_simp
          try with_reducible rfl
        try simp only [Act.put, List.setIfInBounds_toArray, List.set_cons_zero, List.set_cons_succ]
        refine wpAnyH_done (by kernel_rfl) ?_ _
        have HB10 := Lib.hid hv0
        obtain ⟨w10, hw10⟩ : ∃ x, w8.drew = x := ⟨_, rfl⟩
        rw [hw10] at HB10 ⊢
        have CI1 := Lib.hid ((HB10.out.cell (p := ⟨b, off + i, none⟩) HB1.out).trans CI1.out)
        have CJ1 := Lib.hid ((HB10.out.cell (p := ⟨b, off + j, none⟩) HB1.out).trans CJ1.out)
        have DI := Lib.hid ((HB10.out.cell (p := ⟨g, i, none⟩) HG1.out).trans DI.out)
        have DJ := Lib.hid ((HB10.out.cell (p := ⟨g, j, none⟩) HG1.out).trans DJ.out)
        have HB1 := Lib.hid (Nat.lt_of_lt_of_le HB1.out HB10.out.size)
        have HG1 := Lib.hid (Nat.lt_of_lt_of_le HG1.out HB10.out.size)
        have HB := Lib.hid (HB.out.trans (HB10.out.mono HB.out.size))
        clear hw10 hHeld
        go_wp2_with fail
        have hv0 : Below w10.heap.size w10 w10.drew := (Below.refl _ _).drew
        refine wp_region_held_drew (S := fun W => Below w10.heap.size w10 W) (by kernel_rfl) (hv0) (fun hHeld => ?_)
        refine wpAnyH_ready (rs := [0]) (by kernel_rfl) (by simp) ?_
        refine AllReadyH.cons (o := { dst := some 84, op := Op.call { callee := Callee.value (Operand.func 8), args := #[], argTypes := #[] }, type := 4, pos := "law.go:91", after := #[], guard := none }) rfl (fun K hK => ?_) AllReadyH.nil
        go_simp
        refine (sanity_any _).mono ?_
        rintro e w60 ⟨rfl, b60⟩
        have hv60 : Below w10.heap.size w10 w60 := hv0.trans (b60.mono hv0.size)
        go_wp2_with fail
        refine hK.out _ _ (hv60) (fun hHeld => ?_)
        clear hK K
        try simp only [Act.put, List.setIfInBounds_toArray, List.set_cons_zero, List.set_cons_succ]
        refine wpAnyH_take (i := 1) (oi := { dst := some 85, op := Op.move (Operand.tmp 84), type := 4, pos := "law.go:91", after := #[{ on := 0, ground := Ground.data }, { on := 0, ground := Ground.chain }], guard := none }) (v := ?v1_8001) rfl (by kernel_rfl) (by kernel_rfl) (by kernel_rfl) (fun _ _ _ h => h) (Or.inl ⟨by rfl, ?h1_8001⟩) (by assumption) ?r1_8001
        case h1_8001 =>
          intro W hSW
          try dsimp only at hSW
          go_simp
          try with_reducible rfl
        try simp only [Act.put, List.setIfInBounds_toArray, List.set_cons_zero, List.set_cons_succ]
        refine wpAnyH_take (i := 2) (oi := { dst := some 86, op := Op.move (Operand.tmp 9), type := 22, pos := "law.go:91", after := #[{ on := 1, ground := Ground.guard }], guard := some (1, true) }) (v := ?v2_8002) rfl (by kernel_rfl) (by kernel_rfl) (by kernel_rfl) (fun _ _ _ h => h) (Or.inl ⟨by rfl, ?h2_8002⟩) (by assumption) ?r2_8002
        case h2_8002 =>
          intro W hSW
          try dsimp only at hSW
          go_simp
          try with_reducible rfl
        try simp only [Act.put, List.setIfInBounds_toArray, List.set_cons_zero, List.set_cons_succ]
        refine wpAnyH_take (i := 3) (oi := { dst := some 87, op := Op.move (Operand.tmp 2), type := 3, pos := "law.go:91", after := #[{ on := 1, ground := Ground.guard }], guard := some (1, true) }) (v := ?v3_8003) rfl (by kernel_rfl) (by kernel_rfl) (by kernel_rfl) (fun _ _ _ h => h) (Or.inl ⟨by rfl, ?h3_8003⟩) (by assumption) ?r3_8003
        case h3_8003 =>
          intro W hSW
          try dsimp only at hSW
          go_simp
          try with_reducible rfl
        try simp only [Act.put, List.setIfInBounds_toArray, List.set_cons_zero, List.set_cons_succ]
        refine wpAnyH_take (i := 4) (oi := { dst := some 88, op := Op.indexAddr 22 (Operand.tmp 86) (Operand.tmp 87), type := 0, pos := "law.go:91", after := #[{ on := 2, ground := Ground.data }, { on := 3, ground := Ground.data }, { on := 1, ground := Ground.guard }], guard := some (1, true) }) (v := ?v4_8004) rfl (by kernel_rfl) (by kernel_rfl) (by kernel_rfl) (fun _ _ _ h => h) (Or.inl ⟨by rfl, ?h4_8004⟩) (by assumption) ?r4_8004
        case h4_8004 =>
          intro W hSW
          try dsimp only at hSW
          go_simp
          try with_reducible rfl
        try simp only [Act.put, List.setIfInBounds_toArray, List.set_cons_zero, List.set_cons_succ]
        refine wpAnyH_take (i := 5) (oi := { dst := some 89, op := Op.load 3 (Operand.tmp 88), type := 3, pos := "law.go:91", after := #[{ on := 4, ground := Ground.data }, { on := 1, ground := Ground.guard }], guard := some (1, true) }) (v := ?v5_8005) rfl (by kernel_rfl) (by kernel_rfl) (by kernel_rfl) (fun _ _ _ h => h) (Or.inl ⟨by rfl, ?h5_8005⟩) (by assumption) ?r5_8005
        case h5_8005 =>
          intro W hSW
          try dsimp only at hSW
          have hcc := (hSW.cell (p := ⟨g, i, none⟩) HG1.out).trans DI.out
          go_simp
          try with_reducible rfl
        try simp only [Act.put, List.setIfInBounds_toArray, List.set_cons_zero, List.set_cons_succ]
        refine wpAnyH_take (i := 6) (oi := { dst := some 90, op := Op.move (Operand.tmp 9), type := 22, pos := "law.go:91", after := #[{ on := 1, ground := Ground.guard }], guard := some (1, true) }) (v := ?v6_8006) rfl (by kernel_rfl) (by kernel_rfl) (by kernel_rfl) (fun _ _ _ h => h) (Or.inl ⟨by rfl, ?h6_8006⟩) (by assumption) ?r6_8006
        case h6_8006 =>
          intro W hSW
          try dsimp only at hSW
          go_simp
          try with_reducible rfl
        try simp only [Act.put, List.setIfInBounds_toArray, List.set_cons_zero, List.set_cons_succ]
        refine wpAnyH_take (i := 7) (oi := { dst := some 91, op := Op.move (Operand.tmp 3), type := 3, pos := "law.go:91", after := #[{ on := 1, ground := Ground.guard }], guard := some (1, true) }) (v := ?v7_8007) rfl (by kernel_rfl) (by kernel_rfl) (by kernel_rfl) (fun _ _ _ h => h) (Or.inl ⟨by rfl, ?h7_8007⟩) (by assumption) ?r7_8007
        case h7_8007 =>
          intro W hSW
          try dsimp only at hSW
          go_simp
          try with_reducible rfl
        try simp only [Act.put, List.setIfInBounds_toArray, List.set_cons_zero, List.set_cons_succ]
        refine wpAnyH_take (i := 8) (oi := { dst := some 92, op := Op.indexAddr 22 (Operand.tmp 90) (Operand.tmp 91), type := 0, pos := "law.go:91", after := #[{ on := 6, ground := Ground.data }, { on := 7, ground := Ground.data }, { on := 1, ground := Ground.guard }], guard := some (1, true) }) (v := ?v8_8008) rfl (by kernel_rfl) (by kernel_rfl) (by kernel_rfl) (fun _ _ _ h => h) (Or.inl ⟨by rfl, ?h8_8008⟩) (by assumption) ?r8_8008
        case h8_8008 =>
          intro W hSW
          try dsimp only at hSW
          go_simp
          try with_reducible rfl
        try simp only [Act.put, List.setIfInBounds_toArray, List.set_cons_zero, List.set_cons_succ]
        refine wpAnyH_take (i := 9) (oi := { dst := some 93, op := Op.load 3 (Operand.tmp 92), type := 3, pos := "law.go:91", after := #[{ on := 8, ground := Ground.data }, { on := 1, ground := Ground.guard }], guard := some (1, true) }) (v := ?v9_8009) rfl (by kernel_rfl) (by kernel_rfl) (by kernel_rfl) (fun _ _ _ h => h) (Or.inl ⟨by rfl, ?h9_8009⟩) (by assumption) ?r9_8009
        case h9_8009 =>
          intro W hSW
          try dsimp only at hSW
          have hcc := (hSW.cell (p := ⟨g, j, none⟩) HG1.out).trans DJ.out
          go_simp
          try with_reducible rfl
        try simp only [Act.put, List.setIfInBounds_toArray, List.set_cons_zero, List.set_cons_succ]
        refine wpAnyH_take (i := 10) (oi := { dst := some 94, op := Op.binOp BinOp.eql 3 (Operand.tmp 89) (Operand.tmp 93) 3, type := 4, pos := "law.go:91", after := #[{ on := 5, ground := Ground.data }, { on := 9, ground := Ground.data }, { on := 1, ground := Ground.guard }], guard := some (1, true) }) (v := ?v10_8010) rfl (by kernel_rfl) (by kernel_rfl) (by kernel_rfl) (fun _ _ _ h => h) (Or.inl ⟨by rfl, ?h10_8010⟩) (by assumption) ?r10_8010
        case h10_8010 =>
          intro W hSW
          try dsimp only at hSW
          go_simp
          try with_reducible rfl
        try simp only [Act.put, List.setIfInBounds_toArray, List.set_cons_zero, List.set_cons_succ]
        refine wpAnyH_take (i := 11) (oi := { dst := some 95, op := Op.move (Operand.tmp 94), type := 4, pos := "law.go:91", after := #[{ on := 10, ground := Ground.data }, { on := 1, ground := Ground.chain }, { on := 1, ground := Ground.guard }], guard := some (1, true) }) (v := ?v11_8011) rfl (by kernel_rfl) (by kernel_rfl) (by kernel_rfl) (fun _ _ _ h => h) (Or.inl ⟨by rfl, ?h11_8011⟩) (by assumption) ?r11_8011
        case h11_8011 =>
          intro W hSW
          try dsimp only at hSW
          go_simp
          try with_reducible rfl
        try simp only [Act.put, List.setIfInBounds_toArray, List.set_cons_zero, List.set_cons_succ]
        refine wpAnyH_take (i := 12) (oi := { dst := some 96, op := Op.move (Operand.tmp 9), type := 22, pos := "law.go:91", after := #[{ on := 11, ground := Ground.guard }], guard := some (11, false) }) (v := ?v12_8012) rfl (by kernel_rfl) (by kernel_rfl) (by kernel_rfl) (fun _ _ _ h => h) (Or.inl ⟨by rfl, ?h12_8012⟩) (by assumption) ?r12_8012
        case h12_8012 =>
          intro W hSW
          try dsimp only at hSW
          go_simp
          try with_reducible rfl
        try simp only [Act.put, List.setIfInBounds_toArray, List.set_cons_zero, List.set_cons_succ]
        refine wpAnyH_take (i := 13) (oi := { dst := some 97, op := Op.move (Operand.tmp 2), type := 3, pos := "law.go:91", after := #[{ on := 11, ground := Ground.guard }], guard := some (11, false) }) (v := ?v13_8013) rfl (by kernel_rfl) (by kernel_rfl) (by kernel_rfl) (fun _ _ _ h => h) (Or.inl ⟨by rfl, ?h13_8013⟩) (by assumption) ?r13_8013
        case h13_8013 =>
          intro W hSW
          try dsimp only at hSW
          go_simp
          try with_reducible rfl
        try simp only [Act.put, List.setIfInBounds_toArray, List.set_cons_zero, List.set_cons_succ]
        refine wpAnyH_take (i := 14) (oi := { dst := some 98, op := Op.indexAddr 22 (Operand.tmp 96) (Operand.tmp 97), type := 0, pos := "law.go:91", after := #[{ on := 12, ground := Ground.data }, { on := 13, ground := Ground.data }, { on := 11, ground := Ground.guard }], guard := some (11, false) }) (v := ?v14_8014) rfl (by kernel_rfl) (by kernel_rfl) (by kernel_rfl) (fun _ _ _ h => h) (Or.inl ⟨by rfl, ?h14_8014⟩) (by assumption) ?r14_8014
        case h14_8014 =>
          intro W hSW
          try dsimp only at hSW
          go_simp
          try with_reducible rfl
        try simp only [Act.put, List.setIfInBounds_toArray, List.set_cons_zero, List.set_cons_succ]
        refine wpAnyH_take (i := 15) (oi := { dst := some 99, op := Op.load 3 (Operand.tmp 98), type := 3, pos := "law.go:91", after := #[{ on := 14, ground := Ground.data }, { on := 11, ground := Ground.guard }], guard := some (11, false) }) (v := ?v15_8015) rfl (by kernel_rfl) (by kernel_rfl) (by kernel_rfl) (fun _ _ _ h => h) (Or.inl ⟨by rfl, ?h15_8015⟩) (by assumption) ?r15_8015
        case h15_8015 =>
          intro W hSW
          try dsimp only at hSW
          have hcc := (hSW.cell (p := ⟨g, i, none⟩) HG1.out).trans DI.out
          go_simp
          try with_reducible rfl
        try simp only [Act.put, List.setIfInBounds_toArray, List.set_cons_zero, List.set_cons_succ]
        refine wpAnyH_take (i := 16) (oi := { dst := some 100, op := Op.move (Operand.tmp 9), type := 22, pos := "law.go:91", after := #[{ on := 11, ground := Ground.guard }], guard := some (11, false) }) (v := ?v16_8016) rfl (by kernel_rfl) (by kernel_rfl) (by kernel_rfl) (fun _ _ _ h => h) (Or.inl ⟨by rfl, ?h16_8016⟩) (by assumption) ?r16_8016
        case h16_8016 =>
          intro W hSW
          try dsimp only at hSW
          go_simp
          try with_reducible rfl
        try simp only [Act.put, List.setIfInBounds_toArray, List.set_cons_zero, List.set_cons_succ]
        refine wpAnyH_take (i := 17) (oi := { dst := some 101, op := Op.move (Operand.tmp 3), type := 3, pos := "law.go:91", after := #[{ on := 11, ground := Ground.guard }], guard := some (11, false) }) (v := ?v17_8017) rfl (by kernel_rfl) (by kernel_rfl) (by kernel_rfl) (fun _ _ _ h => h) (Or.inl ⟨by rfl, ?h17_8017⟩) (by assumption) ?r17_8017
        case h17_8017 =>
          intro W hSW
          try dsimp only at hSW
          go_simp
          try with_reducible rfl
        try simp only [Act.put, List.setIfInBounds_toArray, List.set_cons_zero, List.set_cons_succ]
        refine wpAnyH_take (i := 18) (oi := { dst := some 102, op := Op.indexAddr 22 (Operand.tmp 100) (Operand.tmp 101), type := 0, pos := "law.go:91", after := #[{ on := 16, ground := Ground.data }, { on := 17, ground := Ground.data }, { on := 11, ground := Ground.guard }], guard := some (11, false) }) (v := ?v18_8018) rfl (by kernel_rfl) (by kernel_rfl) (by kernel_rfl) (fun _ _ _ h => h) (Or.inl ⟨by rfl, ?h18_8018⟩) (by assumption) ?r18_8018
        case h18_8018 =>
          intro W hSW
          try dsimp only at hSW
          go_simp
          try with_reducible rfl
        try simp only [Act.put, List.setIfInBounds_toArray, List.set_cons_zero, List.set_cons_succ]
        refine wpAnyH_take (i := 19) (oi := { dst := some 103, op := Op.load 3 (Operand.tmp 102), type := 3, pos := "law.go:91", after := #[{ on := 18, ground := Ground.data }, { on := 11, ground := Ground.guard }], guard := some (11, false) }) (v := ?v19_8019) rfl (by kernel_rfl) (by kernel_rfl) (by kernel_rfl) (fun _ _ _ h => h) (Or.inl ⟨by rfl, ?h19_8019⟩) (by assumption) ?r19_8019
        case h19_8019 =>
          intro W hSW
          try dsimp only at hSW
          have hcc := (hSW.cell (p := ⟨g, j, none⟩) HG1.out).trans DJ.out
          go_simp
          try with_reducible rfl
        try simp only [Act.put, List.setIfInBounds_toArray, List.set_cons_zero, List.set_cons_succ]
        refine wpAnyH_take (i := 20) (oi := { dst := some 104, op := Op.binOp BinOp.add 3 (Operand.tmp 103) (Operand.const (Value.int IntKind.i64 1)) 3, type := 3, pos := "law.go:91", after := #[{ on := 19, ground := Ground.data }, { on := 11, ground := Ground.guard }], guard := some (11, false) }) (v := ?v20_8020) rfl (by kernel_rfl) (by kernel_rfl) (by kernel_rfl) (fun _ _ _ h => h) (Or.inl ⟨by rfl, ?h20_8020⟩) (by assumption) ?r20_8020
        case h20_8020 =>
          intro W hSW
          try dsimp only at hSW
          go_simp
          try with_reducible rfl
        try simp only [Act.put, List.setIfInBounds_toArray, List.set_cons_zero, List.set_cons_succ]
        refine wpAnyH_take (i := 21) (oi := { dst := some 105, op := Op.binOp BinOp.eql 3 (Operand.tmp 99) (Operand.tmp 104) 3, type := 4, pos := "law.go:91", after := #[{ on := 15, ground := Ground.data }, { on := 20, ground := Ground.data }, { on := 11, ground := Ground.guard }], guard := some (11, false) }) (v := ?v21_8021) rfl (by kernel_rfl) (by kernel_rfl) (by kernel_rfl) (fun _ _ _ h => h) (Or.inl ⟨by rfl, ?h21_8021⟩) (by assumption) ?r21_8021
        case h21_8021 =>
          intro W hSW
          try dsimp only at hSW
          go_simp
          try with_reducible rfl
        try simp only [Act.put, List.setIfInBounds_toArray, List.set_cons_zero, List.set_cons_succ]
        refine wpAnyH_take (i := 22) (oi := { dst := some 106, op := Op.pick (Operand.tmp 95) (Operand.const (Value.bool true)) (Operand.tmp 105), type := 4, pos := "law.go:91", after := #[{ on := 11, ground := Ground.data }, { on := 21, ground := Ground.data }, { on := 1, ground := Ground.guard }], guard := some (1, true) }) (v := ?v22_8022) rfl (by kernel_rfl) (by kernel_rfl) (by kernel_rfl) (fun _ _ _ h => h) (Or.inl ⟨by rfl, ?h22_8022⟩) (by assumption) ?r22_8022
        case h22_8022 =>
          intro W hSW
          try dsimp only at hSW
          go_simp
          try with_reducible rfl
        try simp only [Act.put, List.setIfInBounds_toArray, List.set_cons_zero, List.set_cons_succ]
        refine wpAnyH_take (i := 23) (oi := { dst := some 107, op := Op.pick (Operand.tmp 85) (Operand.tmp 106) (Operand.const (Value.bool false)), type := 4, pos := "law.go:91", after := #[{ on := 1, ground := Ground.data }, { on := 22, ground := Ground.data }], guard := none }) (v := ?v23_8023) rfl (by kernel_rfl) (by kernel_rfl) (by kernel_rfl) (fun _ _ _ h => h) (Or.inl ⟨by rfl, ?h23_8023⟩) (by assumption) ?r23_8023
        case h23_8023 =>
          intro W hSW
          try dsimp only at hSW
          go_simp
          try with_reducible rfl
        try simp only [Act.put, List.setIfInBounds_toArray, List.set_cons_zero, List.set_cons_succ]
        refine wpAnyH_take (i := 24) (oi := { dst := some 8, op := Op.assign (Operand.tmp 107), type := 4, pos := "law.go:91", after := #[{ on := 23, ground := Ground.data }, { on := 11, ground := Ground.chain }, { on := 0, ground := Ground.phase }, { on := 1, ground := Ground.phase }, { on := 2, ground := Ground.phase }, { on := 3, ground := Ground.phase }, { on := 4, ground := Ground.phase }, { on := 5, ground := Ground.phase }, { on := 6, ground := Ground.phase }, { on := 7, ground := Ground.phase }, { on := 8, ground := Ground.phase }, { on := 9, ground := Ground.phase }, { on := 10, ground := Ground.phase }, { on := 11, ground := Ground.phase }, { on := 12, ground := Ground.phase }, { on := 13, ground := Ground.phase }, { on := 14, ground := Ground.phase }, { on := 15, ground := Ground.phase }, { on := 16, ground := Ground.phase }, { on := 17, ground := Ground.phase }, { on := 18, ground := Ground.phase }, { on := 19, ground := Ground.phase }, { on := 20, ground := Ground.phase }, { on := 21, ground := Ground.phase }, { on := 22, ground := Ground.phase }, { on := 23, ground := Ground.phase }], guard := none }) (v := ?v24_8024) rfl (by kernel_rfl) (by kernel_rfl) (by kernel_rfl) (fun _ _ _ h => h) (Or.inl ⟨by rfl, ?h24_8024⟩) (by assumption) ?r24_8024
        case h24_8024 =>
          intro W hSW
          try dsimp only at hSW
          go_simp
          try with_reducible rfl
        try simp only [Act.put, List.setIfInBounds_toArray, List.set_cons_zero, List.set_cons_succ]
        refine wpAnyH_done (by kernel_rfl) ?_ _
        go_wp2_with fail
        go_ret
        exact ⟨rfl, HB.out.trans (hv60.mono HB.out.size)⟩
    · by_cases he : wi = wj
      · subst he
        have hlt' : ¬ ((i : Int) < (j : Int)) := by intro h; exact heq ⟨rfl, by omega⟩
        clear heq
        have hv0 : Below w1.heap.size w1 w1.drew := (Below.refl _ _).drew
        refine wp_region_held_drew (S := fun W => Below w1.heap.size w1 W) (by kernel_rfl) (hv0) (fun hHeld => ?_)
        refine wpAnyH_take (i := 0) (oi := { dst := some 49, op := Op.move (Operand.tmp 1), type := 22, pos := "law.go:87", after := #[], guard := none }) (v := ?v0_9001) rfl (by kernel_rfl) (by kernel_rfl) (by kernel_rfl) (fun _ _ _ h => h) (Or.inl ⟨by rfl, ?h0_9001⟩) (by assumption) ?r0_9001
        case h0_9001 =>
          intro W hSW
          try dsimp only at hSW
          go_simp
          try with_reducible rfl
        try simp only [Act.put, List.setIfInBounds_toArray, List.set_cons_zero, List.set_cons_succ]
        refine wpAnyH_take (i := 1) (oi := { dst := some 50, op := Op.move (Operand.tmp 2), type := 3, pos := "law.go:87", after := #[], guard := none }) (v := ?v1_9002) rfl (by kernel_rfl) (by kernel_rfl) (by kernel_rfl) (fun _ _ _ h => h) (Or.inl ⟨by rfl, ?h1_9002⟩) (by assumption) ?r1_9002
        case h1_9002 =>
          intro W hSW
          try dsimp only at hSW
          go_simp
          try with_reducible rfl
        try simp only [Act.put, List.setIfInBounds_toArray, List.set_cons_zero, List.set_cons_succ]
        refine wpAnyH_take (i := 2) (oi := { dst := some 51, op := Op.indexAddr 22 (Operand.tmp 49) (Operand.tmp 50), type := 0, pos := "law.go:87", after := #[{ on := 0, ground := Ground.data }, { on := 1, ground := Ground.data }], guard := none }) (v := ?v2_9003) rfl (by kernel_rfl) (by kernel_rfl) (by kernel_rfl) (fun _ _ _ h => h) (Or.inl ⟨by rfl, ?h2_9003⟩) (by assumption) ?r2_9003
        case h2_9003 =>
          intro W hSW
          try dsimp only at hSW
          go_simp
          try with_reducible rfl
        try simp only [Act.put, List.setIfInBounds_toArray, List.set_cons_zero, List.set_cons_succ]
        refine wpAnyH_take (i := 3) (oi := { dst := some 52, op := Op.load 3 (Operand.tmp 51), type := 3, pos := "law.go:87", after := #[{ on := 2, ground := Ground.data }], guard := none }) (v := ?v3_9004) rfl (by kernel_rfl) (by kernel_rfl) (by kernel_rfl) (fun _ _ _ h => h) (Or.inl ⟨by rfl, ?h3_9004⟩) (by assumption) ?r3_9004
        case h3_9004 =>
          intro W hSW
          try dsimp only at hSW
          have hcc := (hSW.cell (p := ⟨b, off + i, none⟩) HB1.out).trans CI1.out
          go_simp
          try with_reducible rfl
        try simp only [Act.put, List.setIfInBounds_toArray, List.set_cons_zero, List.set_cons_succ]
        refine wpAnyH_take (i := 4) (oi := { dst := some 53, op := Op.move (Operand.tmp 1), type := 22, pos := "law.go:87", after := #[], guard := none }) (v := ?v4_9005) rfl (by kernel_rfl) (by kernel_rfl) (by kernel_rfl) (fun _ _ _ h => h) (Or.inl ⟨by rfl, ?h4_9005⟩) (by assumption) ?r4_9005
        case h4_9005 =>
          intro W hSW
          try dsimp only at hSW
          go_simp
          try with_reducible rfl
        try simp only [Act.put, List.setIfInBounds_toArray, List.set_cons_zero, List.set_cons_succ]
        refine wpAnyH_take (i := 5) (oi := { dst := some 54, op := Op.move (Operand.tmp 3), type := 3, pos := "law.go:87", after := #[], guard := none }) (v := ?v5_9006) rfl (by kernel_rfl) (by kernel_rfl) (by kernel_rfl) (fun _ _ _ h => h) (Or.inl ⟨by rfl, ?h5_9006⟩) (by assumption) ?r5_9006
        case h5_9006 =>
          intro W hSW
          try dsimp only at hSW
          go_simp
          try with_reducible rfl
        try simp only [Act.put, List.setIfInBounds_toArray, List.set_cons_zero, List.set_cons_succ]
        refine wpAnyH_take (i := 6) (oi := { dst := some 55, op := Op.indexAddr 22 (Operand.tmp 53) (Operand.tmp 54), type := 0, pos := "law.go:87", after := #[{ on := 4, ground := Ground.data }, { on := 5, ground := Ground.data }], guard := none }) (v := ?v6_9007) rfl (by kernel_rfl) (by kernel_rfl) (by kernel_rfl) (fun _ _ _ h => h) (Or.inl ⟨by rfl, ?h6_9007⟩) (by assumption) ?r6_9007
        case h6_9007 =>
          intro W hSW
          try dsimp only at hSW
          go_simp
          try with_reducible rfl
        try simp only [Act.put, List.setIfInBounds_toArray, List.set_cons_zero, List.set_cons_succ]
        refine wpAnyH_take (i := 7) (oi := { dst := some 56, op := Op.load 3 (Operand.tmp 55), type := 3, pos := "law.go:87", after := #[{ on := 6, ground := Ground.data }], guard := none }) (v := ?v7_9008) rfl (by kernel_rfl) (by kernel_rfl) (by kernel_rfl) (fun _ _ _ h => h) (Or.inl ⟨by rfl, ?h7_9008⟩) (by assumption) ?r7_9008
        case h7_9008 =>
          intro W hSW
          try dsimp only at hSW
          have hcc := (hSW.cell (p := ⟨b, off + j, none⟩) HB1.out).trans CJ1.out
          go_simp
          try with_reducible rfl
        try simp only [Act.put, List.setIfInBounds_toArray, List.set_cons_zero, List.set_cons_succ]
        refine wpAnyH_take (i := 8) (oi := { dst := some 57, op := Op.binOp BinOp.gtr 3 (Operand.tmp 52) (Operand.tmp 56) 3, type := 4, pos := "law.go:87", after := #[{ on := 3, ground := Ground.data }, { on := 7, ground := Ground.data }], guard := none }) (v := ?v8_9009) rfl (by kernel_rfl) (by kernel_rfl) (by kernel_rfl) (fun _ _ _ h => h) (Or.inl ⟨by rfl, ?h8_9009⟩) (by assumption) ?r8_9009
        case h8_9009 =>
          intro W hSW
          try dsimp only at hSW
          go_simp
          try with_reducible rfl
        try simp only [Act.put, List.setIfInBounds_toArray, List.set_cons_zero, List.set_cons_succ]
        refine wpAnyH_done (by kernel_rfl) ?_ _
        have HB8 := Lib.hid hv0
        obtain ⟨w8, hw8⟩ : ∃ x, w1.drew = x := ⟨_, rfl⟩
        rw [hw8] at HB8 ⊢
        have CI1 := Lib.hid ((HB8.out.cell (p := ⟨b, off + i, none⟩) HB1.out).trans CI1.out)
        have CJ1 := Lib.hid ((HB8.out.cell (p := ⟨b, off + j, none⟩) HB1.out).trans CJ1.out)
        have DI := Lib.hid ((HB8.out.cell (p := ⟨g, i, none⟩) HG1.out).trans DI.out)
        have DJ := Lib.hid ((HB8.out.cell (p := ⟨g, j, none⟩) HG1.out).trans DJ.out)
        have HB1 := Lib.hid (Nat.lt_of_lt_of_le HB1.out HB8.out.size)
        have HG1 := Lib.hid (Nat.lt_of_lt_of_le HG1.out HB8.out.size)
        have HB := Lib.hid (HB.out.trans (HB8.out.mono HB.out.size))
        clear hw8 hHeld
        go_wp2_with fail
        have hv0 : Below w8.heap.size w8 w8.drew := (Below.refl _ _).drew
        refine wp_region_held_drew (S := fun W => Below w8.heap.size w8 W) (by kernel_rfl) (hv0) (fun hHeld => ?_)
        refine wpAnyH_take (i := 0) (oi := { dst := some 70, op := Op.move (Operand.tmp 1), type := 22, pos := "law.go:90", after := #[], guard := none }) (v := ?v0_10001) rfl (by kernel_rfl) (by kernel_rfl) (by kernel_rfl) (fun _ _ _ h => h) (Or.inl ⟨by rfl, ?h0_10001⟩) (by assumption) ?r0_10001
        case h0_10001 =>
          intro W hSW
          try dsimp only at hSW
          go_simp
          try with_reducible rfl
        try simp only [Act.put, List.setIfInBounds_toArray, List.set_cons_zero, List.set_cons_succ]
        refine wpAnyH_take (i := 1) (oi := { dst := some 71, op := Op.move (Operand.tmp 2), type := 3, pos := "law.go:90", after := #[], guard := none }) (v := ?v1_10002) rfl (by kernel_rfl) (by kernel_rfl) (by kernel_rfl) (fun _ _ _ h => h) (Or.inl ⟨by rfl, ?h1_10002⟩) (by assumption) ?r1_10002
        case h1_10002 =>
          intro W hSW
          try dsimp only at hSW
          go_simp
          try with_reducible rfl
        try simp only [Act.put, List.setIfInBounds_toArray, List.set_cons_zero, List.set_cons_succ]
        refine wpAnyH_take (i := 2) (oi := { dst := some 72, op := Op.indexAddr 22 (Operand.tmp 70) (Operand.tmp 71), type := 0, pos := "law.go:90", after := #[{ on := 0, ground := Ground.data }, { on := 1, ground := Ground.data }], guard := none }) (v := ?v2_10003) rfl (by kernel_rfl) (by kernel_rfl) (by kernel_rfl) (fun _ _ _ h => h) (Or.inl ⟨by rfl, ?h2_10003⟩) (by assumption) ?r2_10003
        case h2_10003 =>
          intro W hSW
          try dsimp only at hSW
          go_simp
          try with_reducible rfl
        try simp only [Act.put, List.setIfInBounds_toArray, List.set_cons_zero, List.set_cons_succ]
        refine wpAnyH_take (i := 3) (oi := { dst := some 73, op := Op.load 3 (Operand.tmp 72), type := 3, pos := "law.go:90", after := #[{ on := 2, ground := Ground.data }], guard := none }) (v := ?v3_10004) rfl (by kernel_rfl) (by kernel_rfl) (by kernel_rfl) (fun _ _ _ h => h) (Or.inl ⟨by rfl, ?h3_10004⟩) (by assumption) ?r3_10004
        case h3_10004 =>
          intro W hSW
          try dsimp only at hSW
          have hcc := (hSW.cell (p := ⟨b, off + i, none⟩) HB1.out).trans CI1.out
          go_simp
          try with_reducible rfl
        try simp only [Act.put, List.setIfInBounds_toArray, List.set_cons_zero, List.set_cons_succ]
        refine wpAnyH_take (i := 4) (oi := { dst := some 74, op := Op.move (Operand.tmp 1), type := 22, pos := "law.go:90", after := #[], guard := none }) (v := ?v4_10005) rfl (by kernel_rfl) (by kernel_rfl) (by kernel_rfl) (fun _ _ _ h => h) (Or.inl ⟨by rfl, ?h4_10005⟩) (by assumption) ?r4_10005
        case h4_10005 =>
          intro W hSW
          try dsimp only at hSW
          go_simp
          try with_reducible rfl
        try simp only [Act.put, List.setIfInBounds_toArray, List.set_cons_zero, List.set_cons_succ]
        refine wpAnyH_take (i := 5) (oi := { dst := some 75, op := Op.move (Operand.tmp 3), type := 3, pos := "law.go:90", after := #[], guard := none }) (v := ?v5_10006) rfl (by kernel_rfl) (by kernel_rfl) (by kernel_rfl) (fun _ _ _ h => h) (Or.inl ⟨by rfl, ?h5_10006⟩) (by assumption) ?r5_10006
        case h5_10006 =>
          intro W hSW
          try dsimp only at hSW
          go_simp
          try with_reducible rfl
        try simp only [Act.put, List.setIfInBounds_toArray, List.set_cons_zero, List.set_cons_succ]
        refine wpAnyH_take (i := 6) (oi := { dst := some 76, op := Op.indexAddr 22 (Operand.tmp 74) (Operand.tmp 75), type := 0, pos := "law.go:90", after := #[{ on := 4, ground := Ground.data }, { on := 5, ground := Ground.data }], guard := none }) (v := ?v6_10007) rfl (by kernel_rfl) (by kernel_rfl) (by kernel_rfl) (fun _ _ _ h => h) (Or.inl ⟨by rfl, ?h6_10007⟩) (by assumption) ?r6_10007
        case h6_10007 =>
          intro W hSW
          try dsimp only at hSW
          go_simp
          try with_reducible rfl
        try simp only [Act.put, List.setIfInBounds_toArray, List.set_cons_zero, List.set_cons_succ]
        refine wpAnyH_take (i := 7) (oi := { dst := some 77, op := Op.load 3 (Operand.tmp 76), type := 3, pos := "law.go:90", after := #[{ on := 6, ground := Ground.data }], guard := none }) (v := ?v7_10008) rfl (by kernel_rfl) (by kernel_rfl) (by kernel_rfl) (fun _ _ _ h => h) (Or.inl ⟨by rfl, ?h7_10008⟩) (by assumption) ?r7_10008
        case h7_10008 =>
          intro W hSW
          try dsimp only at hSW
          have hcc := (hSW.cell (p := ⟨b, off + j, none⟩) HB1.out).trans CJ1.out
          go_simp
          try with_reducible rfl
        try simp only [Act.put, List.setIfInBounds_toArray, List.set_cons_zero, List.set_cons_succ]
        refine wpAnyH_take (i := 8) (oi := { dst := some 78, op := Op.binOp BinOp.eql 3 (Operand.tmp 73) (Operand.tmp 77) 3, type := 4, pos := "law.go:90", after := #[{ on := 3, ground := Ground.data }, { on := 7, ground := Ground.data }], guard := none }) (v := ?v8_10009) rfl (by kernel_rfl) (by kernel_rfl) (by kernel_rfl) (fun _ _ _ h => h) (Or.inl ⟨by rfl, ?h8_10009⟩) (by assumption) ?r8_10009
        case h8_10009 =>
          intro W hSW
          try dsimp only at hSW
          go_simp
          try with_reducible rfl
        try simp only [Act.put, List.setIfInBounds_toArray, List.set_cons_zero, List.set_cons_succ]
        refine wpAnyH_take (i := 9) (oi := { dst := some 79, op := Op.move (Operand.tmp 78), type := 4, pos := "law.go:90", after := #[{ on := 8, ground := Ground.data }], guard := none }) (v := ?v9_10010) rfl (by kernel_rfl) (by kernel_rfl) (by kernel_rfl) (fun _ _ _ h => h) (Or.inl ⟨by rfl, ?h9_10010⟩) (by assumption) ?r9_10010
        case h9_10010 =>
          intro W hSW
          try dsimp only at hSW
          go_simp
          try with_reducible rfl
        try simp only [Act.put, List.setIfInBounds_toArray, List.set_cons_zero, List.set_cons_succ]
        refine wpAnyH_take (i := 10) (oi := { dst := some 80, op := Op.move (Operand.tmp 2), type := 3, pos := "law.go:90", after := #[{ on := 9, ground := Ground.guard }], guard := some (9, true) }) (v := ?v10_10011) rfl (by kernel_rfl) (by kernel_rfl) (by kernel_rfl) (fun _ _ _ h => h) (Or.inl ⟨by rfl, ?h10_10011⟩) (by assumption) ?r10_10011
        case h10_10011 =>
          intro W hSW
          try dsimp only at hSW
          go_simp
          try with_reducible rfl
        try simp only [Act.put, List.setIfInBounds_toArray, List.set_cons_zero, List.set_cons_succ]
        refine wpAnyH_take (i := 11) (oi := { dst := some 81, op := Op.move (Operand.tmp 3), type := 3, pos := "law.go:90", after := #[{ on := 9, ground := Ground.guard }], guard := some (9, true) }) (v := ?v11_10012) rfl (by kernel_rfl) (by kernel_rfl) (by kernel_rfl) (fun _ _ _ h => h) (Or.inl ⟨by rfl, ?h11_10012⟩) (by assumption) ?r11_10012
        case h11_10012 =>
          intro W hSW
          try dsimp only at hSW
          go_simp
          try with_reducible rfl
        try simp only [Act.put, List.setIfInBounds_toArray, List.set_cons_zero, List.set_cons_succ]
        refine wpAnyH_take (i := 12) (oi := { dst := some 82, op := Op.binOp BinOp.lss 3 (Operand.tmp 80) (Operand.tmp 81) 3, type := 4, pos := "law.go:90", after := #[{ on := 10, ground := Ground.data }, { on := 11, ground := Ground.data }, { on := 9, ground := Ground.guard }], guard := some (9, true) }) (v := ?v12_10013) rfl (by kernel_rfl) (by kernel_rfl) (by kernel_rfl) (fun _ _ _ h => h) (Or.inl ⟨by rfl, ?h12_10013⟩) (by assumption) ?r12_10013
        case h12_10013 =>
          intro W hSW
          try dsimp only at hSW
          go_simp
          try with_reducible rfl
        try simp only [Act.put, List.setIfInBounds_toArray, List.set_cons_zero, List.set_cons_succ]
        refine wpAnyH_take (i := 13) (oi := { dst := some 83, op := Op.pick (Operand.tmp 79) (Operand.tmp 82) (Operand.const (Value.bool false)), type := 4, pos := "law.go:90", after := #[{ on := 9, ground := Ground.data }, { on := 12, ground := Ground.data }], guard := none }) (v := ?v13_10014) rfl (by kernel_rfl) (by kernel_rfl) (by kernel_rfl) (fun _ _ _ h => h) (Or.inl ⟨by rfl, ?h13_10014⟩) (by assumption) ?r13_10014
        case h13_10014 =>
          intro W hSW
          try dsimp only at hSW
          go_simp
          try with_reducible rfl
        try simp only [Act.put, List.setIfInBounds_toArray, List.set_cons_zero, List.set_cons_succ]
        refine wpAnyH_done (by kernel_rfl) ?_ _
        clear hHeld
        go_wp2_with (go_at_call 8; refine (sanity_any _).mono ?_; rintro e ws_ ⟨rfl, bs_⟩)
        go_ret
        exact ⟨rfl, (HB.out.trans (hv0.mono HB.out.size)).trans (bs_.mono (by have := HB.out.size; have := hv0.size; omega))⟩
      · have he1 : (wi == wj) = false := by rw [beq_eq_false_iff_ne]; exact he
        clear heq
        have hv0 : Below w1.heap.size w1 w1.drew := (Below.refl _ _).drew
        refine wp_region_held_drew (S := fun W => Below w1.heap.size w1 W) (by kernel_rfl) (hv0) (fun hHeld => ?_)
        refine wpAnyH_take (i := 0) (oi := { dst := some 49, op := Op.move (Operand.tmp 1), type := 22, pos := "law.go:87", after := #[], guard := none }) (v := ?v0_11001) rfl (by kernel_rfl) (by kernel_rfl) (by kernel_rfl) (fun _ _ _ h => h) (Or.inl ⟨by rfl, ?h0_11001⟩) (by assumption) ?r0_11001
        case h0_11001 =>
          intro W hSW
          try dsimp only at hSW
          go_simp
          try with_reducible rfl
        try simp only [Act.put, List.setIfInBounds_toArray, List.set_cons_zero, List.set_cons_succ]
        refine wpAnyH_take (i := 1) (oi := { dst := some 50, op := Op.move (Operand.tmp 2), type := 3, pos := "law.go:87", after := #[], guard := none }) (v := ?v1_11002) rfl (by kernel_rfl) (by kernel_rfl) (by kernel_rfl) (fun _ _ _ h => h) (Or.inl ⟨by rfl, ?h1_11002⟩) (by assumption) ?r1_11002
        case h1_11002 =>
          intro W hSW
          try dsimp only at hSW
          go_simp
          try with_reducible rfl
        try simp only [Act.put, List.setIfInBounds_toArray, List.set_cons_zero, List.set_cons_succ]
        refine wpAnyH_take (i := 2) (oi := { dst := some 51, op := Op.indexAddr 22 (Operand.tmp 49) (Operand.tmp 50), type := 0, pos := "law.go:87", after := #[{ on := 0, ground := Ground.data }, { on := 1, ground := Ground.data }], guard := none }) (v := ?v2_11003) rfl (by kernel_rfl) (by kernel_rfl) (by kernel_rfl) (fun _ _ _ h => h) (Or.inl ⟨by rfl, ?h2_11003⟩) (by assumption) ?r2_11003
        case h2_11003 =>
          intro W hSW
          try dsimp only at hSW
          go_simp
          try with_reducible rfl
        try simp only [Act.put, List.setIfInBounds_toArray, List.set_cons_zero, List.set_cons_succ]
        refine wpAnyH_take (i := 3) (oi := { dst := some 52, op := Op.load 3 (Operand.tmp 51), type := 3, pos := "law.go:87", after := #[{ on := 2, ground := Ground.data }], guard := none }) (v := ?v3_11004) rfl (by kernel_rfl) (by kernel_rfl) (by kernel_rfl) (fun _ _ _ h => h) (Or.inl ⟨by rfl, ?h3_11004⟩) (by assumption) ?r3_11004
        case h3_11004 =>
          intro W hSW
          try dsimp only at hSW
          have hcc := (hSW.cell (p := ⟨b, off + i, none⟩) HB1.out).trans CI1.out
          go_simp
          try with_reducible rfl
        try simp only [Act.put, List.setIfInBounds_toArray, List.set_cons_zero, List.set_cons_succ]
        refine wpAnyH_take (i := 4) (oi := { dst := some 53, op := Op.move (Operand.tmp 1), type := 22, pos := "law.go:87", after := #[], guard := none }) (v := ?v4_11005) rfl (by kernel_rfl) (by kernel_rfl) (by kernel_rfl) (fun _ _ _ h => h) (Or.inl ⟨by rfl, ?h4_11005⟩) (by assumption) ?r4_11005
        case h4_11005 =>
          intro W hSW
          try dsimp only at hSW
          go_simp
          try with_reducible rfl
        try simp only [Act.put, List.setIfInBounds_toArray, List.set_cons_zero, List.set_cons_succ]
        refine wpAnyH_take (i := 5) (oi := { dst := some 54, op := Op.move (Operand.tmp 3), type := 3, pos := "law.go:87", after := #[], guard := none }) (v := ?v5_11006) rfl (by kernel_rfl) (by kernel_rfl) (by kernel_rfl) (fun _ _ _ h => h) (Or.inl ⟨by rfl, ?h5_11006⟩) (by assumption) ?r5_11006
        case h5_11006 =>
          intro W hSW
          try dsimp only at hSW
          go_simp
          try with_reducible rfl
        try simp only [Act.put, List.setIfInBounds_toArray, List.set_cons_zero, List.set_cons_succ]
        refine wpAnyH_take (i := 6) (oi := { dst := some 55, op := Op.indexAddr 22 (Operand.tmp 53) (Operand.tmp 54), type := 0, pos := "law.go:87", after := #[{ on := 4, ground := Ground.data }, { on := 5, ground := Ground.data }], guard := none }) (v := ?v6_11007) rfl (by kernel_rfl) (by kernel_rfl) (by kernel_rfl) (fun _ _ _ h => h) (Or.inl ⟨by rfl, ?h6_11007⟩) (by assumption) ?r6_11007
        case h6_11007 =>
          intro W hSW
          try dsimp only at hSW
          go_simp
          try with_reducible rfl
        try simp only [Act.put, List.setIfInBounds_toArray, List.set_cons_zero, List.set_cons_succ]
        refine wpAnyH_take (i := 7) (oi := { dst := some 56, op := Op.load 3 (Operand.tmp 55), type := 3, pos := "law.go:87", after := #[{ on := 6, ground := Ground.data }], guard := none }) (v := ?v7_11008) rfl (by kernel_rfl) (by kernel_rfl) (by kernel_rfl) (fun _ _ _ h => h) (Or.inl ⟨by rfl, ?h7_11008⟩) (by assumption) ?r7_11008
        case h7_11008 =>
          intro W hSW
          try dsimp only at hSW
          have hcc := (hSW.cell (p := ⟨b, off + j, none⟩) HB1.out).trans CJ1.out
          go_simp
          try with_reducible rfl
        try simp only [Act.put, List.setIfInBounds_toArray, List.set_cons_zero, List.set_cons_succ]
        refine wpAnyH_take (i := 8) (oi := { dst := some 57, op := Op.binOp BinOp.gtr 3 (Operand.tmp 52) (Operand.tmp 56) 3, type := 4, pos := "law.go:87", after := #[{ on := 3, ground := Ground.data }, { on := 7, ground := Ground.data }], guard := none }) (v := ?v8_11009) rfl (by kernel_rfl) (by kernel_rfl) (by kernel_rfl) (fun _ _ _ h => h) (Or.inl ⟨by rfl, ?h8_11009⟩) (by assumption) ?r8_11009
        case h8_11009 =>
          intro W hSW
          try dsimp only at hSW
          go_simp
          try with_reducible rfl
        try simp only [Act.put, List.setIfInBounds_toArray, List.set_cons_zero, List.set_cons_succ]
        refine wpAnyH_done (by kernel_rfl) ?_ _
        have HB8 := Lib.hid hv0
        obtain ⟨w8, hw8⟩ : ∃ x, w1.drew = x := ⟨_, rfl⟩
        rw [hw8] at HB8 ⊢
        have CI1 := Lib.hid ((HB8.out.cell (p := ⟨b, off + i, none⟩) HB1.out).trans CI1.out)
        have CJ1 := Lib.hid ((HB8.out.cell (p := ⟨b, off + j, none⟩) HB1.out).trans CJ1.out)
        have DI := Lib.hid ((HB8.out.cell (p := ⟨g, i, none⟩) HG1.out).trans DI.out)
        have DJ := Lib.hid ((HB8.out.cell (p := ⟨g, j, none⟩) HG1.out).trans DJ.out)
        have HB1 := Lib.hid (Nat.lt_of_lt_of_le HB1.out HB8.out.size)
        have HG1 := Lib.hid (Nat.lt_of_lt_of_le HG1.out HB8.out.size)
        have HB := Lib.hid (HB.out.trans (HB8.out.mono HB.out.size))
        clear hw8 hHeld
        go_wp2_with fail
        have hv0 : Below w8.heap.size w8 w8.drew := (Below.refl _ _).drew
        refine wp_region_held_drew (S := fun W => Below w8.heap.size w8 W) (by kernel_rfl) (hv0) (fun hHeld => ?_)
        refine wpAnyH_take (i := 0) (oi := { dst := some 70, op := Op.move (Operand.tmp 1), type := 22, pos := "law.go:90", after := #[], guard := none }) (v := ?v0_12001) rfl (by kernel_rfl) (by kernel_rfl) (by kernel_rfl) (fun _ _ _ h => h) (Or.inl ⟨by rfl, ?h0_12001⟩) (by assumption) ?r0_12001
        case h0_12001 =>
          intro W hSW
          try dsimp only at hSW
          go_simp
          try with_reducible rfl
        try simp only [Act.put, List.setIfInBounds_toArray, List.set_cons_zero, List.set_cons_succ]
        refine wpAnyH_take (i := 1) (oi := { dst := some 71, op := Op.move (Operand.tmp 2), type := 3, pos := "law.go:90", after := #[], guard := none }) (v := ?v1_12002) rfl (by kernel_rfl) (by kernel_rfl) (by kernel_rfl) (fun _ _ _ h => h) (Or.inl ⟨by rfl, ?h1_12002⟩) (by assumption) ?r1_12002
        case h1_12002 =>
          intro W hSW
          try dsimp only at hSW
          go_simp
          try with_reducible rfl
        try simp only [Act.put, List.setIfInBounds_toArray, List.set_cons_zero, List.set_cons_succ]
        refine wpAnyH_take (i := 2) (oi := { dst := some 72, op := Op.indexAddr 22 (Operand.tmp 70) (Operand.tmp 71), type := 0, pos := "law.go:90", after := #[{ on := 0, ground := Ground.data }, { on := 1, ground := Ground.data }], guard := none }) (v := ?v2_12003) rfl (by kernel_rfl) (by kernel_rfl) (by kernel_rfl) (fun _ _ _ h => h) (Or.inl ⟨by rfl, ?h2_12003⟩) (by assumption) ?r2_12003
        case h2_12003 =>
          intro W hSW
          try dsimp only at hSW
          go_simp
          try with_reducible rfl
        try simp only [Act.put, List.setIfInBounds_toArray, List.set_cons_zero, List.set_cons_succ]
        refine wpAnyH_take (i := 3) (oi := { dst := some 73, op := Op.load 3 (Operand.tmp 72), type := 3, pos := "law.go:90", after := #[{ on := 2, ground := Ground.data }], guard := none }) (v := ?v3_12004) rfl (by kernel_rfl) (by kernel_rfl) (by kernel_rfl) (fun _ _ _ h => h) (Or.inl ⟨by rfl, ?h3_12004⟩) (by assumption) ?r3_12004
        case h3_12004 =>
          intro W hSW
          try dsimp only at hSW
          have hcc := (hSW.cell (p := ⟨b, off + i, none⟩) HB1.out).trans CI1.out
          go_simp
          try with_reducible rfl
        try simp only [Act.put, List.setIfInBounds_toArray, List.set_cons_zero, List.set_cons_succ]
        refine wpAnyH_take (i := 4) (oi := { dst := some 74, op := Op.move (Operand.tmp 1), type := 22, pos := "law.go:90", after := #[], guard := none }) (v := ?v4_12005) rfl (by kernel_rfl) (by kernel_rfl) (by kernel_rfl) (fun _ _ _ h => h) (Or.inl ⟨by rfl, ?h4_12005⟩) (by assumption) ?r4_12005
        case h4_12005 =>
          intro W hSW
          try dsimp only at hSW
          go_simp
          try with_reducible rfl
        try simp only [Act.put, List.setIfInBounds_toArray, List.set_cons_zero, List.set_cons_succ]
        refine wpAnyH_take (i := 5) (oi := { dst := some 75, op := Op.move (Operand.tmp 3), type := 3, pos := "law.go:90", after := #[], guard := none }) (v := ?v5_12006) rfl (by kernel_rfl) (by kernel_rfl) (by kernel_rfl) (fun _ _ _ h => h) (Or.inl ⟨by rfl, ?h5_12006⟩) (by assumption) ?r5_12006
        case h5_12006 =>
          intro W hSW
          try dsimp only at hSW
          go_simp
          try with_reducible rfl
        try simp only [Act.put, List.setIfInBounds_toArray, List.set_cons_zero, List.set_cons_succ]
        refine wpAnyH_take (i := 6) (oi := { dst := some 76, op := Op.indexAddr 22 (Operand.tmp 74) (Operand.tmp 75), type := 0, pos := "law.go:90", after := #[{ on := 4, ground := Ground.data }, { on := 5, ground := Ground.data }], guard := none }) (v := ?v6_12007) rfl (by kernel_rfl) (by kernel_rfl) (by kernel_rfl) (fun _ _ _ h => h) (Or.inl ⟨by rfl, ?h6_12007⟩) (by assumption) ?r6_12007
        case h6_12007 =>
          intro W hSW
          try dsimp only at hSW
          go_simp
          try with_reducible rfl
        try simp only [Act.put, List.setIfInBounds_toArray, List.set_cons_zero, List.set_cons_succ]
        refine wpAnyH_take (i := 7) (oi := { dst := some 77, op := Op.load 3 (Operand.tmp 76), type := 3, pos := "law.go:90", after := #[{ on := 6, ground := Ground.data }], guard := none }) (v := ?v7_12008) rfl (by kernel_rfl) (by kernel_rfl) (by kernel_rfl) (fun _ _ _ h => h) (Or.inl ⟨by rfl, ?h7_12008⟩) (by assumption) ?r7_12008
        case h7_12008 =>
          intro W hSW
          try dsimp only at hSW
          have hcc := (hSW.cell (p := ⟨b, off + j, none⟩) HB1.out).trans CJ1.out
          go_simp
          try with_reducible rfl
        try simp only [Act.put, List.setIfInBounds_toArray, List.set_cons_zero, List.set_cons_succ]
        refine wpAnyH_take (i := 8) (oi := { dst := some 78, op := Op.binOp BinOp.eql 3 (Operand.tmp 73) (Operand.tmp 77) 3, type := 4, pos := "law.go:90", after := #[{ on := 3, ground := Ground.data }, { on := 7, ground := Ground.data }], guard := none }) (v := ?v8_12009) rfl (by kernel_rfl) (by kernel_rfl) (by kernel_rfl) (fun _ _ _ h => h) (Or.inl ⟨by rfl, ?h8_12009⟩) (by assumption) ?r8_12009
        case h8_12009 =>
          intro W hSW
          try dsimp only at hSW
          go_simp
          try with_reducible rfl
        try simp only [Act.put, List.setIfInBounds_toArray, List.set_cons_zero, List.set_cons_succ]
        refine wpAnyH_take (i := 9) (oi := { dst := some 79, op := Op.move (Operand.tmp 78), type := 4, pos := "law.go:90", after := #[{ on := 8, ground := Ground.data }], guard := none }) (v := ?v9_12010) rfl (by kernel_rfl) (by kernel_rfl) (by kernel_rfl) (fun _ _ _ h => h) (Or.inl ⟨by rfl, ?h9_12010⟩) (by assumption) ?r9_12010
        case h9_12010 =>
          intro W hSW
          try dsimp only at hSW
          go_simp
          try with_reducible rfl
        try simp only [Act.put, List.setIfInBounds_toArray, List.set_cons_zero, List.set_cons_succ]
        refine wpAnyH_take (i := 10) (oi := { dst := some 80, op := Op.move (Operand.tmp 2), type := 3, pos := "law.go:90", after := #[{ on := 9, ground := Ground.guard }], guard := some (9, true) }) (v := undef) rfl (by kernel_rfl) (by kernel_rfl) (by kernel_rfl) (fun _ _ _ h => h) (Or.inr ⟨by rfl, rfl⟩) (by assumption) ?_
        try simp only [Act.put, List.setIfInBounds_toArray, List.set_cons_zero, List.set_cons_succ]
        refine wpAnyH_take (i := 11) (oi := { dst := some 81, op := Op.move (Operand.tmp 3), type := 3, pos := "law.go:90", after := #[{ on := 9, ground := Ground.guard }], guard := some (9, true) }) (v := undef) rfl (by kernel_rfl) (by kernel_rfl) (by kernel_rfl) (fun _ _ _ h => h) (Or.inr ⟨by rfl, rfl⟩) (by assumption) ?_
        try simp only [Act.put, List.setIfInBounds_toArray, List.set_cons_zero, List.set_cons_succ]
        refine wpAnyH_take (i := 12) (oi := { dst := some 82, op := Op.binOp BinOp.lss 3 (Operand.tmp 80) (Operand.tmp 81) 3, type := 4, pos := "law.go:90", after := #[{ on := 10, ground := Ground.data }, { on := 11, ground := Ground.data }, { on := 9, ground := Ground.guard }], guard := some (9, true) }) (v := undef) rfl (by kernel_rfl) (by kernel_rfl) (by kernel_rfl) (fun _ _ _ h => h) (Or.inr ⟨by rfl, rfl⟩) (by assumption) ?_
        try simp only [Act.put, List.setIfInBounds_toArray, List.set_cons_zero, List.set_cons_succ]
        refine wpAnyH_take (i := 13) (oi := { dst := some 83, op := Op.pick (Operand.tmp 79) (Operand.tmp 82) (Operand.const (Value.bool false)), type := 4, pos := "law.go:90", after := #[{ on := 9, ground := Ground.data }, { on := 12, ground := Ground.data }], guard := none }) (v := ?v13_12014) rfl (by kernel_rfl) (by kernel_rfl) (by kernel_rfl) (fun _ _ _ h => h) (Or.inl ⟨by rfl, ?h13_12014⟩) (by assumption) ?r13_12014
        case h13_12014 =>
          intro W hSW
          try dsimp only at hSW
          go_simp
          try with_reducible rfl
        try simp only [Act.put, List.setIfInBounds_toArray, List.set_cons_zero, List.set_cons_succ]
        refine wpAnyH_done (by kernel_rfl) ?_ _
        clear hHeld
        go_wp2_with (go_at_call 8; refine (sanity_any _).mono ?_; rintro e ws_ ⟨rfl, bs_⟩)
        go_ret
        exact ⟨rfl, (HB.out.trans (hv0.mono HB.out.size)).trans (bs_.mono (by have := HB.out.size; have := hv0.size; omega))⟩
end Go.Proofs.Ytegjfobanjkimaa
