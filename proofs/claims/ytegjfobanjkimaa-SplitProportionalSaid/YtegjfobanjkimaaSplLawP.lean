/- The law SplitProportional: it returns true. Conditions: none beyond what each argument's type says. -/
import Derived.Test.YtegjfobanjkimaaSplF
namespace Go.Proofs.Ytegjfobanjkimaa
set_option linter.unusedVariables false
set_option linter.unusedSimpArgs false
open Go.RowKit
set_option maxRecDepth 100000 in
set_option maxHeartbeats 4000000 in
theorem lawPro (T : Int) (l_T : -9223372036854775808 ≤ T) (u_T : T ≤ 9223372036854775807) (A : Option Addr) (n c : Nat) (ws : List Int) (hl : ws.length = n) (nc : n ≤ c) (cc : c ≤ 140737488355328) (xr : ∀ x ∈ ws, -9223372036854775808 ≤ x ∧ x ≤ 9223372036854775807) (w : World) (rd : Rd w w.heap.size 1 A n (ivs ws)) :
    Calls Try.prog 5 #[.int .i64 T, .slice A n c] w fun e w' => e = .returned (.bool true) ∧ Below w.heap.size w w' := by
  clear xr
  by_cases h3 : n ≤ 300
  case neg =>
    have h31 : (300 : Int) < (n : Int) := by omega
    clear rd hl
    go_enter Try.func5, Try.ntmps5
    go_wp2_with (go_at_call 8; refine (sanity_any _).mono ?_; rintro e ws_ ⟨rfl, bs_⟩)
    go_ret
    exact ⟨rfl, bs_⟩
  case pos =>
  have h31 : (n : Int) ≤ 300 := by omega
  by_cases hv : 0 ≤ T ∧ T ≤ 2147483647 ∧ OkTo ws n ∧ Spl.sumTo (wOf ws) n ≠ 0
  case neg =>
    have HW := Lib.hid (weighted_bad T A n c ws hl (by omega) w.heap.size w rd (Nat.le_refl _) (not_val hv))
    clear rd hl hv
    go_enter Try.func5, Try.ntmps5
    go_wp2_with (first
      | (go_at_call 11; refine HW.out.mono ?_; rintro e w1 ⟨rfl, b1⟩)
      | (go_at_call 8; refine (sanity_any _).mono ?_; rintro e ws_ ⟨rfl, bs_⟩))
    go_ret
    exact ⟨rfl, b1.trans (bs_.mono b1.size)⟩
  case pos =>
  have HW := Lib.hid (weighted_ok T A n c ws hl (by omega) w.heap.size w rd (Nat.le_refl _) hv.1 hv.2.1 hv.2.2.1 hv.2.2.2)
  have HV := Lib.hid hv
  have HL := Lib.hid hl
  have HRD := Lib.hid rd
  have hsp := val_pos hv
  clear rd hl hv
  go_enter Try.func5, Try.ntmps5
  go_wp2_with (go_at_call 11; refine HW.out.mono ?_; rintro e w1 ⟨g, c', p, k, rfl, hc', F1, O, hk, hkn, hg, b1⟩)
  have HO := Lib.hid O
  have HF := Lib.hid F1
  have HB := Lib.hid b1
  have HK := Lib.hid (And.intro hk hkn)
  obtain ⟨S, hS⟩ : ∃ S, Spl.sumTo (wOf ws) n = S := ⟨_, rfl⟩
  have HS := Lib.hid hS
  rw [hS] at hsp
  obtain ⟨s0, s1⟩ := hsp
  have HR1 := Lib.hid (HRD.out.below b1)
  clear hk O F1 b1 hkn hg hS
  go_loop [7, 8] (fun u7 u8 => ∃ i : Nat, i ≤ n ∧ u7 = .int .i64 (Spl.sumTo (wOf ws) i) ∧ u8 = .int .i64 i) (fun _ u8 => n - (intOf u8).toNat)
  case atStart => exact ⟨0, Nat.zero_le _, rfl, rfl⟩
  case round =>
    obtain ⟨i, hi, rfl, rfl⟩ := hrel
    by_cases hlt : i < n
    · obtain ⟨b, off, rfl, _, hc⟩ := HR1.out.int HL.out (by omega)
      have hci := hc i hlt
      have i0 : (0 : Int) ≤ (i : Int) := by omega
      have i1 : (i : Int) < (n : Int) := by omega
      have hsu : Spl.sumTo (wOf ws) (i + 1) = Spl.sumTo (wOf ws) i + ws.getD i 0 := rfl
      have hr := HV.out.2.2.1.sum_le (k := i + 1) (by omega)
      rw [hsu] at hr
      have m1 : IntKind.i64.wrap (Spl.sumTo (wOf ws) i + ws.getD i 0) = Spl.sumTo (wOf ws) i + ws.getD i 0 := IntWalk.i64_in _ (by omega)
      have HSU := Lib.hid hsu
      obtain ⟨x, hx⟩ : ∃ x, ws.getD i 0 = x := ⟨_, rfl⟩
      rw [hx] at hci m1 HSU
      clear hc hsu hr hx
      go_wp2_with fail
      go_round
      case rel => exact ⟨i + 1, by omega, by rw [HSU.out], by go_num⟩
      case measure => simp [intOf]; omega
    · obtain rfl : i = n := by omega
      rw [HS.out]
      go_wp2_with fail
      go_loopw [9] (fun u9 wr => ∃ j : Nat, j ≤ i ∧ u9 = .int .i64 j ∧ Below w1.heap.size w1 wr) (fun u9 _ => i - (intOf u9).toNat)
      case atStart => exact ⟨0, Nat.zero_le _, rfl, Below.refl _ _⟩
      case round =>
        obtain ⟨j, hj, rfl, hbr⟩ := hrel
        have HBR := Lib.hid hbr
        by_cases hlt2 : j < i
        · obtain ⟨b, off, rfl, hbb, hc⟩ := (HR1.out.below (hbr.mono HB.out.size)).int HL.out (by omega)
          have c1 := hc j hlt2
          have c2 := (HF.out.below hbr).cell j hlt2
          have hr := sh_range HL.out HV.out HO.out HK.out.2 hlt2
          have hm := (vw_of HL.out HV.out.1 HV.out.2.1 HV.out.2.2.1 (by rw [HS.out]; exact s0) (by rw [HS.out]; exact s1)).1.mul j
          have hn := Spl.near (T := T) (W := Spl.sumTo (wOf ws) i) (w := wOf ws) rfl (by rw [HS.out]; exact s0) HO.out HK.out.1 HK.out.2 (i := j)
          have he := sh_eq HO.out HK.out.2 hlt2
          unfold wOf at hn
          unfold wOf at he
          rw [← he] at hn
          have e1 : (Spl.bump p (baseL T (Spl.sumTo (wOf ws) i) ws i) k).getD j 0 = shOf T ws i p k j := rfl
          rw [e1] at c2
          have hS' : Spl.sumTo (fun t => ws.getD t 0) i = S := HS.out
          rw [hS'] at hn
          obtain ⟨a, ha⟩ : ∃ a, shOf T ws i p k j = a := ⟨_, rfl⟩
          obtain ⟨x, hx⟩ : ∃ x, ws.getD j 0 = x := ⟨_, rfl⟩
          rw [ha] at c2 hr hn
          rw [hx] at c1 hm hn
          have haS : 0 ≤ a * S ∧ a * S ≤ 4611686018427387904 := by
            refine ⟨Int.mul_nonneg hr.1 (by omega), ?_⟩
            have h1 : a * S ≤ a * 2147483647 := Int.mul_le_mul_of_nonneg_left s1 hr.1
            have h2 : a * 2147483647 ≤ 2147483648 * 2147483647 := Int.mul_le_mul_of_nonneg_right (by have := HV.out.2.1; omega) (by decide)
            omega
          have m1 : IntKind.i64.wrap (a * S) = a * S := IntWalk.i64_in _ (by omega)
          have m2 : IntKind.i64.wrap (T * x) = T * x := IntWalk.i64_in _ (by omega)
          obtain ⟨pa, hpa⟩ : ∃ y, a * S = y := ⟨_, rfl⟩
          obtain ⟨px, hpx⟩ : ∃ y, T * x = y := ⟨_, rfl⟩
          rw [hpa] at hn m1
          rw [hpx] at hn m2
          have m3 : IntKind.i64.wrap (pa - px) = pa - px := IntWalk.i64_in _ (by omega)
          have m4 : IntKind.i64.wrap (-S) = -S := IntWalk.i64_in _ (by omega)
          obtain ⟨dv, hdv⟩ : ∃ y, pa - px = y := ⟨_, rfl⟩
          rw [hdv] at hn m3
          have d1 : ¬ (dv ≤ -S) := by omega
          have d2 : ¬ (S ≤ dv) := by omega
          have i0 : (0 : Int) ≤ (j : Int) := by omega
          have i1 : (j : Int) < (i : Int) := by omega
          have i2 : (j : Int) < (c' : Int) := by omega
          have HC1 := Lib.hid c1
          have HC2 := Lib.hid c2
          have HG := Lib.hid (HF.out.below hbr).lt
          have HBB := Lib.hid (Nat.lt_of_lt_of_le hbb (Nat.le_trans HB.out.size hbr.size))
          clear hc hr hm hn he e1 hS' ha hx haS c1 c2 hbb hbr
          go_wp2_with fail
          have hv0 : Below wr.heap.size wr wr.drew := (Below.refl _ _).drew
          refine wp_region_held_drew (S := fun W => Below wr.heap.size wr W) (by kernel_rfl) (hv0) (fun hHeld => ?_)
          refine wpAnyH_take (i := 0) (oi := { dst := some 52, op := Op.move (Operand.tmp 5), type := 22, pos := "law.go:67", after := #[], guard := none }) (v := ?v0_1001) rfl (by kernel_rfl) (by kernel_rfl) (by kernel_rfl) (fun _ _ _ h => h) (Or.inl ⟨by rfl, ?h0_1001⟩) (by assumption) ?r0_1001
          case h0_1001 =>
            intro W hSW
            try dsimp only at hSW
            go_simp
            try with_reducible rfl
          try simp only [Act.put, List.setIfInBounds_toArray, List.set_cons_zero, List.set_cons_succ]
          refine wpAnyH_take (i := 1) (oi := { dst := some 53, op := Op.move (Operand.tmp 9), type := 3, pos := "law.go:67", after := #[], guard := none }) (v := ?v1_1002) rfl (by kernel_rfl) (by kernel_rfl) (by kernel_rfl) (fun _ _ _ h => h) (Or.inl ⟨by rfl, ?h1_1002⟩) (by assumption) ?r1_1002
          case h1_1002 =>
            intro W hSW
            try dsimp only at hSW
            go_simp
            try with_reducible rfl
          try simp only [Act.put, List.setIfInBounds_toArray, List.set_cons_zero, List.set_cons_succ]
          refine wpAnyH_take (i := 2) (oi := { dst := some 54, op := Op.indexAddr 22 (Operand.tmp 52) (Operand.tmp 53), type := 0, pos := "law.go:67", after := #[{ on := 0, ground := Ground.data }, { on := 1, ground := Ground.data }], guard := none }) (v := ?v2_1003) rfl (by kernel_rfl) (by kernel_rfl) (by kernel_rfl) (fun _ _ _ h => h) (Or.inl ⟨by rfl, ?h2_1003⟩) (by assumption) ?r2_1003
          case h2_1003 =>
            intro W hSW
            try dsimp only at hSW
            go_simp
            try with_reducible rfl
          try simp only [Act.put, List.setIfInBounds_toArray, List.set_cons_zero, List.set_cons_succ]
          refine wpAnyH_take (i := 3) (oi := { dst := some 55, op := Op.load 3 (Operand.tmp 54), type := 3, pos := "law.go:67", after := #[{ on := 2, ground := Ground.data }], guard := none }) (v := ?v3_1004) rfl (by kernel_rfl) (by kernel_rfl) (by kernel_rfl) (fun _ _ _ h => h) (Or.inl ⟨by rfl, ?h3_1004⟩) (by assumption) ?r3_1004
          case h3_1004 =>
            intro W hSW
            try dsimp only at hSW
            have hcc := (hSW.cell (p := ⟨g, j, none⟩) HG.out).trans HC2.out
            go_simp
            try with_reducible rfl
          try simp only [Act.put, List.setIfInBounds_toArray, List.set_cons_zero, List.set_cons_succ]
          refine wpAnyH_take (i := 4) (oi := { dst := some 56, op := Op.move (Operand.tmp 7), type := 3, pos := "law.go:67", after := #[], guard := none }) (v := ?v4_1005) rfl (by kernel_rfl) (by kernel_rfl) (by kernel_rfl) (fun _ _ _ h => h) (Or.inl ⟨by rfl, ?h4_1005⟩) (by assumption) ?r4_1005
          case h4_1005 =>
            intro W hSW
            try dsimp only at hSW
            go_simp
            try with_reducible rfl
          try simp only [Act.put, List.setIfInBounds_toArray, List.set_cons_zero, List.set_cons_succ]
          refine wpAnyH_take (i := 5) (oi := { dst := some 57, op := Op.binOp BinOp.mul 3 (Operand.tmp 55) (Operand.tmp 56) 3, type := 3, pos := "law.go:67", after := #[{ on := 3, ground := Ground.data }, { on := 4, ground := Ground.data }], guard := none }) (v := ?v5_1006) rfl (by kernel_rfl) (by kernel_rfl) (by kernel_rfl) (fun _ _ _ h => h) (Or.inl ⟨by rfl, ?h5_1006⟩) (by assumption) ?r5_1006
          case h5_1006 =>
            intro W hSW
            try dsimp only at hSW
            go_simp
            try with_reducible rfl
          try simp only [Act.put, List.setIfInBounds_toArray, List.set_cons_zero, List.set_cons_succ]
          refine wpAnyH_take (i := 6) (oi := { dst := some 58, op := Op.move (Operand.tmp 0), type := 3, pos := "law.go:67", after := #[], guard := none }) (v := ?v6_1007) rfl (by kernel_rfl) (by kernel_rfl) (by kernel_rfl) (fun _ _ _ h => h) (Or.inl ⟨by rfl, ?h6_1007⟩) (by assumption) ?r6_1007
          case h6_1007 =>
            intro W hSW
            try dsimp only at hSW
            go_simp
            try with_reducible rfl
          try simp only [Act.put, List.setIfInBounds_toArray, List.set_cons_zero, List.set_cons_succ]
          refine wpAnyH_take (i := 7) (oi := { dst := some 59, op := Op.move (Operand.tmp 1), type := 22, pos := "law.go:67", after := #[], guard := none }) (v := ?v7_1008) rfl (by kernel_rfl) (by kernel_rfl) (by kernel_rfl) (fun _ _ _ h => h) (Or.inl ⟨by rfl, ?h7_1008⟩) (by assumption) ?r7_1008
          case h7_1008 =>
            intro W hSW
            try dsimp only at hSW
            go_simp
            try with_reducible rfl
          try simp only [Act.put, List.setIfInBounds_toArray, List.set_cons_zero, List.set_cons_succ]
          refine wpAnyH_take (i := 8) (oi := { dst := some 60, op := Op.move (Operand.tmp 9), type := 3, pos := "law.go:67", after := #[], guard := none }) (v := ?v8_1009) rfl (by kernel_rfl) (by kernel_rfl) (by kernel_rfl) (fun _ _ _ h => h) (Or.inl ⟨by rfl, ?h8_1009⟩) (by assumption) ?r8_1009
          case h8_1009 =>
            intro W hSW
            try dsimp only at hSW
            go_simp
            try with_reducible rfl
          try simp only [Act.put, List.setIfInBounds_toArray, List.set_cons_zero, List.set_cons_succ]
          refine wpAnyH_take (i := 9) (oi := { dst := some 61, op := Op.indexAddr 22 (Operand.tmp 59) (Operand.tmp 60), type := 0, pos := "law.go:67", after := #[{ on := 7, ground := Ground.data }, { on := 8, ground := Ground.data }], guard := none }) (v := ?v9_1010) rfl (by kernel_rfl) (by kernel_rfl) (by kernel_rfl) (fun _ _ _ h => h) (Or.inl ⟨by rfl, ?h9_1010⟩) (by assumption) ?r9_1010
          case h9_1010 =>
            intro W hSW
            try dsimp only at hSW
            go_simp
            try with_reducible rfl
          try simp only [Act.put, List.setIfInBounds_toArray, List.set_cons_zero, List.set_cons_succ]
          refine wpAnyH_take (i := 10) (oi := { dst := some 62, op := Op.load 3 (Operand.tmp 61), type := 3, pos := "law.go:67", after := #[{ on := 9, ground := Ground.data }], guard := none }) (v := ?v10_1011) rfl (by kernel_rfl) (by kernel_rfl) (by kernel_rfl) (fun _ _ _ h => h) (Or.inl ⟨by rfl, ?h10_1011⟩) (by assumption) ?r10_1011
          case h10_1011 =>
            intro W hSW
            try dsimp only at hSW
            have hcc := (hSW.cell (p := ⟨b, off + j, none⟩) HBB.out).trans HC1.out
            go_simp
            try with_reducible rfl
          try simp only [Act.put, List.setIfInBounds_toArray, List.set_cons_zero, List.set_cons_succ]
          refine wpAnyH_take (i := 11) (oi := { dst := some 63, op := Op.binOp BinOp.mul 3 (Operand.tmp 58) (Operand.tmp 62) 3, type := 3, pos := "law.go:67", after := #[{ on := 6, ground := Ground.data }, { on := 10, ground := Ground.data }], guard := none }) (v := ?v11_1012) rfl (by kernel_rfl) (by kernel_rfl) (by kernel_rfl) (fun _ _ _ h => h) (Or.inl ⟨by rfl, ?h11_1012⟩) (by assumption) ?r11_1012
          case h11_1012 =>
            intro W hSW
            try dsimp only at hSW
            go_simp
            try with_reducible rfl
          try simp only [Act.put, List.setIfInBounds_toArray, List.set_cons_zero, List.set_cons_succ]
          refine wpAnyH_take (i := 12) (oi := { dst := some 64, op := Op.binOp BinOp.sub 3 (Operand.tmp 57) (Operand.tmp 63) 3, type := 3, pos := "law.go:67", after := #[{ on := 5, ground := Ground.data }, { on := 11, ground := Ground.data }], guard := none }) (v := ?v12_1013) rfl (by kernel_rfl) (by kernel_rfl) (by kernel_rfl) (fun _ _ _ h => h) (Or.inl ⟨by rfl, ?h12_1013⟩) (by assumption) ?r12_1013
          case h12_1013 =>
            intro W hSW
            try dsimp only at hSW
            go_simp
            try with_reducible rfl
          try simp only [Act.put, List.setIfInBounds_toArray, List.set_cons_zero, List.set_cons_succ]
          refine wpAnyH_take (i := 13) (oi := { dst := some 10, op := Op.assign (Operand.tmp 64), type := 3, pos := "law.go:67", after := #[{ on := 12, ground := Ground.data }, { on := 0, ground := Ground.phase }, { on := 1, ground := Ground.phase }, { on := 2, ground := Ground.phase }, { on := 3, ground := Ground.phase }, { on := 4, ground := Ground.phase }, { on := 5, ground := Ground.phase }, { on := 6, ground := Ground.phase }, { on := 7, ground := Ground.phase }, { on := 8, ground := Ground.phase }, { on := 9, ground := Ground.phase }, { on := 10, ground := Ground.phase }, { on := 11, ground := Ground.phase }, { on := 12, ground := Ground.phase }], guard := none }) (v := ?v13_1014) rfl (by kernel_rfl) (by kernel_rfl) (by kernel_rfl) (fun _ _ _ h => h) (Or.inl ⟨by rfl, ?h13_1014⟩) (by assumption) ?r13_1014
          case h13_1014 =>
            intro W hSW
            try dsimp only at hSW
            go_simp
            try with_reducible rfl
          try simp only [Act.put, List.setIfInBounds_toArray, List.set_cons_zero, List.set_cons_succ]
          refine wpAnyH_done (by kernel_rfl) ?_ _
          go_wp2_with fail
          go_roundw
          case rel => exact ⟨j + 1, by omega, by go_num, HBR.out.trans (hv0.mono HBR.out.size)⟩
          case measure => simp [intOf]; omega
        · obtain rfl : j = i := by omega
          clear hbr
          go_wp2_with (go_at_call 8; refine (sanity_any _).mono ?_; rintro e ws_ ⟨rfl, bs_⟩)
          go_ret
          exact ⟨rfl, (HB.out.trans (HBR.out.mono HB.out.size)).trans (bs_.mono (by have := HB.out.size; have := HBR.out.size; omega))⟩
end Go.Proofs.Ytegjfobanjkimaa
