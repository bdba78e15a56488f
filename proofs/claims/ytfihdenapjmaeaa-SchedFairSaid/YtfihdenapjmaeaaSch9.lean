/- The best one of some tasks of a kind: a walk of layer 37's best. Conditions: the indices are of tasks; at most 1000 of either. -/
import Derived.Test.YtfihdenapjmaeaaSch6
namespace Go.Proofs.Ytfihdenapjmaeaa
set_option linter.unusedVariables false
set_option linter.unusedSimpArgs false
open Go.RowKit
theorem fit_urg'' {k : Int} {t : Sc.Tk} (h : Sc.fit k Sc.urg t = true) : Sc.fit k Sc.can t = true := by
  simp [Sc.fit, Sc.urg, Sc.can] at *; omega
set_option maxRecDepth 100000 in
set_option maxHeartbeats 4000000 in
theorem best_cann (kd : Int) (hk : kd ≠ 1) (A : Option Addr) (n c : Nat) (L : List Sc.Tk) (hL : L.length = n) (hn : n ≤ 1000) (A2 : Option Addr) (m c2 : Nat) (ks : List Nat) (hkl : ks.length = m) (hm : m ≤ 1000) (hks : ∀ k ∈ ks, k < n) (B B2 : Nat) (w : World) (hr : Rd w B 5 A n (L.flatMap tcs)) (hr2 : Rd w B2 1 A2 m (nvs ks)) (hB : B ≤ w.heap.size) (hB2 : B2 ≤ w.heap.size) :
    Calls Try.prog 30 #[.slice A n c, .slice A2 m c2, .int .i64 kd, (.func (.func 35) #[] #[])] w fun e w' => e = .returned (.int .i64 (Sc.best L ks kd Sc.can)) ∧ Below w.heap.size w w' := by
  go_enter Try.func30, Try.ntmps30
  go_wp2_with (go_at_call 37; refine (comparison_n kd hk _).mono ?_; rintro e w1 ⟨rfl, b1⟩)
  go_loopw [10, 17] (fun u10 u17 wr => ∃ j : Nat, j ≤ m ∧ u10 = .int .i64 (Sc.best L (ks.take j) kd Sc.can) ∧ u17 = .int .i64 j ∧ Below w.heap.size w wr) (fun _ u17 _ => m - (intOf u17).toNat)
  case atStart => exact ⟨0, Nat.zero_le _, rfl, rfl, b1⟩
  case round =>
    clear b1
    obtain ⟨j, hj, rfl, rfl, hb⟩ := hrel
    by_cases hlt : j < m
    · have hjk : j < ks.length := by omega
      obtain ⟨b2, off2, rfl, hb2, hk2⟩ := (hr2.below (hb.mono hB2)).get hjk
      have hkn : ks[j] < n := hks _ (List.getElem_mem hjk)
      obtain ⟨b, off, rfl, hb0, hc⟩ := (hr.below (hb.mono hB)).tk hL (by omega)
      have hsn := Sc.best_snoc L (ks.take j) ks[j] kd Sc.can
      rw [← List.take_succ_eq_append_getElem hjk] at hsn
      have hor := Sc.best_or L (ks.take j) kd Sc.can
      have hks' : ∀ k ∈ ks.take j, k < n := fun k hk => hks k (List.mem_of_mem_take hk)
      obtain ⟨o, ho⟩ : ∃ o, Sc.best L (ks.take j) kd Sc.can = o := ⟨_, rfl⟩
      rw [ho] at hsn hor ⊢
      obtain ⟨res, hres⟩ : ∃ o, Sc.best L (ks.take (j + 1)) kd Sc.can = o := ⟨_, rfl⟩
      rw [hres] at hsn
      have HRES := Lib.hid hres
      have HSN := Lib.hid hsn
      have HOR := Lib.hid hor
      have HKS := Lib.hid hks'
      have HC := Lib.hid hc
      generalize ks[j] = k at *
      have hbw : b < wr.heap.size := Nat.lt_of_lt_of_le hb0 (Nat.le_trans hB hb.size)
      have HBW := Lib.hid hbw
      have HB := Lib.hid hb
      obtain ⟨t, ht⟩ : ∃ t, Sc.atK L k = t := ⟨_, rfl⟩
      have hck := hc k hkn
      rw [ht] at hck
      have HT := Lib.hid ht
      have HIS := Lib.hid (fun W => can_any t W)
      have HCP := Lib.hid (fun (u : Sc.Tk) (h1 : Sc.fit kd Sc.can t = true) (h2 : Sc.fit kd Sc.can u = true) W => pla_cmp kd hk t u W)
      obtain ⟨isv, hisv⟩ : ∃ v, Sc.can t = v := ⟨_, rfl⟩
      rw [hisv] at HIS
      have HISV := Lib.hid hisv
      obtain ⟨kind, row, grp, left, bad⟩ := t
      simp only [] at hck
      have C0 := Lib.hid hck.1
      have C1 := Lib.hid hck.2.1
      have C2 := Lib.hid hck.2.2.1
      have C3 := Lib.hid hck.2.2.2.1
      have C4 := Lib.hid hck.2.2.2.2
      have i0 : (0 : Int) ≤ (k : Int) := by omega
      have i1 : (k : Int) < (n : Int) := by omega
      clear hres hsn hor hks' hc hck ht hisv hks hr hr2 hkl hjk ho hb hbw hb0 hB hB2 hb2
      by_cases hkd : kind = kd
      case neg =>
        have e1 : (kind == kd) = false := by simpa using hkd
        have HV : Hid (res = o) := Lib.hid (by rw [HSN.out]; unfold Sc.pick Sc.fit; rw [HT.out]; simp [hkd])
        clear hkd
        go_wp2_with fail
        have hv0 : Below wr.heap.size wr wr.drew := (Below.refl _ _).drew
        refine wp_region_held_drew (S := fun W => Below wr.heap.size wr W) (by kernel_rfl) (hv0) (fun hHeld => ?_)
        refine wpAnyH_take (i := 0) (oi := { dst := some 21, op := Op.move (Operand.tmp 0), type := 30, pos := "schedule.go:89", after := #[], guard := none }) (v := ?v0_1001) rfl (by kernel_rfl) (by kernel_rfl) (by kernel_rfl) (fun _ _ _ h => h) (Or.inl ⟨by rfl, ?h0_1001⟩) (by assumption) ?r0_1001
        case h0_1001 =>
          intro W hSW
          try dsimp only at hSW
          go_simp
          try with_reducible rfl
        try simp only [Act.put, List.setIfInBounds_toArray, List.set_cons_zero, List.set_cons_succ]
        refine wpAnyH_take (i := 1) (oi := { dst := some 22, op := Op.move (Operand.tmp 12), type := 3, pos := "schedule.go:89", after := #[], guard := none }) (v := ?v1_1002) rfl (by kernel_rfl) (by kernel_rfl) (by kernel_rfl) (fun _ _ _ h => h) (Or.inl ⟨by rfl, ?h1_1002⟩) (by assumption) ?r1_1002
        case h1_1002 =>
          intro W hSW
          try dsimp only at hSW
          go_simp
          try with_reducible rfl
        try simp only [Act.put, List.setIfInBounds_toArray, List.set_cons_zero, List.set_cons_succ]
        refine wpAnyH_take (i := 2) (oi := { dst := some 23, op := Op.indexAddr 30 (Operand.tmp 21) (Operand.tmp 22), type := 0, pos := "schedule.go:89", after := #[{ on := 0, ground := Ground.data }, { on := 1, ground := Ground.data }], guard := none }) (v := ?v2_1003) rfl (by kernel_rfl) (by kernel_rfl) (by kernel_rfl) (fun _ _ _ h => h) (Or.inl ⟨by rfl, ?h2_1003⟩) (by assumption) ?r2_1003
        case h2_1003 =>
          intro W hSW
          try dsimp only at hSW
          go_simp
          try with_reducible rfl
        try simp only [Act.put, List.setIfInBounds_toArray, List.set_cons_zero, List.set_cons_succ]
        refine wpAnyH_take (i := 3) (oi := { dst := some 24, op := Op.fieldAddr 58 (Operand.tmp 23) 0, type := 0, pos := "schedule.go:89", after := #[{ on := 2, ground := Ground.data }], guard := none }) (v := ?v3_1004) rfl (by kernel_rfl) (by kernel_rfl) (by kernel_rfl) (fun _ _ _ h => h) (Or.inl ⟨by rfl, ?h3_1004⟩) (by assumption) ?r3_1004
        case h3_1004 =>
          intro W hSW
          try dsimp only at hSW
          go_simp
          try with_reducible rfl
        try simp only [Act.put, List.setIfInBounds_toArray, List.set_cons_zero, List.set_cons_succ]
        refine wpAnyH_take (i := 4) (oi := { dst := some 25, op := Op.load 3 (Operand.tmp 24), type := 3, pos := "schedule.go:89", after := #[{ on := 3, ground := Ground.data }], guard := none }) (v := ?v4_1005) rfl (by kernel_rfl) (by kernel_rfl) (by kernel_rfl) (fun _ _ _ h => h) (Or.inl ⟨by rfl, ?h4_1005⟩) (by assumption) ?r4_1005
        case h4_1005 =>
          intro W hSW
          try dsimp only at hSW
          have hcc := (hSW.cell (p := ⟨b, off + k * 5, none⟩) HBW.out).trans C0.out
          go_simp
          try with_reducible rfl
        try simp only [Act.put, List.setIfInBounds_toArray, List.set_cons_zero, List.set_cons_succ]
        refine wpAnyH_take (i := 5) (oi := { dst := some 26, op := Op.move (Operand.tmp 2), type := 3, pos := "schedule.go:89", after := #[], guard := none }) (v := ?v5_1006) rfl (by kernel_rfl) (by kernel_rfl) (by kernel_rfl) (fun _ _ _ h => h) (Or.inl ⟨by rfl, ?h5_1006⟩) (by assumption) ?r5_1006
        case h5_1006 =>
          intro W hSW
          try dsimp only at hSW
          go_simp
          try with_reducible rfl
        try simp only [Act.put, List.setIfInBounds_toArray, List.set_cons_zero, List.set_cons_succ]
        refine wpAnyH_take (i := 6) (oi := { dst := some 27, op := Op.binOp BinOp.eql 3 (Operand.tmp 25) (Operand.tmp 26) 3, type := 4, pos := "schedule.go:89", after := #[{ on := 4, ground := Ground.data }, { on := 5, ground := Ground.data }], guard := none }) (v := ?v6_1007) rfl (by kernel_rfl) (by kernel_rfl) (by kernel_rfl) (fun _ _ _ h => h) (Or.inl ⟨by rfl, ?h6_1007⟩) (by assumption) ?r6_1007
        case h6_1007 =>
          intro W hSW
          try dsimp only at hSW
          go_simp
          try with_reducible rfl
        try simp only [Act.put, List.setIfInBounds_toArray, List.set_cons_zero, List.set_cons_succ]
        refine wpAnyH_take (i := 7) (oi := { dst := some 28, op := Op.move (Operand.tmp 27), type := 4, pos := "schedule.go:89", after := #[{ on := 6, ground := Ground.data }], guard := none }) (v := ?v7_1008) rfl (by kernel_rfl) (by kernel_rfl) (by kernel_rfl) (fun _ _ _ h => h) (Or.inl ⟨by rfl, ?h7_1008⟩) (by assumption) ?r7_1008
        case h7_1008 =>
          intro W hSW
          try dsimp only at hSW
          go_simp
          try with_reducible rfl
        try simp only [Act.put, List.setIfInBounds_toArray, List.set_cons_zero, List.set_cons_succ]
        refine wpAnyH_take (i := 8) (oi := { dst := some 29, op := Op.move (Operand.tmp 3), type := 67, pos := "schedule.go:89", after := #[{ on := 7, ground := Ground.guard }], guard := some (7, true) }) (v := undef) rfl (by kernel_rfl) (by kernel_rfl) (by kernel_rfl) (fun _ _ _ h => h) (Or.inr ⟨by rfl, rfl⟩) (by assumption) ?_
        try simp only [Act.put, List.setIfInBounds_toArray, List.set_cons_zero, List.set_cons_succ]
        refine wpAnyH_take (i := 9) (oi := { dst := some 30, op := Op.move (Operand.tmp 0), type := 30, pos := "schedule.go:89", after := #[{ on := 7, ground := Ground.guard }], guard := some (7, true) }) (v := undef) rfl (by kernel_rfl) (by kernel_rfl) (by kernel_rfl) (fun _ _ _ h => h) (Or.inr ⟨by rfl, rfl⟩) (by assumption) ?_
        try simp only [Act.put, List.setIfInBounds_toArray, List.set_cons_zero, List.set_cons_succ]
        refine wpAnyH_take (i := 10) (oi := { dst := some 31, op := Op.move (Operand.tmp 12), type := 3, pos := "schedule.go:89", after := #[{ on := 7, ground := Ground.guard }], guard := some (7, true) }) (v := undef) rfl (by kernel_rfl) (by kernel_rfl) (by kernel_rfl) (fun _ _ _ h => h) (Or.inr ⟨by rfl, rfl⟩) (by assumption) ?_
        try simp only [Act.put, List.setIfInBounds_toArray, List.set_cons_zero, List.set_cons_succ]
        refine wpAnyH_take (i := 11) (oi := { dst := some 32, op := Op.indexAddr 30 (Operand.tmp 30) (Operand.tmp 31), type := 0, pos := "schedule.go:89", after := #[{ on := 9, ground := Ground.data }, { on := 10, ground := Ground.data }, { on := 7, ground := Ground.guard }], guard := some (7, true) }) (v := undef) rfl (by kernel_rfl) (by kernel_rfl) (by kernel_rfl) (fun _ _ _ h => h) (Or.inr ⟨by rfl, rfl⟩) (by assumption) ?_
        try simp only [Act.put, List.setIfInBounds_toArray, List.set_cons_zero, List.set_cons_succ]
        refine wpAnyH_take (i := 12) (oi := { dst := some 33, op := Op.load 58 (Operand.tmp 32), type := 58, pos := "schedule.go:89", after := #[{ on := 11, ground := Ground.data }, { on := 7, ground := Ground.guard }], guard := some (7, true) }) (v := undef) rfl (by kernel_rfl) (by kernel_rfl) (by kernel_rfl) (fun _ _ _ h => h) (Or.inr ⟨by rfl, rfl⟩) (by assumption) ?_
        try simp only [Act.put, List.setIfInBounds_toArray, List.set_cons_zero, List.set_cons_succ]
        refine wpAnyH_take (i := 13) (oi := { dst := some 34, op := Op.call { callee := Callee.value (Operand.tmp 29), args := #[Operand.tmp 33], argTypes := #[58] }, type := 4, pos := "schedule.go:89", after := #[{ on := 8, ground := Ground.data }, { on := 12, ground := Ground.data }, { on := 7, ground := Ground.chain }, { on := 7, ground := Ground.guard }], guard := some (7, true) }) (v := undef) rfl (by kernel_rfl) (by kernel_rfl) (by kernel_rfl) (fun _ _ _ h => h) (Or.inr ⟨by rfl, rfl⟩) (by assumption) ?_
        try simp only [Act.put, List.setIfInBounds_toArray, List.set_cons_zero, List.set_cons_succ]
        refine wpAnyH_take (i := 14) (oi := { dst := some 35, op := Op.pick (Operand.tmp 28) (Operand.tmp 34) (Operand.const (Value.bool false)), type := 4, pos := "schedule.go:89", after := #[{ on := 7, ground := Ground.data }, { on := 13, ground := Ground.data }], guard := none }) (v := ?v14_1015) rfl (by kernel_rfl) (by kernel_rfl) (by kernel_rfl) (fun _ _ _ h => h) (Or.inl ⟨by rfl, ?h14_1015⟩) (by assumption) ?r14_1015
        case h14_1015 =>
          intro W hSW
          try dsimp only at hSW
          go_simp
          try with_reducible rfl
        try simp only [Act.put, List.setIfInBounds_toArray, List.set_cons_zero, List.set_cons_succ]
        refine wpAnyH_take (i := 15) (oi := { dst := some 36, op := Op.move (Operand.tmp 35), type := 4, pos := "schedule.go:89", after := #[{ on := 14, ground := Ground.data }, { on := 13, ground := Ground.chain }], guard := none }) (v := ?v15_1016) rfl (by kernel_rfl) (by kernel_rfl) (by kernel_rfl) (fun _ _ _ h => h) (Or.inl ⟨by rfl, ?h15_1016⟩) (by assumption) ?r15_1016
        case h15_1016 =>
          intro W hSW
          try dsimp only at hSW
          go_simp
          try with_reducible rfl
        try simp only [Act.put, List.setIfInBounds_toArray, List.set_cons_zero, List.set_cons_succ]
        refine wpAnyH_take (i := 16) (oi := { dst := some 37, op := Op.move (Operand.tmp 10), type := 3, pos := "schedule.go:89", after := #[{ on := 15, ground := Ground.guard }], guard := some (15, true) }) (v := undef) rfl (by kernel_rfl) (by kernel_rfl) (by kernel_rfl) (fun _ _ _ h => h) (Or.inr ⟨by rfl, rfl⟩) (by assumption) ?_
        try simp only [Act.put, List.setIfInBounds_toArray, List.set_cons_zero, List.set_cons_succ]
        refine wpAnyH_take (i := 17) (oi := { dst := some 38, op := Op.binOp BinOp.lss 3 (Operand.tmp 37) (Operand.const (Value.int IntKind.i64 0)) 3, type := 4, pos := "schedule.go:89", after := #[{ on := 16, ground := Ground.data }, { on := 15, ground := Ground.guard }], guard := some (15, true) }) (v := undef) rfl (by kernel_rfl) (by kernel_rfl) (by kernel_rfl) (fun _ _ _ h => h) (Or.inr ⟨by rfl, rfl⟩) (by assumption) ?_
        try simp only [Act.put, List.setIfInBounds_toArray, List.set_cons_zero, List.set_cons_succ]
        refine wpAnyH_take (i := 18) (oi := { dst := some 39, op := Op.move (Operand.tmp 38), type := 4, pos := "schedule.go:89", after := #[{ on := 17, ground := Ground.data }, { on := 15, ground := Ground.chain }, { on := 15, ground := Ground.guard }], guard := some (15, true) }) (v := undef) rfl (by kernel_rfl) (by kernel_rfl) (by kernel_rfl) (fun _ _ _ h => h) (Or.inr ⟨by rfl, rfl⟩) (by assumption) ?_
        try simp only [Act.put, List.setIfInBounds_toArray, List.set_cons_zero, List.set_cons_succ]
        refine wpAnyH_take (i := 19) (oi := { dst := some 40, op := Op.move (Operand.tmp 9), type := 71, pos := "schedule.go:89", after := #[{ on := 18, ground := Ground.guard }], guard := some (18, false) }) (v := undef) rfl (by kernel_rfl) (by kernel_rfl) (by kernel_rfl) (fun _ _ _ h => h) (Or.inr ⟨by rfl, rfl⟩) (by assumption) ?_
        try simp only [Act.put, List.setIfInBounds_toArray, List.set_cons_zero, List.set_cons_succ]
        refine wpAnyH_take (i := 20) (oi := { dst := some 41, op := Op.move (Operand.tmp 0), type := 30, pos := "schedule.go:89", after := #[{ on := 18, ground := Ground.guard }], guard := some (18, false) }) (v := undef) rfl (by kernel_rfl) (by kernel_rfl) (by kernel_rfl) (fun _ _ _ h => h) (Or.inr ⟨by rfl, rfl⟩) (by assumption) ?_
        try simp only [Act.put, List.setIfInBounds_toArray, List.set_cons_zero, List.set_cons_succ]
        refine wpAnyH_take (i := 21) (oi := { dst := some 42, op := Op.move (Operand.tmp 12), type := 3, pos := "schedule.go:89", after := #[{ on := 18, ground := Ground.guard }], guard := some (18, false) }) (v := undef) rfl (by kernel_rfl) (by kernel_rfl) (by kernel_rfl) (fun _ _ _ h => h) (Or.inr ⟨by rfl, rfl⟩) (by assumption) ?_
        try simp only [Act.put, List.setIfInBounds_toArray, List.set_cons_zero, List.set_cons_succ]
        refine wpAnyH_take (i := 22) (oi := { dst := some 43, op := Op.indexAddr 30 (Operand.tmp 41) (Operand.tmp 42), type := 0, pos := "schedule.go:89", after := #[{ on := 20, ground := Ground.data }, { on := 21, ground := Ground.data }, { on := 18, ground := Ground.guard }], guard := some (18, false) }) (v := undef) rfl (by kernel_rfl) (by kernel_rfl) (by kernel_rfl) (fun _ _ _ h => h) (Or.inr ⟨by rfl, rfl⟩) (by assumption) ?_
        try simp only [Act.put, List.setIfInBounds_toArray, List.set_cons_zero, List.set_cons_succ]
        refine wpAnyH_take (i := 23) (oi := { dst := some 44, op := Op.load 58 (Operand.tmp 43), type := 58, pos := "schedule.go:89", after := #[{ on := 22, ground := Ground.data }, { on := 18, ground := Ground.guard }], guard := some (18, false) }) (v := undef) rfl (by kernel_rfl) (by kernel_rfl) (by kernel_rfl) (fun _ _ _ h => h) (Or.inr ⟨by rfl, rfl⟩) (by assumption) ?_
        try simp only [Act.put, List.setIfInBounds_toArray, List.set_cons_zero, List.set_cons_succ]
        refine wpAnyH_take (i := 24) (oi := { dst := some 45, op := Op.move (Operand.tmp 0), type := 30, pos := "schedule.go:89", after := #[{ on := 18, ground := Ground.guard }], guard := some (18, false) }) (v := undef) rfl (by kernel_rfl) (by kernel_rfl) (by kernel_rfl) (fun _ _ _ h => h) (Or.inr ⟨by rfl, rfl⟩) (by assumption) ?_
        try simp only [Act.put, List.setIfInBounds_toArray, List.set_cons_zero, List.set_cons_succ]
        refine wpAnyH_take (i := 25) (oi := { dst := some 46, op := Op.move (Operand.tmp 10), type := 3, pos := "schedule.go:89", after := #[{ on := 18, ground := Ground.guard }], guard := some (18, false) }) (v := undef) rfl (by kernel_rfl) (by kernel_rfl) (by kernel_rfl) (fun _ _ _ h => h) (Or.inr ⟨by rfl, rfl⟩) (by assumption) ?_
        try simp only [Act.put, List.setIfInBounds_toArray, List.set_cons_zero, List.set_cons_succ]
        refine wpAnyH_take (i := 26) (oi := { dst := some 47, op := Op.indexAddr 30 (Operand.tmp 45) (Operand.tmp 46), type := 0, pos := "schedule.go:89", after := #[{ on := 24, ground := Ground.data }, { on := 25, ground := Ground.data }, { on := 18, ground := Ground.guard }], guard := some (18, false) }) (v := undef) rfl (by kernel_rfl) (by kernel_rfl) (by kernel_rfl) (fun _ _ _ h => h) (Or.inr ⟨by rfl, rfl⟩) (by assumption) ?_
        try simp only [Act.put, List.setIfInBounds_toArray, List.set_cons_zero, List.set_cons_succ]
        refine wpAnyH_take (i := 27) (oi := { dst := some 48, op := Op.load 58 (Operand.tmp 47), type := 58, pos := "schedule.go:89", after := #[{ on := 26, ground := Ground.data }, { on := 18, ground := Ground.guard }], guard := some (18, false) }) (v := undef) rfl (by kernel_rfl) (by kernel_rfl) (by kernel_rfl) (fun _ _ _ h => h) (Or.inr ⟨by rfl, rfl⟩) (by assumption) ?_
        try simp only [Act.put, List.setIfInBounds_toArray, List.set_cons_zero, List.set_cons_succ]
        refine wpAnyH_take (i := 28) (oi := { dst := some 49, op := Op.call { callee := Callee.value (Operand.tmp 40), args := #[Operand.tmp 44, Operand.tmp 48], argTypes := #[58, 58] }, type := 3, pos := "schedule.go:89", after := #[{ on := 19, ground := Ground.data }, { on := 23, ground := Ground.data }, { on := 27, ground := Ground.data }, { on := 18, ground := Ground.chain }, { on := 18, ground := Ground.guard }], guard := some (18, false) }) (v := undef) rfl (by kernel_rfl) (by kernel_rfl) (by kernel_rfl) (fun _ _ _ h => h) (Or.inr ⟨by rfl, rfl⟩) (by assumption) ?_
        try simp only [Act.put, List.setIfInBounds_toArray, List.set_cons_zero, List.set_cons_succ]
        refine wpAnyH_take (i := 29) (oi := { dst := some 50, op := Op.binOp BinOp.lss 3 (Operand.tmp 49) (Operand.const (Value.int IntKind.i64 0)) 3, type := 4, pos := "schedule.go:89", after := #[{ on := 28, ground := Ground.data }, { on := 18, ground := Ground.guard }], guard := some (18, false) }) (v := undef) rfl (by kernel_rfl) (by kernel_rfl) (by kernel_rfl) (fun _ _ _ h => h) (Or.inr ⟨by rfl, rfl⟩) (by assumption) ?_
        try simp only [Act.put, List.setIfInBounds_toArray, List.set_cons_zero, List.set_cons_succ]
        refine wpAnyH_take (i := 30) (oi := { dst := some 51, op := Op.pick (Operand.tmp 39) (Operand.const (Value.bool true)) (Operand.tmp 50), type := 4, pos := "schedule.go:89", after := #[{ on := 18, ground := Ground.data }, { on := 29, ground := Ground.data }, { on := 15, ground := Ground.guard }], guard := some (15, true) }) (v := undef) rfl (by kernel_rfl) (by kernel_rfl) (by kernel_rfl) (fun _ _ _ h => h) (Or.inr ⟨by rfl, rfl⟩) (by assumption) ?_
        try simp only [Act.put, List.setIfInBounds_toArray, List.set_cons_zero, List.set_cons_succ]
        refine wpAnyH_take (i := 31) (oi := { dst := some 52, op := Op.pick (Operand.tmp 36) (Operand.tmp 51) (Operand.const (Value.bool false)), type := 4, pos := "schedule.go:89", after := #[{ on := 15, ground := Ground.data }, { on := 30, ground := Ground.data }], guard := none }) (v := ?v31_1032) rfl (by kernel_rfl) (by kernel_rfl) (by kernel_rfl) (fun _ _ _ h => h) (Or.inl ⟨by rfl, ?h31_1032⟩) (by assumption) ?r31_1032
        case h31_1032 =>
          intro W hSW
          try dsimp only at hSW
          go_simp
          try with_reducible rfl
        try simp only [Act.put, List.setIfInBounds_toArray, List.set_cons_zero, List.set_cons_succ]
        refine wpAnyH_done (by kernel_rfl) ?_ _
        go_wp2
        go_roundw
        case rel => exact ⟨j + 1, by omega, by rw [HRES.out, HV.out], by go_num, HB.out.trans (hv0.mono HB.out.size)⟩
        case measure => simp [intOf]; omega
      case pos =>
      have hkd := hkd.symm; subst hkd
      cases isv with
      | false =>
        have HV : Hid (res = o) := Lib.hid (by rw [HSN.out]; unfold Sc.pick Sc.fit; rw [HT.out]; simp only [HISV.out, Bool.and_false, Bool.false_and, Bool.false_eq_true, if_false])
        go_wp2_with fail
        have hv0 : Below wr.heap.size wr wr.drew := (Below.refl _ _).drew
        refine wp_region_held_drew (S := fun W => Below wr.heap.size wr W) (by kernel_rfl) (hv0) (fun hHeld => ?_)
        refine wpAnyH_take (i := 0) (oi := { dst := some 21, op := Op.move (Operand.tmp 0), type := 30, pos := "schedule.go:89", after := #[], guard := none }) (v := ?v0_2001) rfl (by kernel_rfl) (by kernel_rfl) (by kernel_rfl) (fun _ _ _ h => h) (Or.inl ⟨by rfl, ?h0_2001⟩) (by assumption) ?r0_2001
        case h0_2001 =>
          intro W hSW
          try dsimp only at hSW
          go_simp
          try with_reducible rfl
        try simp only [Act.put, List.setIfInBounds_toArray, List.set_cons_zero, List.set_cons_succ]
        refine wpAnyH_take (i := 1) (oi := { dst := some 22, op := Op.move (Operand.tmp 12), type := 3, pos := "schedule.go:89", after := #[], guard := none }) (v := ?v1_2002) rfl (by kernel_rfl) (by kernel_rfl) (by kernel_rfl) (fun _ _ _ h => h) (Or.inl ⟨by rfl, ?h1_2002⟩) (by assumption) ?r1_2002
        case h1_2002 =>
          intro W hSW
          try dsimp only at hSW
          go_simp
          try with_reducible rfl
        try simp only [Act.put, List.setIfInBounds_toArray, List.set_cons_zero, List.set_cons_succ]
        refine wpAnyH_take (i := 2) (oi := { dst := some 23, op := Op.indexAddr 30 (Operand.tmp 21) (Operand.tmp 22), type := 0, pos := "schedule.go:89", after := #[{ on := 0, ground := Ground.data }, { on := 1, ground := Ground.data }], guard := none }) (v := ?v2_2003) rfl (by kernel_rfl) (by kernel_rfl) (by kernel_rfl) (fun _ _ _ h => h) (Or.inl ⟨by rfl, ?h2_2003⟩) (by assumption) ?r2_2003
        case h2_2003 =>
          intro W hSW
          try dsimp only at hSW
          go_simp
          try with_reducible rfl
        try simp only [Act.put, List.setIfInBounds_toArray, List.set_cons_zero, List.set_cons_succ]
        refine wpAnyH_take (i := 3) (oi := { dst := some 24, op := Op.fieldAddr 58 (Operand.tmp 23) 0, type := 0, pos := "schedule.go:89", after := #[{ on := 2, ground := Ground.data }], guard := none }) (v := ?v3_2004) rfl (by kernel_rfl) (by kernel_rfl) (by kernel_rfl) (fun _ _ _ h => h) (Or.inl ⟨by rfl, ?h3_2004⟩) (by assumption) ?r3_2004
        case h3_2004 =>
          intro W hSW
          try dsimp only at hSW
          go_simp
          try with_reducible rfl
        try simp only [Act.put, List.setIfInBounds_toArray, List.set_cons_zero, List.set_cons_succ]
        refine wpAnyH_take (i := 4) (oi := { dst := some 25, op := Op.load 3 (Operand.tmp 24), type := 3, pos := "schedule.go:89", after := #[{ on := 3, ground := Ground.data }], guard := none }) (v := ?v4_2005) rfl (by kernel_rfl) (by kernel_rfl) (by kernel_rfl) (fun _ _ _ h => h) (Or.inl ⟨by rfl, ?h4_2005⟩) (by assumption) ?r4_2005
        case h4_2005 =>
          intro W hSW
          try dsimp only at hSW
          have hcc := (hSW.cell (p := ⟨b, off + k * 5, none⟩) HBW.out).trans C0.out
          go_simp
          try with_reducible rfl
        try simp only [Act.put, List.setIfInBounds_toArray, List.set_cons_zero, List.set_cons_succ]
        refine wpAnyH_take (i := 5) (oi := { dst := some 26, op := Op.move (Operand.tmp 2), type := 3, pos := "schedule.go:89", after := #[], guard := none }) (v := ?v5_2006) rfl (by kernel_rfl) (by kernel_rfl) (by kernel_rfl) (fun _ _ _ h => h) (Or.inl ⟨by rfl, ?h5_2006⟩) (by assumption) ?r5_2006
        case h5_2006 =>
          intro W hSW
          try dsimp only at hSW
          go_simp
          try with_reducible rfl
        try simp only [Act.put, List.setIfInBounds_toArray, List.set_cons_zero, List.set_cons_succ]
        refine wpAnyH_take (i := 6) (oi := { dst := some 27, op := Op.binOp BinOp.eql 3 (Operand.tmp 25) (Operand.tmp 26) 3, type := 4, pos := "schedule.go:89", after := #[{ on := 4, ground := Ground.data }, { on := 5, ground := Ground.data }], guard := none }) (v := ?v6_2007) rfl (by kernel_rfl) (by kernel_rfl) (by kernel_rfl) (fun _ _ _ h => h) (Or.inl ⟨by rfl, ?h6_2007⟩) (by assumption) ?r6_2007
        case h6_2007 =>
          intro W hSW
          try dsimp only at hSW
          go_simp
          try with_reducible rfl
        try simp only [Act.put, List.setIfInBounds_toArray, List.set_cons_zero, List.set_cons_succ]
        refine wpAnyH_take (i := 7) (oi := { dst := some 28, op := Op.move (Operand.tmp 27), type := 4, pos := "schedule.go:89", after := #[{ on := 6, ground := Ground.data }], guard := none }) (v := ?v7_2008) rfl (by kernel_rfl) (by kernel_rfl) (by kernel_rfl) (fun _ _ _ h => h) (Or.inl ⟨by rfl, ?h7_2008⟩) (by assumption) ?r7_2008
        case h7_2008 =>
          intro W hSW
          try dsimp only at hSW
          go_simp
          try with_reducible rfl
        try simp only [Act.put, List.setIfInBounds_toArray, List.set_cons_zero, List.set_cons_succ]
        refine wpAnyH_take (i := 8) (oi := { dst := some 29, op := Op.move (Operand.tmp 3), type := 67, pos := "schedule.go:89", after := #[{ on := 7, ground := Ground.guard }], guard := some (7, true) }) (v := ?v8_2009) rfl (by kernel_rfl) (by kernel_rfl) (by kernel_rfl) (fun _ _ _ h => h) (Or.inl ⟨by rfl, ?h8_2009⟩) (by assumption) ?r8_2009
        case h8_2009 =>
          intro W hSW
          try dsimp only at hSW
          go_simp
          try with_reducible rfl
        try simp only [Act.put, List.setIfInBounds_toArray, List.set_cons_zero, List.set_cons_succ]
        refine wpAnyH_take (i := 9) (oi := { dst := some 30, op := Op.move (Operand.tmp 0), type := 30, pos := "schedule.go:89", after := #[{ on := 7, ground := Ground.guard }], guard := some (7, true) }) (v := ?v9_2010) rfl (by kernel_rfl) (by kernel_rfl) (by kernel_rfl) (fun _ _ _ h => h) (Or.inl ⟨by rfl, ?h9_2010⟩) (by assumption) ?r9_2010
        case h9_2010 =>
          intro W hSW
          try dsimp only at hSW
          go_simp
          try with_reducible rfl
        try simp only [Act.put, List.setIfInBounds_toArray, List.set_cons_zero, List.set_cons_succ]
        refine wpAnyH_take (i := 10) (oi := { dst := some 31, op := Op.move (Operand.tmp 12), type := 3, pos := "schedule.go:89", after := #[{ on := 7, ground := Ground.guard }], guard := some (7, true) }) (v := ?v10_2011) rfl (by kernel_rfl) (by kernel_rfl) (by kernel_rfl) (fun _ _ _ h => h) (Or.inl ⟨by rfl, ?h10_2011⟩) (by assumption) ?r10_2011
        case h10_2011 =>
          intro W hSW
          try dsimp only at hSW
          go_simp
          try with_reducible rfl
        try simp only [Act.put, List.setIfInBounds_toArray, List.set_cons_zero, List.set_cons_succ]
        refine wpAnyH_take (i := 11) (oi := { dst := some 32, op := Op.indexAddr 30 (Operand.tmp 30) (Operand.tmp 31), type := 0, pos := "schedule.go:89", after := #[{ on := 9, ground := Ground.data }, { on := 10, ground := Ground.data }, { on := 7, ground := Ground.guard }], guard := some (7, true) }) (v := ?v11_2012) rfl (by kernel_rfl) (by kernel_rfl) (by kernel_rfl) (fun _ _ _ h => h) (Or.inl ⟨by rfl, ?h11_2012⟩) (by assumption) ?r11_2012
        case h11_2012 =>
          intro W hSW
          try dsimp only at hSW
          go_simp
          try with_reducible rfl
        try simp only [Act.put, List.setIfInBounds_toArray, List.set_cons_zero, List.set_cons_succ]
        refine wpAnyH_take (i := 12) (oi := { dst := some 33, op := Op.load 58 (Operand.tmp 32), type := 58, pos := "schedule.go:89", after := #[{ on := 11, ground := Ground.data }, { on := 7, ground := Ground.guard }], guard := some (7, true) }) (v := ?v12_2013) rfl (by kernel_rfl) (by kernel_rfl) (by kernel_rfl) (fun _ _ _ h => h) (Or.inl ⟨by rfl, ?h12_2013⟩) (by assumption) ?r12_2013
        case h12_2013 =>
          intro W hSW
          try dsimp only at hSW
          have hc0 := (hSW.cell (p := ⟨b, off + k * 5, none⟩) HBW.out).trans C0.out
          have hc1 := (hSW.cell (p := ⟨b, off + k * 5 + 1, none⟩) HBW.out).trans C1.out
          have hc2 := (hSW.cell (p := ⟨b, off + k * 5 + 2, none⟩) HBW.out).trans C2.out
          have hc3 := (hSW.cell (p := ⟨b, off + k * 5 + 3, none⟩) HBW.out).trans C3.out
          have hc4 := (hSW.cell (p := ⟨b, off + k * 5 + 4, none⟩) HBW.out).trans C4.out
          go_simp
          try with_reducible rfl
        try simp only [Act.put, List.setIfInBounds_toArray, List.set_cons_zero, List.set_cons_succ]
        refine wpAnyH_ready (rs := [13]) (by kernel_rfl) (by simp) ?_
        refine AllReadyH.cons (o := { dst := some 34, op := Op.call { callee := Callee.value (Operand.tmp 29), args := #[Operand.tmp 33], argTypes := #[58] }, type := 4, pos := "schedule.go:89", after := #[{ on := 8, ground := Ground.data }, { on := 12, ground := Ground.data }, { on := 7, ground := Ground.chain }, { on := 7, ground := Ground.guard }], guard := some (7, true) }) rfl (fun K hK => ?_) AllReadyH.nil
        go_simp
        refine (HIS.out _).mono ?_
        rintro e w1 ⟨rfl, b1⟩
        have hv1 : Below wr.heap.size wr w1 := hv0.trans (b1.mono hv0.size)
        go_wp2_with fail
        refine hK.out _ _ (hv1) (fun hHeld => ?_)
        clear hK K
        try simp only [Act.put, List.setIfInBounds_toArray, List.set_cons_zero, List.set_cons_succ]
        refine wpAnyH_take (i := 14) (oi := { dst := some 35, op := Op.pick (Operand.tmp 28) (Operand.tmp 34) (Operand.const (Value.bool false)), type := 4, pos := "schedule.go:89", after := #[{ on := 7, ground := Ground.data }, { on := 13, ground := Ground.data }], guard := none }) (v := ?v14_2014) rfl (by kernel_rfl) (by kernel_rfl) (by kernel_rfl) (fun _ _ _ h => h) (Or.inl ⟨by rfl, ?h14_2014⟩) (by assumption) ?r14_2014
        case h14_2014 =>
          intro W hSW
          try dsimp only at hSW
          go_simp
          try with_reducible rfl
        try simp only [Act.put, List.setIfInBounds_toArray, List.set_cons_zero, List.set_cons_succ]
        refine wpAnyH_take (i := 15) (oi := { dst := some 36, op := Op.move (Operand.tmp 35), type := 4, pos := "schedule.go:89", after := #[{ on := 14, ground := Ground.data }, { on := 13, ground := Ground.chain }], guard := none }) (v := ?v15_2015) rfl (by kernel_rfl) (by kernel_rfl) (by kernel_rfl) (fun _ _ _ h => h) (Or.inl ⟨by rfl, ?h15_2015⟩) (by assumption) ?r15_2015
        case h15_2015 =>
          intro W hSW
          try dsimp only at hSW
          go_simp
          try with_reducible rfl
        try simp only [Act.put, List.setIfInBounds_toArray, List.set_cons_zero, List.set_cons_succ]
        refine wpAnyH_take (i := 16) (oi := { dst := some 37, op := Op.move (Operand.tmp 10), type := 3, pos := "schedule.go:89", after := #[{ on := 15, ground := Ground.guard }], guard := some (15, true) }) (v := undef) rfl (by kernel_rfl) (by kernel_rfl) (by kernel_rfl) (fun _ _ _ h => h) (Or.inr ⟨by rfl, rfl⟩) (by assumption) ?_
        try simp only [Act.put, List.setIfInBounds_toArray, List.set_cons_zero, List.set_cons_succ]
        refine wpAnyH_take (i := 17) (oi := { dst := some 38, op := Op.binOp BinOp.lss 3 (Operand.tmp 37) (Operand.const (Value.int IntKind.i64 0)) 3, type := 4, pos := "schedule.go:89", after := #[{ on := 16, ground := Ground.data }, { on := 15, ground := Ground.guard }], guard := some (15, true) }) (v := undef) rfl (by kernel_rfl) (by kernel_rfl) (by kernel_rfl) (fun _ _ _ h => h) (Or.inr ⟨by rfl, rfl⟩) (by assumption) ?_
        try simp only [Act.put, List.setIfInBounds_toArray, List.set_cons_zero, List.set_cons_succ]
        refine wpAnyH_take (i := 18) (oi := { dst := some 39, op := Op.move (Operand.tmp 38), type := 4, pos := "schedule.go:89", after := #[{ on := 17, ground := Ground.data }, { on := 15, ground := Ground.chain }, { on := 15, ground := Ground.guard }], guard := some (15, true) }) (v := undef) rfl (by kernel_rfl) (by kernel_rfl) (by kernel_rfl) (fun _ _ _ h => h) (Or.inr ⟨by rfl, rfl⟩) (by assumption) ?_
        try simp only [Act.put, List.setIfInBounds_toArray, List.set_cons_zero, List.set_cons_succ]
        refine wpAnyH_take (i := 19) (oi := { dst := some 40, op := Op.move (Operand.tmp 9), type := 71, pos := "schedule.go:89", after := #[{ on := 18, ground := Ground.guard }], guard := some (18, false) }) (v := undef) rfl (by kernel_rfl) (by kernel_rfl) (by kernel_rfl) (fun _ _ _ h => h) (Or.inr ⟨by rfl, rfl⟩) (by assumption) ?_
        try simp only [Act.put, List.setIfInBounds_toArray, List.set_cons_zero, List.set_cons_succ]
        refine wpAnyH_take (i := 20) (oi := { dst := some 41, op := Op.move (Operand.tmp 0), type := 30, pos := "schedule.go:89", after := #[{ on := 18, ground := Ground.guard }], guard := some (18, false) }) (v := undef) rfl (by kernel_rfl) (by kernel_rfl) (by kernel_rfl) (fun _ _ _ h => h) (Or.inr ⟨by rfl, rfl⟩) (by assumption) ?_
        try simp only [Act.put, List.setIfInBounds_toArray, List.set_cons_zero, List.set_cons_succ]
        refine wpAnyH_take (i := 21) (oi := { dst := some 42, op := Op.move (Operand.tmp 12), type := 3, pos := "schedule.go:89", after := #[{ on := 18, ground := Ground.guard }], guard := some (18, false) }) (v := undef) rfl (by kernel_rfl) (by kernel_rfl) (by kernel_rfl) (fun _ _ _ h => h) (Or.inr ⟨by rfl, rfl⟩) (by assumption) ?_
        try simp only [Act.put, List.setIfInBounds_toArray, List.set_cons_zero, List.set_cons_succ]
        refine wpAnyH_take (i := 22) (oi := { dst := some 43, op := Op.indexAddr 30 (Operand.tmp 41) (Operand.tmp 42), type := 0, pos := "schedule.go:89", after := #[{ on := 20, ground := Ground.data }, { on := 21, ground := Ground.data }, { on := 18, ground := Ground.guard }], guard := some (18, false) }) (v := undef) rfl (by kernel_rfl) (by kernel_rfl) (by kernel_rfl) (fun _ _ _ h => h) (Or.inr ⟨by rfl, rfl⟩) (by assumption) ?_
        try simp only [Act.put, List.setIfInBounds_toArray, List.set_cons_zero, List.set_cons_succ]
        refine wpAnyH_take (i := 23) (oi := { dst := some 44, op := Op.load 58 (Operand.tmp 43), type := 58, pos := "schedule.go:89", after := #[{ on := 22, ground := Ground.data }, { on := 18, ground := Ground.guard }], guard := some (18, false) }) (v := undef) rfl (by kernel_rfl) (by kernel_rfl) (by kernel_rfl) (fun _ _ _ h => h) (Or.inr ⟨by rfl, rfl⟩) (by assumption) ?_
        try simp only [Act.put, List.setIfInBounds_toArray, List.set_cons_zero, List.set_cons_succ]
        refine wpAnyH_take (i := 24) (oi := { dst := some 45, op := Op.move (Operand.tmp 0), type := 30, pos := "schedule.go:89", after := #[{ on := 18, ground := Ground.guard }], guard := some (18, false) }) (v := undef) rfl (by kernel_rfl) (by kernel_rfl) (by kernel_rfl) (fun _ _ _ h => h) (Or.inr ⟨by rfl, rfl⟩) (by assumption) ?_
        try simp only [Act.put, List.setIfInBounds_toArray, List.set_cons_zero, List.set_cons_succ]
        refine wpAnyH_take (i := 25) (oi := { dst := some 46, op := Op.move (Operand.tmp 10), type := 3, pos := "schedule.go:89", after := #[{ on := 18, ground := Ground.guard }], guard := some (18, false) }) (v := undef) rfl (by kernel_rfl) (by kernel_rfl) (by kernel_rfl) (fun _ _ _ h => h) (Or.inr ⟨by rfl, rfl⟩) (by assumption) ?_
        try simp only [Act.put, List.setIfInBounds_toArray, List.set_cons_zero, List.set_cons_succ]
        refine wpAnyH_take (i := 26) (oi := { dst := some 47, op := Op.indexAddr 30 (Operand.tmp 45) (Operand.tmp 46), type := 0, pos := "schedule.go:89", after := #[{ on := 24, ground := Ground.data }, { on := 25, ground := Ground.data }, { on := 18, ground := Ground.guard }], guard := some (18, false) }) (v := undef) rfl (by kernel_rfl) (by kernel_rfl) (by kernel_rfl) (fun _ _ _ h => h) (Or.inr ⟨by rfl, rfl⟩) (by assumption) ?_
        try simp only [Act.put, List.setIfInBounds_toArray, List.set_cons_zero, List.set_cons_succ]
        refine wpAnyH_take (i := 27) (oi := { dst := some 48, op := Op.load 58 (Operand.tmp 47), type := 58, pos := "schedule.go:89", after := #[{ on := 26, ground := Ground.data }, { on := 18, ground := Ground.guard }], guard := some (18, false) }) (v := undef) rfl (by kernel_rfl) (by kernel_rfl) (by kernel_rfl) (fun _ _ _ h => h) (Or.inr ⟨by rfl, rfl⟩) (by assumption) ?_
        try simp only [Act.put, List.setIfInBounds_toArray, List.set_cons_zero, List.set_cons_succ]
        refine wpAnyH_take (i := 28) (oi := { dst := some 49, op := Op.call { callee := Callee.value (Operand.tmp 40), args := #[Operand.tmp 44, Operand.tmp 48], argTypes := #[58, 58] }, type := 3, pos := "schedule.go:89", after := #[{ on := 19, ground := Ground.data }, { on := 23, ground := Ground.data }, { on := 27, ground := Ground.data }, { on := 18, ground := Ground.chain }, { on := 18, ground := Ground.guard }], guard := some (18, false) }) (v := undef) rfl (by kernel_rfl) (by kernel_rfl) (by kernel_rfl) (fun _ _ _ h => h) (Or.inr ⟨by rfl, rfl⟩) (by assumption) ?_
        try simp only [Act.put, List.setIfInBounds_toArray, List.set_cons_zero, List.set_cons_succ]
        refine wpAnyH_take (i := 29) (oi := { dst := some 50, op := Op.binOp BinOp.lss 3 (Operand.tmp 49) (Operand.const (Value.int IntKind.i64 0)) 3, type := 4, pos := "schedule.go:89", after := #[{ on := 28, ground := Ground.data }, { on := 18, ground := Ground.guard }], guard := some (18, false) }) (v := undef) rfl (by kernel_rfl) (by kernel_rfl) (by kernel_rfl) (fun _ _ _ h => h) (Or.inr ⟨by rfl, rfl⟩) (by assumption) ?_
        try simp only [Act.put, List.setIfInBounds_toArray, List.set_cons_zero, List.set_cons_succ]
        refine wpAnyH_take (i := 30) (oi := { dst := some 51, op := Op.pick (Operand.tmp 39) (Operand.const (Value.bool true)) (Operand.tmp 50), type := 4, pos := "schedule.go:89", after := #[{ on := 18, ground := Ground.data }, { on := 29, ground := Ground.data }, { on := 15, ground := Ground.guard }], guard := some (15, true) }) (v := undef) rfl (by kernel_rfl) (by kernel_rfl) (by kernel_rfl) (fun _ _ _ h => h) (Or.inr ⟨by rfl, rfl⟩) (by assumption) ?_
        try simp only [Act.put, List.setIfInBounds_toArray, List.set_cons_zero, List.set_cons_succ]
        refine wpAnyH_take (i := 31) (oi := { dst := some 52, op := Op.pick (Operand.tmp 36) (Operand.tmp 51) (Operand.const (Value.bool false)), type := 4, pos := "schedule.go:89", after := #[{ on := 15, ground := Ground.data }, { on := 30, ground := Ground.data }], guard := none }) (v := ?v31_2031) rfl (by kernel_rfl) (by kernel_rfl) (by kernel_rfl) (fun _ _ _ h => h) (Or.inl ⟨by rfl, ?h31_2031⟩) (by assumption) ?r31_2031
        case h31_2031 =>
          intro W hSW
          try dsimp only at hSW
          go_simp
          try with_reducible rfl
        try simp only [Act.put, List.setIfInBounds_toArray, List.set_cons_zero, List.set_cons_succ]
        refine wpAnyH_done (by kernel_rfl) ?_ _
        go_wp2
        go_roundw
        case rel => exact ⟨j + 1, by omega, by rw [HRES.out, HV.out], by go_num, HB.out.trans (hv1.mono HB.out.size)⟩
        case measure => simp [intOf]; omega
      | true =>
      have hft : Sc.fit kd Sc.can (Sc.atK L k) = true := by unfold Sc.fit; rw [HT.out]; simp only [HISV.out, decide_true, Bool.and_self]
      rcases HOR.out with ⟨ho, _⟩ | ⟨p, hp, ho, hpf⟩
      · subst ho
        have HV : Hid (res = (k : Int)) := Lib.hid (by rw [HSN.out]; unfold Sc.pick; rw [hft]; rfl)
        clear hft
        go_wp2_with fail
        have hv0 : Below wr.heap.size wr wr.drew := (Below.refl _ _).drew
        refine wp_region_held_drew (S := fun W => Below wr.heap.size wr W) (by kernel_rfl) (hv0) (fun hHeld => ?_)
        refine wpAnyH_take (i := 0) (oi := { dst := some 21, op := Op.move (Operand.tmp 0), type := 30, pos := "schedule.go:89", after := #[], guard := none }) (v := ?v0_3001) rfl (by kernel_rfl) (by kernel_rfl) (by kernel_rfl) (fun _ _ _ h => h) (Or.inl ⟨by rfl, ?h0_3001⟩) (by assumption) ?r0_3001
        case h0_3001 =>
          intro W hSW
          try dsimp only at hSW
          go_simp
          try with_reducible rfl
        try simp only [Act.put, List.setIfInBounds_toArray, List.set_cons_zero, List.set_cons_succ]
        refine wpAnyH_take (i := 1) (oi := { dst := some 22, op := Op.move (Operand.tmp 12), type := 3, pos := "schedule.go:89", after := #[], guard := none }) (v := ?v1_3002) rfl (by kernel_rfl) (by kernel_rfl) (by kernel_rfl) (fun _ _ _ h => h) (Or.inl ⟨by rfl, ?h1_3002⟩) (by assumption) ?r1_3002
        case h1_3002 =>
          intro W hSW
          try dsimp only at hSW
          go_simp
          try with_reducible rfl
        try simp only [Act.put, List.setIfInBounds_toArray, List.set_cons_zero, List.set_cons_succ]
        refine wpAnyH_take (i := 2) (oi := { dst := some 23, op := Op.indexAddr 30 (Operand.tmp 21) (Operand.tmp 22), type := 0, pos := "schedule.go:89", after := #[{ on := 0, ground := Ground.data }, { on := 1, ground := Ground.data }], guard := none }) (v := ?v2_3003) rfl (by kernel_rfl) (by kernel_rfl) (by kernel_rfl) (fun _ _ _ h => h) (Or.inl ⟨by rfl, ?h2_3003⟩) (by assumption) ?r2_3003
        case h2_3003 =>
          intro W hSW
          try dsimp only at hSW
          go_simp
          try with_reducible rfl
        try simp only [Act.put, List.setIfInBounds_toArray, List.set_cons_zero, List.set_cons_succ]
        refine wpAnyH_take (i := 3) (oi := { dst := some 24, op := Op.fieldAddr 58 (Operand.tmp 23) 0, type := 0, pos := "schedule.go:89", after := #[{ on := 2, ground := Ground.data }], guard := none }) (v := ?v3_3004) rfl (by kernel_rfl) (by kernel_rfl) (by kernel_rfl) (fun _ _ _ h => h) (Or.inl ⟨by rfl, ?h3_3004⟩) (by assumption) ?r3_3004
        case h3_3004 =>
          intro W hSW
          try dsimp only at hSW
          go_simp
          try with_reducible rfl
        try simp only [Act.put, List.setIfInBounds_toArray, List.set_cons_zero, List.set_cons_succ]
        refine wpAnyH_take (i := 4) (oi := { dst := some 25, op := Op.load 3 (Operand.tmp 24), type := 3, pos := "schedule.go:89", after := #[{ on := 3, ground := Ground.data }], guard := none }) (v := ?v4_3005) rfl (by kernel_rfl) (by kernel_rfl) (by kernel_rfl) (fun _ _ _ h => h) (Or.inl ⟨by rfl, ?h4_3005⟩) (by assumption) ?r4_3005
        case h4_3005 =>
          intro W hSW
          try dsimp only at hSW
          have hcc := (hSW.cell (p := ⟨b, off + k * 5, none⟩) HBW.out).trans C0.out
          go_simp
          try with_reducible rfl
        try simp only [Act.put, List.setIfInBounds_toArray, List.set_cons_zero, List.set_cons_succ]
        refine wpAnyH_take (i := 5) (oi := { dst := some 26, op := Op.move (Operand.tmp 2), type := 3, pos := "schedule.go:89", after := #[], guard := none }) (v := ?v5_3006) rfl (by kernel_rfl) (by kernel_rfl) (by kernel_rfl) (fun _ _ _ h => h) (Or.inl ⟨by rfl, ?h5_3006⟩) (by assumption) ?r5_3006
        case h5_3006 =>
          intro W hSW
          try dsimp only at hSW
          go_simp
          try with_reducible rfl
        try simp only [Act.put, List.setIfInBounds_toArray, List.set_cons_zero, List.set_cons_succ]
        refine wpAnyH_take (i := 6) (oi := { dst := some 27, op := Op.binOp BinOp.eql 3 (Operand.tmp 25) (Operand.tmp 26) 3, type := 4, pos := "schedule.go:89", after := #[{ on := 4, ground := Ground.data }, { on := 5, ground := Ground.data }], guard := none }) (v := ?v6_3007) rfl (by kernel_rfl) (by kernel_rfl) (by kernel_rfl) (fun _ _ _ h => h) (Or.inl ⟨by rfl, ?h6_3007⟩) (by assumption) ?r6_3007
        case h6_3007 =>
          intro W hSW
          try dsimp only at hSW
          go_simp
          try with_reducible rfl
        try simp only [Act.put, List.setIfInBounds_toArray, List.set_cons_zero, List.set_cons_succ]
        refine wpAnyH_take (i := 7) (oi := { dst := some 28, op := Op.move (Operand.tmp 27), type := 4, pos := "schedule.go:89", after := #[{ on := 6, ground := Ground.data }], guard := none }) (v := ?v7_3008) rfl (by kernel_rfl) (by kernel_rfl) (by kernel_rfl) (fun _ _ _ h => h) (Or.inl ⟨by rfl, ?h7_3008⟩) (by assumption) ?r7_3008
        case h7_3008 =>
          intro W hSW
          try dsimp only at hSW
          go_simp
          try with_reducible rfl
        try simp only [Act.put, List.setIfInBounds_toArray, List.set_cons_zero, List.set_cons_succ]
        refine wpAnyH_take (i := 8) (oi := { dst := some 29, op := Op.move (Operand.tmp 3), type := 67, pos := "schedule.go:89", after := #[{ on := 7, ground := Ground.guard }], guard := some (7, true) }) (v := ?v8_3009) rfl (by kernel_rfl) (by kernel_rfl) (by kernel_rfl) (fun _ _ _ h => h) (Or.inl ⟨by rfl, ?h8_3009⟩) (by assumption) ?r8_3009
        case h8_3009 =>
          intro W hSW
          try dsimp only at hSW
          go_simp
          try with_reducible rfl
        try simp only [Act.put, List.setIfInBounds_toArray, List.set_cons_zero, List.set_cons_succ]
        refine wpAnyH_take (i := 9) (oi := { dst := some 30, op := Op.move (Operand.tmp 0), type := 30, pos := "schedule.go:89", after := #[{ on := 7, ground := Ground.guard }], guard := some (7, true) }) (v := ?v9_3010) rfl (by kernel_rfl) (by kernel_rfl) (by kernel_rfl) (fun _ _ _ h => h) (Or.inl ⟨by rfl, ?h9_3010⟩) (by assumption) ?r9_3010
        case h9_3010 =>
          intro W hSW
          try dsimp only at hSW
          go_simp
          try with_reducible rfl
        try simp only [Act.put, List.setIfInBounds_toArray, List.set_cons_zero, List.set_cons_succ]
        refine wpAnyH_take (i := 10) (oi := { dst := some 31, op := Op.move (Operand.tmp 12), type := 3, pos := "schedule.go:89", after := #[{ on := 7, ground := Ground.guard }], guard := some (7, true) }) (v := ?v10_3011) rfl (by kernel_rfl) (by kernel_rfl) (by kernel_rfl) (fun _ _ _ h => h) (Or.inl ⟨by rfl, ?h10_3011⟩) (by assumption) ?r10_3011
        case h10_3011 =>
          intro W hSW
          try dsimp only at hSW
          go_simp
          try with_reducible rfl
        try simp only [Act.put, List.setIfInBounds_toArray, List.set_cons_zero, List.set_cons_succ]
        refine wpAnyH_take (i := 11) (oi := { dst := some 32, op := Op.indexAddr 30 (Operand.tmp 30) (Operand.tmp 31), type := 0, pos := "schedule.go:89", after := #[{ on := 9, ground := Ground.data }, { on := 10, ground := Ground.data }, { on := 7, ground := Ground.guard }], guard := some (7, true) }) (v := ?v11_3012) rfl (by kernel_rfl) (by kernel_rfl) (by kernel_rfl) (fun _ _ _ h => h) (Or.inl ⟨by rfl, ?h11_3012⟩) (by assumption) ?r11_3012
        case h11_3012 =>
          intro W hSW
          try dsimp only at hSW
          go_simp
          try with_reducible rfl
        try simp only [Act.put, List.setIfInBounds_toArray, List.set_cons_zero, List.set_cons_succ]
        refine wpAnyH_take (i := 12) (oi := { dst := some 33, op := Op.load 58 (Operand.tmp 32), type := 58, pos := "schedule.go:89", after := #[{ on := 11, ground := Ground.data }, { on := 7, ground := Ground.guard }], guard := some (7, true) }) (v := ?v12_3013) rfl (by kernel_rfl) (by kernel_rfl) (by kernel_rfl) (fun _ _ _ h => h) (Or.inl ⟨by rfl, ?h12_3013⟩) (by assumption) ?r12_3013
        case h12_3013 =>
          intro W hSW
          try dsimp only at hSW
          have hc0 := (hSW.cell (p := ⟨b, off + k * 5, none⟩) HBW.out).trans C0.out
          have hc1 := (hSW.cell (p := ⟨b, off + k * 5 + 1, none⟩) HBW.out).trans C1.out
          have hc2 := (hSW.cell (p := ⟨b, off + k * 5 + 2, none⟩) HBW.out).trans C2.out
          have hc3 := (hSW.cell (p := ⟨b, off + k * 5 + 3, none⟩) HBW.out).trans C3.out
          have hc4 := (hSW.cell (p := ⟨b, off + k * 5 + 4, none⟩) HBW.out).trans C4.out
          go_simp
          try with_reducible rfl
        try simp only [Act.put, List.setIfInBounds_toArray, List.set_cons_zero, List.set_cons_succ]
        refine wpAnyH_ready (rs := [13]) (by kernel_rfl) (by simp) ?_
        refine AllReadyH.cons (o := { dst := some 34, op := Op.call { callee := Callee.value (Operand.tmp 29), args := #[Operand.tmp 33], argTypes := #[58] }, type := 4, pos := "schedule.go:89", after := #[{ on := 8, ground := Ground.data }, { on := 12, ground := Ground.data }, { on := 7, ground := Ground.chain }, { on := 7, ground := Ground.guard }], guard := some (7, true) }) rfl (fun K hK => ?_) AllReadyH.nil
        go_simp
        refine (HIS.out _).mono ?_
        rintro e w1 ⟨rfl, b1⟩
        have hv1 : Below wr.heap.size wr w1 := hv0.trans (b1.mono hv0.size)
        go_wp2_with fail
        refine hK.out _ _ (hv1) (fun hHeld => ?_)
        clear hK K
        try simp only [Act.put, List.setIfInBounds_toArray, List.set_cons_zero, List.set_cons_succ]
        refine wpAnyH_take (i := 14) (oi := { dst := some 35, op := Op.pick (Operand.tmp 28) (Operand.tmp 34) (Operand.const (Value.bool false)), type := 4, pos := "schedule.go:89", after := #[{ on := 7, ground := Ground.data }, { on := 13, ground := Ground.data }], guard := none }) (v := ?v14_3014) rfl (by kernel_rfl) (by kernel_rfl) (by kernel_rfl) (fun _ _ _ h => h) (Or.inl ⟨by rfl, ?h14_3014⟩) (by assumption) ?r14_3014
        case h14_3014 =>
          intro W hSW
          try dsimp only at hSW
          go_simp
          try with_reducible rfl
        try simp only [Act.put, List.setIfInBounds_toArray, List.set_cons_zero, List.set_cons_succ]
        refine wpAnyH_take (i := 15) (oi := { dst := some 36, op := Op.move (Operand.tmp 35), type := 4, pos := "schedule.go:89", after := #[{ on := 14, ground := Ground.data }, { on := 13, ground := Ground.chain }], guard := none }) (v := ?v15_3015) rfl (by kernel_rfl) (by kernel_rfl) (by kernel_rfl) (fun _ _ _ h => h) (Or.inl ⟨by rfl, ?h15_3015⟩) (by assumption) ?r15_3015
        case h15_3015 =>
          intro W hSW
          try dsimp only at hSW
          go_simp
          try with_reducible rfl
        try simp only [Act.put, List.setIfInBounds_toArray, List.set_cons_zero, List.set_cons_succ]
        refine wpAnyH_take (i := 16) (oi := { dst := some 37, op := Op.move (Operand.tmp 10), type := 3, pos := "schedule.go:89", after := #[{ on := 15, ground := Ground.guard }], guard := some (15, true) }) (v := ?v16_3016) rfl (by kernel_rfl) (by kernel_rfl) (by kernel_rfl) (fun _ _ _ h => h) (Or.inl ⟨by rfl, ?h16_3016⟩) (by assumption) ?r16_3016
        case h16_3016 =>
          intro W hSW
          try dsimp only at hSW
          go_simp
          try with_reducible rfl
        try simp only [Act.put, List.setIfInBounds_toArray, List.set_cons_zero, List.set_cons_succ]
        refine wpAnyH_take (i := 17) (oi := { dst := some 38, op := Op.binOp BinOp.lss 3 (Operand.tmp 37) (Operand.const (Value.int IntKind.i64 0)) 3, type := 4, pos := "schedule.go:89", after := #[{ on := 16, ground := Ground.data }, { on := 15, ground := Ground.guard }], guard := some (15, true) }) (v := ?v17_3017) rfl (by kernel_rfl) (by kernel_rfl) (by kernel_rfl) (fun _ _ _ h => h) (Or.inl ⟨by rfl, ?h17_3017⟩) (by assumption) ?r17_3017
        case h17_3017 =>
          intro W hSW
          try dsimp only at hSW
          go_simp
          try with_reducible rfl
        try simp only [Act.put, List.setIfInBounds_toArray, List.set_cons_zero, List.set_cons_succ]
        refine wpAnyH_take (i := 18) (oi := { dst := some 39, op := Op.move (Operand.tmp 38), type := 4, pos := "schedule.go:89", after := #[{ on := 17, ground := Ground.data }, { on := 15, ground := Ground.chain }, { on := 15, ground := Ground.guard }], guard := some (15, true) }) (v := ?v18_3018) rfl (by kernel_rfl) (by kernel_rfl) (by kernel_rfl) (fun _ _ _ h => h) (Or.inl ⟨by rfl, ?h18_3018⟩) (by assumption) ?r18_3018
        case h18_3018 =>
          intro W hSW
          try dsimp only at hSW
          go_simp
          try with_reducible rfl
        try simp only [Act.put, List.setIfInBounds_toArray, List.set_cons_zero, List.set_cons_succ]
        refine wpAnyH_take (i := 19) (oi := { dst := some 40, op := Op.move (Operand.tmp 9), type := 71, pos := "schedule.go:89", after := #[{ on := 18, ground := Ground.guard }], guard := some (18, false) }) (v := undef) rfl (by kernel_rfl) (by kernel_rfl) (by kernel_rfl) (fun _ _ _ h => h) (Or.inr ⟨by rfl, rfl⟩) (by assumption) ?_
        try simp only [Act.put, List.setIfInBounds_toArray, List.set_cons_zero, List.set_cons_succ]
        refine wpAnyH_take (i := 20) (oi := { dst := some 41, op := Op.move (Operand.tmp 0), type := 30, pos := "schedule.go:89", after := #[{ on := 18, ground := Ground.guard }], guard := some (18, false) }) (v := undef) rfl (by kernel_rfl) (by kernel_rfl) (by kernel_rfl) (fun _ _ _ h => h) (Or.inr ⟨by rfl, rfl⟩) (by assumption) ?_
        try simp only [Act.put, List.setIfInBounds_toArray, List.set_cons_zero, List.set_cons_succ]
        refine wpAnyH_take (i := 21) (oi := { dst := some 42, op := Op.move (Operand.tmp 12), type := 3, pos := "schedule.go:89", after := #[{ on := 18, ground := Ground.guard }], guard := some (18, false) }) (v := undef) rfl (by kernel_rfl) (by kernel_rfl) (by kernel_rfl) (fun _ _ _ h => h) (Or.inr ⟨by rfl, rfl⟩) (by assumption) ?_
        try simp only [Act.put, List.setIfInBounds_toArray, List.set_cons_zero, List.set_cons_succ]
        refine wpAnyH_take (i := 22) (oi := { dst := some 43, op := Op.indexAddr 30 (Operand.tmp 41) (Operand.tmp 42), type := 0, pos := "schedule.go:89", after := #[{ on := 20, ground := Ground.data }, { on := 21, ground := Ground.data }, { on := 18, ground := Ground.guard }], guard := some (18, false) }) (v := undef) rfl (by kernel_rfl) (by kernel_rfl) (by kernel_rfl) (fun _ _ _ h => h) (Or.inr ⟨by rfl, rfl⟩) (by assumption) ?_
        try simp only [Act.put, List.setIfInBounds_toArray, List.set_cons_zero, List.set_cons_succ]
        refine wpAnyH_take (i := 23) (oi := { dst := some 44, op := Op.load 58 (Operand.tmp 43), type := 58, pos := "schedule.go:89", after := #[{ on := 22, ground := Ground.data }, { on := 18, ground := Ground.guard }], guard := some (18, false) }) (v := undef) rfl (by kernel_rfl) (by kernel_rfl) (by kernel_rfl) (fun _ _ _ h => h) (Or.inr ⟨by rfl, rfl⟩) (by assumption) ?_
        try simp only [Act.put, List.setIfInBounds_toArray, List.set_cons_zero, List.set_cons_succ]
        refine wpAnyH_take (i := 24) (oi := { dst := some 45, op := Op.move (Operand.tmp 0), type := 30, pos := "schedule.go:89", after := #[{ on := 18, ground := Ground.guard }], guard := some (18, false) }) (v := undef) rfl (by kernel_rfl) (by kernel_rfl) (by kernel_rfl) (fun _ _ _ h => h) (Or.inr ⟨by rfl, rfl⟩) (by assumption) ?_
        try simp only [Act.put, List.setIfInBounds_toArray, List.set_cons_zero, List.set_cons_succ]
        refine wpAnyH_take (i := 25) (oi := { dst := some 46, op := Op.move (Operand.tmp 10), type := 3, pos := "schedule.go:89", after := #[{ on := 18, ground := Ground.guard }], guard := some (18, false) }) (v := undef) rfl (by kernel_rfl) (by kernel_rfl) (by kernel_rfl) (fun _ _ _ h => h) (Or.inr ⟨by rfl, rfl⟩) (by assumption) ?_
        try simp only [Act.put, List.setIfInBounds_toArray, List.set_cons_zero, List.set_cons_succ]
        refine wpAnyH_take (i := 26) (oi := { dst := some 47, op := Op.indexAddr 30 (Operand.tmp 45) (Operand.tmp 46), type := 0, pos := "schedule.go:89", after := #[{ on := 24, ground := Ground.data }, { on := 25, ground := Ground.data }, { on := 18, ground := Ground.guard }], guard := some (18, false) }) (v := undef) rfl (by kernel_rfl) (by kernel_rfl) (by kernel_rfl) (fun _ _ _ h => h) (Or.inr ⟨by rfl, rfl⟩) (by assumption) ?_
        try simp only [Act.put, List.setIfInBounds_toArray, List.set_cons_zero, List.set_cons_succ]
        refine wpAnyH_take (i := 27) (oi := { dst := some 48, op := Op.load 58 (Operand.tmp 47), type := 58, pos := "schedule.go:89", after := #[{ on := 26, ground := Ground.data }, { on := 18, ground := Ground.guard }], guard := some (18, false) }) (v := undef) rfl (by kernel_rfl) (by kernel_rfl) (by kernel_rfl) (fun _ _ _ h => h) (Or.inr ⟨by rfl, rfl⟩) (by assumption) ?_
        try simp only [Act.put, List.setIfInBounds_toArray, List.set_cons_zero, List.set_cons_succ]
        refine wpAnyH_take (i := 28) (oi := { dst := some 49, op := Op.call { callee := Callee.value (Operand.tmp 40), args := #[Operand.tmp 44, Operand.tmp 48], argTypes := #[58, 58] }, type := 3, pos := "schedule.go:89", after := #[{ on := 19, ground := Ground.data }, { on := 23, ground := Ground.data }, { on := 27, ground := Ground.data }, { on := 18, ground := Ground.chain }, { on := 18, ground := Ground.guard }], guard := some (18, false) }) (v := undef) rfl (by kernel_rfl) (by kernel_rfl) (by kernel_rfl) (fun _ _ _ h => h) (Or.inr ⟨by rfl, rfl⟩) (by assumption) ?_
        try simp only [Act.put, List.setIfInBounds_toArray, List.set_cons_zero, List.set_cons_succ]
        refine wpAnyH_take (i := 29) (oi := { dst := some 50, op := Op.binOp BinOp.lss 3 (Operand.tmp 49) (Operand.const (Value.int IntKind.i64 0)) 3, type := 4, pos := "schedule.go:89", after := #[{ on := 28, ground := Ground.data }, { on := 18, ground := Ground.guard }], guard := some (18, false) }) (v := undef) rfl (by kernel_rfl) (by kernel_rfl) (by kernel_rfl) (fun _ _ _ h => h) (Or.inr ⟨by rfl, rfl⟩) (by assumption) ?_
        try simp only [Act.put, List.setIfInBounds_toArray, List.set_cons_zero, List.set_cons_succ]
        refine wpAnyH_take (i := 30) (oi := { dst := some 51, op := Op.pick (Operand.tmp 39) (Operand.const (Value.bool true)) (Operand.tmp 50), type := 4, pos := "schedule.go:89", after := #[{ on := 18, ground := Ground.data }, { on := 29, ground := Ground.data }, { on := 15, ground := Ground.guard }], guard := some (15, true) }) (v := ?v30_3030) rfl (by kernel_rfl) (by kernel_rfl) (by kernel_rfl) (fun _ _ _ h => h) (Or.inl ⟨by rfl, ?h30_3030⟩) (by assumption) ?r30_3030
        case h30_3030 =>
          intro W hSW
          try dsimp only at hSW
          go_simp
          try with_reducible rfl
        try simp only [Act.put, List.setIfInBounds_toArray, List.set_cons_zero, List.set_cons_succ]
        refine wpAnyH_take (i := 31) (oi := { dst := some 52, op := Op.pick (Operand.tmp 36) (Operand.tmp 51) (Operand.const (Value.bool false)), type := 4, pos := "schedule.go:89", after := #[{ on := 15, ground := Ground.data }, { on := 30, ground := Ground.data }], guard := none }) (v := ?v31_3031) rfl (by kernel_rfl) (by kernel_rfl) (by kernel_rfl) (fun _ _ _ h => h) (Or.inl ⟨by rfl, ?h31_3031⟩) (by assumption) ?r31_3031
        case h31_3031 =>
          intro W hSW
          try dsimp only at hSW
          go_simp
          try with_reducible rfl
        try simp only [Act.put, List.setIfInBounds_toArray, List.set_cons_zero, List.set_cons_succ]
        refine wpAnyH_done (by kernel_rfl) ?_ _
        go_wp2
        go_roundw
        case rel => exact ⟨j + 1, by omega, by rw [HRES.out, HV.out], by go_num, HB.out.trans (hv1.mono HB.out.size)⟩
        case measure => simp [intOf]; omega
      · subst ho
        have hpn := HKS.out p (by assumption)
        have hd := HC.out p hpn
        obtain ⟨u, hu⟩ : ∃ u, Sc.atK L p = u := ⟨_, rfl⟩
        rw [hu] at hd hpf
        have HF1 : Hid (Sc.fit kd Sc.can (⟨kd, row, grp, left, bad⟩ : Sc.Tk) = true) := Lib.hid (by rw [HT.out] at hft; exact hft)
        have HF2 : Hid (Sc.fit kd Sc.can u = true) := Lib.hid (hpf)
        obtain ⟨q, hq⟩ : ∃ q, Sc.lt kd (⟨kd, row, grp, left, bad⟩ : Sc.Tk) u = q := ⟨_, rfl⟩
        have hV : res = if q then (k : Int) else (p : Int) := by
          rw [HSN.out]; unfold Sc.pick; rw [hft, Int.toNat_natCast, HT.out, hu, hq]
          have : decide ((p : Int) < 0) = false := decide_eq_false (by omega)
          rw [this]; cases q <;> rfl
        have HLT := Lib.hid hq
        obtain ⟨kind', row', grp', left', bad'⟩ := u
        simp only [] at hd
        have D0 := Lib.hid hd.1
        have D1 := Lib.hid hd.2.1
        have D2 := Lib.hid hd.2.2.1
        have D3 := Lib.hid hd.2.2.2.1
        have D4 := Lib.hid hd.2.2.2.2
        have hp0 : decide ((p : Int) < 0) = false := decide_eq_false (by omega)
        have j0 : (0 : Int) ≤ (p : Int) := by omega
        have j1 : (p : Int) < (n : Int) := by omega
        have HV0 := Lib.hid hV
        clear hft hpf hd hq hV hu hp
        cases q with
        | true =>
          have HV : Hid (res = (k : Int)) := Lib.hid (by rw [HV0.out]; rfl)
          go_wp2_with fail
          have hv0 : Below wr.heap.size wr wr.drew := (Below.refl _ _).drew
          refine wp_region_held_drew (S := fun W => Below wr.heap.size wr W) (by kernel_rfl) (hv0) (fun hHeld => ?_)
          refine wpAnyH_take (i := 0) (oi := { dst := some 21, op := Op.move (Operand.tmp 0), type := 30, pos := "schedule.go:89", after := #[], guard := none }) (v := ?v0_4001) rfl (by kernel_rfl) (by kernel_rfl) (by kernel_rfl) (fun _ _ _ h => h) (Or.inl ⟨by rfl, ?h0_4001⟩) (by assumption) ?r0_4001
          case h0_4001 =>
            intro W hSW
            try dsimp only at hSW
            go_simp
            try with_reducible rfl
          try simp only [Act.put, List.setIfInBounds_toArray, List.set_cons_zero, List.set_cons_succ]
          refine wpAnyH_take (i := 1) (oi := { dst := some 22, op := Op.move (Operand.tmp 12), type := 3, pos := "schedule.go:89", after := #[], guard := none }) (v := ?v1_4002) rfl (by kernel_rfl) (by kernel_rfl) (by kernel_rfl) (fun _ _ _ h => h) (Or.inl ⟨by rfl, ?h1_4002⟩) (by assumption) ?r1_4002
          case h1_4002 =>
            intro W hSW
            try dsimp only at hSW
            go_simp
            try with_reducible rfl
          try simp only [Act.put, List.setIfInBounds_toArray, List.set_cons_zero, List.set_cons_succ]
          refine wpAnyH_take (i := 2) (oi := { dst := some 23, op := Op.indexAddr 30 (Operand.tmp 21) (Operand.tmp 22), type := 0, pos := "schedule.go:89", after := #[{ on := 0, ground := Ground.data }, { on := 1, ground := Ground.data }], guard := none }) (v := ?v2_4003) rfl (by kernel_rfl) (by kernel_rfl) (by kernel_rfl) (fun _ _ _ h => h) (Or.inl ⟨by rfl, ?h2_4003⟩) (by assumption) ?r2_4003
          case h2_4003 =>
            intro W hSW
            try dsimp only at hSW
            go_simp
            try with_reducible rfl
          try simp only [Act.put, List.setIfInBounds_toArray, List.set_cons_zero, List.set_cons_succ]
          refine wpAnyH_take (i := 3) (oi := { dst := some 24, op := Op.fieldAddr 58 (Operand.tmp 23) 0, type := 0, pos := "schedule.go:89", after := #[{ on := 2, ground := Ground.data }], guard := none }) (v := ?v3_4004) rfl (by kernel_rfl) (by kernel_rfl) (by kernel_rfl) (fun _ _ _ h => h) (Or.inl ⟨by rfl, ?h3_4004⟩) (by assumption) ?r3_4004
          case h3_4004 =>
            intro W hSW
            try dsimp only at hSW
            go_simp
            try with_reducible rfl
          try simp only [Act.put, List.setIfInBounds_toArray, List.set_cons_zero, List.set_cons_succ]
          refine wpAnyH_take (i := 4) (oi := { dst := some 25, op := Op.load 3 (Operand.tmp 24), type := 3, pos := "schedule.go:89", after := #[{ on := 3, ground := Ground.data }], guard := none }) (v := ?v4_4005) rfl (by kernel_rfl) (by kernel_rfl) (by kernel_rfl) (fun _ _ _ h => h) (Or.inl ⟨by rfl, ?h4_4005⟩) (by assumption) ?r4_4005
          case h4_4005 =>
            intro W hSW
            try dsimp only at hSW
            have hcc := (hSW.cell (p := ⟨b, off + k * 5, none⟩) HBW.out).trans C0.out
            go_simp
            try with_reducible rfl
          try simp only [Act.put, List.setIfInBounds_toArray, List.set_cons_zero, List.set_cons_succ]
          refine wpAnyH_take (i := 5) (oi := { dst := some 26, op := Op.move (Operand.tmp 2), type := 3, pos := "schedule.go:89", after := #[], guard := none }) (v := ?v5_4006) rfl (by kernel_rfl) (by kernel_rfl) (by kernel_rfl) (fun _ _ _ h => h) (Or.inl ⟨by rfl, ?h5_4006⟩) (by assumption) ?r5_4006
          case h5_4006 =>
            intro W hSW
            try dsimp only at hSW
            go_simp
            try with_reducible rfl
          try simp only [Act.put, List.setIfInBounds_toArray, List.set_cons_zero, List.set_cons_succ]
          refine wpAnyH_take (i := 6) (oi := { dst := some 27, op := Op.binOp BinOp.eql 3 (Operand.tmp 25) (Operand.tmp 26) 3, type := 4, pos := "schedule.go:89", after := #[{ on := 4, ground := Ground.data }, { on := 5, ground := Ground.data }], guard := none }) (v := ?v6_4007) rfl (by kernel_rfl) (by kernel_rfl) (by kernel_rfl) (fun _ _ _ h => h) (Or.inl ⟨by rfl, ?h6_4007⟩) (by assumption) ?r6_4007
          case h6_4007 =>
            intro W hSW
            try dsimp only at hSW
            go_simp
            try with_reducible rfl
          try simp only [Act.put, List.setIfInBounds_toArray, List.set_cons_zero, List.set_cons_succ]
          refine wpAnyH_take (i := 7) (oi := { dst := some 28, op := Op.move (Operand.tmp 27), type := 4, pos := "schedule.go:89", after := #[{ on := 6, ground := Ground.data }], guard := none }) (v := ?v7_4008) rfl (by kernel_rfl) (by kernel_rfl) (by kernel_rfl) (fun _ _ _ h => h) (Or.inl ⟨by rfl, ?h7_4008⟩) (by assumption) ?r7_4008
          case h7_4008 =>
            intro W hSW
            try dsimp only at hSW
            go_simp
            try with_reducible rfl
          try simp only [Act.put, List.setIfInBounds_toArray, List.set_cons_zero, List.set_cons_succ]
          refine wpAnyH_take (i := 8) (oi := { dst := some 29, op := Op.move (Operand.tmp 3), type := 67, pos := "schedule.go:89", after := #[{ on := 7, ground := Ground.guard }], guard := some (7, true) }) (v := ?v8_4009) rfl (by kernel_rfl) (by kernel_rfl) (by kernel_rfl) (fun _ _ _ h => h) (Or.inl ⟨by rfl, ?h8_4009⟩) (by assumption) ?r8_4009
          case h8_4009 =>
            intro W hSW
            try dsimp only at hSW
            go_simp
            try with_reducible rfl
          try simp only [Act.put, List.setIfInBounds_toArray, List.set_cons_zero, List.set_cons_succ]
          refine wpAnyH_take (i := 9) (oi := { dst := some 30, op := Op.move (Operand.tmp 0), type := 30, pos := "schedule.go:89", after := #[{ on := 7, ground := Ground.guard }], guard := some (7, true) }) (v := ?v9_4010) rfl (by kernel_rfl) (by kernel_rfl) (by kernel_rfl) (fun _ _ _ h => h) (Or.inl ⟨by rfl, ?h9_4010⟩) (by assumption) ?r9_4010
          case h9_4010 =>
            intro W hSW
            try dsimp only at hSW
            go_simp
            try with_reducible rfl
          try simp only [Act.put, List.setIfInBounds_toArray, List.set_cons_zero, List.set_cons_succ]
          refine wpAnyH_take (i := 10) (oi := { dst := some 31, op := Op.move (Operand.tmp 12), type := 3, pos := "schedule.go:89", after := #[{ on := 7, ground := Ground.guard }], guard := some (7, true) }) (v := ?v10_4011) rfl (by kernel_rfl) (by kernel_rfl) (by kernel_rfl) (fun _ _ _ h => h) (Or.inl ⟨by rfl, ?h10_4011⟩) (by assumption) ?r10_4011
          case h10_4011 =>
            intro W hSW
            try dsimp only at hSW
            go_simp
            try with_reducible rfl
          try simp only [Act.put, List.setIfInBounds_toArray, List.set_cons_zero, List.set_cons_succ]
          refine wpAnyH_take (i := 11) (oi := { dst := some 32, op := Op.indexAddr 30 (Operand.tmp 30) (Operand.tmp 31), type := 0, pos := "schedule.go:89", after := #[{ on := 9, ground := Ground.data }, { on := 10, ground := Ground.data }, { on := 7, ground := Ground.guard }], guard := some (7, true) }) (v := ?v11_4012) rfl (by kernel_rfl) (by kernel_rfl) (by kernel_rfl) (fun _ _ _ h => h) (Or.inl ⟨by rfl, ?h11_4012⟩) (by assumption) ?r11_4012
          case h11_4012 =>
            intro W hSW
            try dsimp only at hSW
            go_simp
            try with_reducible rfl
          try simp only [Act.put, List.setIfInBounds_toArray, List.set_cons_zero, List.set_cons_succ]
          refine wpAnyH_take (i := 12) (oi := { dst := some 33, op := Op.load 58 (Operand.tmp 32), type := 58, pos := "schedule.go:89", after := #[{ on := 11, ground := Ground.data }, { on := 7, ground := Ground.guard }], guard := some (7, true) }) (v := ?v12_4013) rfl (by kernel_rfl) (by kernel_rfl) (by kernel_rfl) (fun _ _ _ h => h) (Or.inl ⟨by rfl, ?h12_4013⟩) (by assumption) ?r12_4013
          case h12_4013 =>
            intro W hSW
            try dsimp only at hSW
            have hc0 := (hSW.cell (p := ⟨b, off + k * 5, none⟩) HBW.out).trans C0.out
            have hc1 := (hSW.cell (p := ⟨b, off + k * 5 + 1, none⟩) HBW.out).trans C1.out
            have hc2 := (hSW.cell (p := ⟨b, off + k * 5 + 2, none⟩) HBW.out).trans C2.out
            have hc3 := (hSW.cell (p := ⟨b, off + k * 5 + 3, none⟩) HBW.out).trans C3.out
            have hc4 := (hSW.cell (p := ⟨b, off + k * 5 + 4, none⟩) HBW.out).trans C4.out
            go_simp
            try with_reducible rfl
          try simp only [Act.put, List.setIfInBounds_toArray, List.set_cons_zero, List.set_cons_succ]
          refine wpAnyH_ready (rs := [13]) (by kernel_rfl) (by simp) ?_
          refine AllReadyH.cons (o := { dst := some 34, op := Op.call { callee := Callee.value (Operand.tmp 29), args := #[Operand.tmp 33], argTypes := #[58] }, type := 4, pos := "schedule.go:89", after := #[{ on := 8, ground := Ground.data }, { on := 12, ground := Ground.data }, { on := 7, ground := Ground.chain }, { on := 7, ground := Ground.guard }], guard := some (7, true) }) rfl (fun K hK => ?_) AllReadyH.nil
          go_simp
          refine (HIS.out _).mono ?_
          rintro e w1 ⟨rfl, b1⟩
          have hv1 : Below wr.heap.size wr w1 := hv0.trans (b1.mono hv0.size)
          go_wp2_with fail
          refine hK.out _ _ (hv1) (fun hHeld => ?_)
          clear hK K
          try simp only [Act.put, List.setIfInBounds_toArray, List.set_cons_zero, List.set_cons_succ]
          refine wpAnyH_take (i := 14) (oi := { dst := some 35, op := Op.pick (Operand.tmp 28) (Operand.tmp 34) (Operand.const (Value.bool false)), type := 4, pos := "schedule.go:89", after := #[{ on := 7, ground := Ground.data }, { on := 13, ground := Ground.data }], guard := none }) (v := ?v14_4014) rfl (by kernel_rfl) (by kernel_rfl) (by kernel_rfl) (fun _ _ _ h => h) (Or.inl ⟨by rfl, ?h14_4014⟩) (by assumption) ?r14_4014
          case h14_4014 =>
            intro W hSW
            try dsimp only at hSW
            go_simp
            try with_reducible rfl
          try simp only [Act.put, List.setIfInBounds_toArray, List.set_cons_zero, List.set_cons_succ]
          refine wpAnyH_take (i := 15) (oi := { dst := some 36, op := Op.move (Operand.tmp 35), type := 4, pos := "schedule.go:89", after := #[{ on := 14, ground := Ground.data }, { on := 13, ground := Ground.chain }], guard := none }) (v := ?v15_4015) rfl (by kernel_rfl) (by kernel_rfl) (by kernel_rfl) (fun _ _ _ h => h) (Or.inl ⟨by rfl, ?h15_4015⟩) (by assumption) ?r15_4015
          case h15_4015 =>
            intro W hSW
            try dsimp only at hSW
            go_simp
            try with_reducible rfl
          try simp only [Act.put, List.setIfInBounds_toArray, List.set_cons_zero, List.set_cons_succ]
          refine wpAnyH_take (i := 16) (oi := { dst := some 37, op := Op.move (Operand.tmp 10), type := 3, pos := "schedule.go:89", after := #[{ on := 15, ground := Ground.guard }], guard := some (15, true) }) (v := ?v16_4016) rfl (by kernel_rfl) (by kernel_rfl) (by kernel_rfl) (fun _ _ _ h => h) (Or.inl ⟨by rfl, ?h16_4016⟩) (by assumption) ?r16_4016
          case h16_4016 =>
            intro W hSW
            try dsimp only at hSW
            go_simp
            try with_reducible rfl
          try simp only [Act.put, List.setIfInBounds_toArray, List.set_cons_zero, List.set_cons_succ]
          refine wpAnyH_take (i := 17) (oi := { dst := some 38, op := Op.binOp BinOp.lss 3 (Operand.tmp 37) (Operand.const (Value.int IntKind.i64 0)) 3, type := 4, pos := "schedule.go:89", after := #[{ on := 16, ground := Ground.data }, { on := 15, ground := Ground.guard }], guard := some (15, true) }) (v := ?v17_4017) rfl (by kernel_rfl) (by kernel_rfl) (by kernel_rfl) (fun _ _ _ h => h) (Or.inl ⟨by rfl, ?h17_4017⟩) (by assumption) ?r17_4017
          case h17_4017 =>
            intro W hSW
            try dsimp only at hSW
            go_simp
            try with_reducible rfl
          try simp only [Act.put, List.setIfInBounds_toArray, List.set_cons_zero, List.set_cons_succ]
          refine wpAnyH_take (i := 18) (oi := { dst := some 39, op := Op.move (Operand.tmp 38), type := 4, pos := "schedule.go:89", after := #[{ on := 17, ground := Ground.data }, { on := 15, ground := Ground.chain }, { on := 15, ground := Ground.guard }], guard := some (15, true) }) (v := ?v18_4018) rfl (by kernel_rfl) (by kernel_rfl) (by kernel_rfl) (fun _ _ _ h => h) (Or.inl ⟨by rfl, ?h18_4018⟩) (by assumption) ?r18_4018
          case h18_4018 =>
            intro W hSW
            try dsimp only at hSW
            go_simp
            try with_reducible rfl
          try simp only [Act.put, List.setIfInBounds_toArray, List.set_cons_zero, List.set_cons_succ]
          refine wpAnyH_take (i := 19) (oi := { dst := some 40, op := Op.move (Operand.tmp 9), type := 71, pos := "schedule.go:89", after := #[{ on := 18, ground := Ground.guard }], guard := some (18, false) }) (v := ?v19_4019) rfl (by kernel_rfl) (by kernel_rfl) (by kernel_rfl) (fun _ _ _ h => h) (Or.inl ⟨by rfl, ?h19_4019⟩) (by assumption) ?r19_4019
          case h19_4019 =>
            intro W hSW
            try dsimp only at hSW
            go_simp
            try with_reducible rfl
          try simp only [Act.put, List.setIfInBounds_toArray, List.set_cons_zero, List.set_cons_succ]
          refine wpAnyH_take (i := 20) (oi := { dst := some 41, op := Op.move (Operand.tmp 0), type := 30, pos := "schedule.go:89", after := #[{ on := 18, ground := Ground.guard }], guard := some (18, false) }) (v := ?v20_4020) rfl (by kernel_rfl) (by kernel_rfl) (by kernel_rfl) (fun _ _ _ h => h) (Or.inl ⟨by rfl, ?h20_4020⟩) (by assumption) ?r20_4020
          case h20_4020 =>
            intro W hSW
            try dsimp only at hSW
            go_simp
            try with_reducible rfl
          try simp only [Act.put, List.setIfInBounds_toArray, List.set_cons_zero, List.set_cons_succ]
          refine wpAnyH_take (i := 21) (oi := { dst := some 42, op := Op.move (Operand.tmp 12), type := 3, pos := "schedule.go:89", after := #[{ on := 18, ground := Ground.guard }], guard := some (18, false) }) (v := ?v21_4021) rfl (by kernel_rfl) (by kernel_rfl) (by kernel_rfl) (fun _ _ _ h => h) (Or.inl ⟨by rfl, ?h21_4021⟩) (by assumption) ?r21_4021
          case h21_4021 =>
            intro W hSW
            try dsimp only at hSW
            go_simp
            try with_reducible rfl
          try simp only [Act.put, List.setIfInBounds_toArray, List.set_cons_zero, List.set_cons_succ]
          refine wpAnyH_take (i := 22) (oi := { dst := some 43, op := Op.indexAddr 30 (Operand.tmp 41) (Operand.tmp 42), type := 0, pos := "schedule.go:89", after := #[{ on := 20, ground := Ground.data }, { on := 21, ground := Ground.data }, { on := 18, ground := Ground.guard }], guard := some (18, false) }) (v := ?v22_4022) rfl (by kernel_rfl) (by kernel_rfl) (by kernel_rfl) (fun _ _ _ h => h) (Or.inl ⟨by rfl, ?h22_4022⟩) (by assumption) ?r22_4022
          case h22_4022 =>
            intro W hSW
            try dsimp only at hSW
            go_simp
            try with_reducible rfl
          try simp only [Act.put, List.setIfInBounds_toArray, List.set_cons_zero, List.set_cons_succ]
          refine wpAnyH_take (i := 23) (oi := { dst := some 44, op := Op.load 58 (Operand.tmp 43), type := 58, pos := "schedule.go:89", after := #[{ on := 22, ground := Ground.data }, { on := 18, ground := Ground.guard }], guard := some (18, false) }) (v := ?v23_4023) rfl (by kernel_rfl) (by kernel_rfl) (by kernel_rfl) (fun _ _ _ h => h) (Or.inl ⟨by rfl, ?h23_4023⟩) (by assumption) ?r23_4023
          case h23_4023 =>
            intro W hSW
            try dsimp only at hSW
            have hc0 := (hSW.cell (p := ⟨b, off + k * 5, none⟩) HBW.out).trans C0.out
            have hc1 := (hSW.cell (p := ⟨b, off + k * 5 + 1, none⟩) HBW.out).trans C1.out
            have hc2 := (hSW.cell (p := ⟨b, off + k * 5 + 2, none⟩) HBW.out).trans C2.out
            have hc3 := (hSW.cell (p := ⟨b, off + k * 5 + 3, none⟩) HBW.out).trans C3.out
            have hc4 := (hSW.cell (p := ⟨b, off + k * 5 + 4, none⟩) HBW.out).trans C4.out
            go_simp
            try with_reducible rfl
          try simp only [Act.put, List.setIfInBounds_toArray, List.set_cons_zero, List.set_cons_succ]
          refine wpAnyH_take (i := 24) (oi := { dst := some 45, op := Op.move (Operand.tmp 0), type := 30, pos := "schedule.go:89", after := #[{ on := 18, ground := Ground.guard }], guard := some (18, false) }) (v := ?v24_4024) rfl (by kernel_rfl) (by kernel_rfl) (by kernel_rfl) (fun _ _ _ h => h) (Or.inl ⟨by rfl, ?h24_4024⟩) (by assumption) ?r24_4024
          case h24_4024 =>
            intro W hSW
            try dsimp only at hSW
            go_simp
            try with_reducible rfl
          try simp only [Act.put, List.setIfInBounds_toArray, List.set_cons_zero, List.set_cons_succ]
          refine wpAnyH_take (i := 25) (oi := { dst := some 46, op := Op.move (Operand.tmp 10), type := 3, pos := "schedule.go:89", after := #[{ on := 18, ground := Ground.guard }], guard := some (18, false) }) (v := ?v25_4025) rfl (by kernel_rfl) (by kernel_rfl) (by kernel_rfl) (fun _ _ _ h => h) (Or.inl ⟨by rfl, ?h25_4025⟩) (by assumption) ?r25_4025
          case h25_4025 =>
            intro W hSW
            try dsimp only at hSW
            go_simp
            try with_reducible rfl
          try simp only [Act.put, List.setIfInBounds_toArray, List.set_cons_zero, List.set_cons_succ]
          refine wpAnyH_take (i := 26) (oi := { dst := some 47, op := Op.indexAddr 30 (Operand.tmp 45) (Operand.tmp 46), type := 0, pos := "schedule.go:89", after := #[{ on := 24, ground := Ground.data }, { on := 25, ground := Ground.data }, { on := 18, ground := Ground.guard }], guard := some (18, false) }) (v := ?v26_4026) rfl (by kernel_rfl) (by kernel_rfl) (by kernel_rfl) (fun _ _ _ h => h) (Or.inl ⟨by rfl, ?h26_4026⟩) (by assumption) ?r26_4026
          case h26_4026 =>
            intro W hSW
            try dsimp only at hSW
            go_simp
            try with_reducible rfl
          try simp only [Act.put, List.setIfInBounds_toArray, List.set_cons_zero, List.set_cons_succ]
          refine wpAnyH_take (i := 27) (oi := { dst := some 48, op := Op.load 58 (Operand.tmp 47), type := 58, pos := "schedule.go:89", after := #[{ on := 26, ground := Ground.data }, { on := 18, ground := Ground.guard }], guard := some (18, false) }) (v := ?v27_4027) rfl (by kernel_rfl) (by kernel_rfl) (by kernel_rfl) (fun _ _ _ h => h) (Or.inl ⟨by rfl, ?h27_4027⟩) (by assumption) ?r27_4027
          case h27_4027 =>
            intro W hSW
            try dsimp only at hSW
            have hc0 := (hSW.cell (p := ⟨b, off + p * 5, none⟩) HBW.out).trans D0.out
            have hc1 := (hSW.cell (p := ⟨b, off + p * 5 + 1, none⟩) HBW.out).trans D1.out
            have hc2 := (hSW.cell (p := ⟨b, off + p * 5 + 2, none⟩) HBW.out).trans D2.out
            have hc3 := (hSW.cell (p := ⟨b, off + p * 5 + 3, none⟩) HBW.out).trans D3.out
            have hc4 := (hSW.cell (p := ⟨b, off + p * 5 + 4, none⟩) HBW.out).trans D4.out
            go_simp
            try with_reducible rfl
          try simp only [Act.put, List.setIfInBounds_toArray, List.set_cons_zero, List.set_cons_succ]
          refine wpAnyH_ready (rs := [28]) (by kernel_rfl) (by simp) ?_
          refine AllReadyH.cons (o := { dst := some 49, op := Op.call { callee := Callee.value (Operand.tmp 40), args := #[Operand.tmp 44, Operand.tmp 48], argTypes := #[58, 58] }, type := 3, pos := "schedule.go:89", after := #[{ on := 19, ground := Ground.data }, { on := 23, ground := Ground.data }, { on := 27, ground := Ground.data }, { on := 18, ground := Ground.chain }, { on := 18, ground := Ground.guard }], guard := some (18, false) }) rfl (fun K hK => ?_) AllReadyH.nil
          go_simp
          refine (HCP.out _ HF1.out HF2.out _).mono ?_
          rintro e w2 ⟨cc, rfl, hcc2, b2⟩
          rw [HLT.out] at hcc2
          have hv2 : Below wr.heap.size wr w2 := hv1.trans (b2.mono hv1.size)
          go_wp2_with fail
          refine hK.out _ _ (hv2) (fun hHeld => ?_)
          clear hK K
          try simp only [Act.put, List.setIfInBounds_toArray, List.set_cons_zero, List.set_cons_succ]
          refine wpAnyH_take (i := 29) (oi := { dst := some 50, op := Op.binOp BinOp.lss 3 (Operand.tmp 49) (Operand.const (Value.int IntKind.i64 0)) 3, type := 4, pos := "schedule.go:89", after := #[{ on := 28, ground := Ground.data }, { on := 18, ground := Ground.guard }], guard := some (18, false) }) (v := ?v29_4028) rfl (by kernel_rfl) (by kernel_rfl) (by kernel_rfl) (fun _ _ _ h => h) (Or.inl ⟨by rfl, ?h29_4028⟩) (by assumption) ?r29_4028
          case h29_4028 =>
            intro W hSW
            try dsimp only at hSW
            go_simp
            try with_reducible rfl
          try simp only [Act.put, List.setIfInBounds_toArray, List.set_cons_zero, List.set_cons_succ]
          refine wpAnyH_take (i := 30) (oi := { dst := some 51, op := Op.pick (Operand.tmp 39) (Operand.const (Value.bool true)) (Operand.tmp 50), type := 4, pos := "schedule.go:89", after := #[{ on := 18, ground := Ground.data }, { on := 29, ground := Ground.data }, { on := 15, ground := Ground.guard }], guard := some (15, true) }) (v := ?v30_4029) rfl (by kernel_rfl) (by kernel_rfl) (by kernel_rfl) (fun _ _ _ h => h) (Or.inl ⟨by rfl, ?h30_4029⟩) (by assumption) ?r30_4029
          case h30_4029 =>
            intro W hSW
            try dsimp only at hSW
            go_simp
            try with_reducible rfl
          try simp only [Act.put, List.setIfInBounds_toArray, List.set_cons_zero, List.set_cons_succ]
          refine wpAnyH_take (i := 31) (oi := { dst := some 52, op := Op.pick (Operand.tmp 36) (Operand.tmp 51) (Operand.const (Value.bool false)), type := 4, pos := "schedule.go:89", after := #[{ on := 15, ground := Ground.data }, { on := 30, ground := Ground.data }], guard := none }) (v := ?v31_4030) rfl (by kernel_rfl) (by kernel_rfl) (by kernel_rfl) (fun _ _ _ h => h) (Or.inl ⟨by rfl, ?h31_4030⟩) (by assumption) ?r31_4030
          case h31_4030 =>
            intro W hSW
            try dsimp only at hSW
            go_simp
            try with_reducible rfl
          try simp only [Act.put, List.setIfInBounds_toArray, List.set_cons_zero, List.set_cons_succ]
          refine wpAnyH_done (by kernel_rfl) ?_ _
          go_wp2
          go_roundw
          case rel => exact ⟨j + 1, by omega, by rw [HRES.out, HV.out], by go_num, HB.out.trans (hv2.mono HB.out.size)⟩
          case measure => simp [intOf]; omega
        | false =>
          have HV : Hid (res = (p : Int)) := Lib.hid (by rw [HV0.out]; rfl)
          go_wp2_with fail
          have hv0 : Below wr.heap.size wr wr.drew := (Below.refl _ _).drew
          refine wp_region_held_drew (S := fun W => Below wr.heap.size wr W) (by kernel_rfl) (hv0) (fun hHeld => ?_)
          refine wpAnyH_take (i := 0) (oi := { dst := some 21, op := Op.move (Operand.tmp 0), type := 30, pos := "schedule.go:89", after := #[], guard := none }) (v := ?v0_5001) rfl (by kernel_rfl) (by kernel_rfl) (by kernel_rfl) (fun _ _ _ h => h) (Or.inl ⟨by rfl, ?h0_5001⟩) (by assumption) ?r0_5001
          case h0_5001 =>
            intro W hSW
            try dsimp only at hSW
            go_simp
            try with_reducible rfl
          try simp only [Act.put, List.setIfInBounds_toArray, List.set_cons_zero, List.set_cons_succ]
          refine wpAnyH_take (i := 1) (oi := { dst := some 22, op := Op.move (Operand.tmp 12), type := 3, pos := "schedule.go:89", after := #[], guard := none }) (v := ?v1_5002) rfl (by kernel_rfl) (by kernel_rfl) (by kernel_rfl) (fun _ _ _ h => h) (Or.inl ⟨by rfl, ?h1_5002⟩) (by assumption) ?r1_5002
          case h1_5002 =>
            intro W hSW
            try dsimp only at hSW
            go_simp
            try with_reducible rfl
          try simp only [Act.put, List.setIfInBounds_toArray, List.set_cons_zero, List.set_cons_succ]
          refine wpAnyH_take (i := 2) (oi := { dst := some 23, op := Op.indexAddr 30 (Operand.tmp 21) (Operand.tmp 22), type := 0, pos := "schedule.go:89", after := #[{ on := 0, ground := Ground.data }, { on := 1, ground := Ground.data }], guard := none }) (v := ?v2_5003) rfl (by kernel_rfl) (by kernel_rfl) (by kernel_rfl) (fun _ _ _ h => h) (Or.inl ⟨by rfl, ?h2_5003⟩) (by assumption) ?r2_5003
          case h2_5003 =>
            intro W hSW
            try dsimp only at hSW
            go_simp
            try with_reducible rfl
          try simp only [Act.put, List.setIfInBounds_toArray, List.set_cons_zero, List.set_cons_succ]
          refine wpAnyH_take (i := 3) (oi := { dst := some 24, op := Op.fieldAddr 58 (Operand.tmp 23) 0, type := 0, pos := "schedule.go:89", after := #[{ on := 2, ground := Ground.data }], guard := none }) (v := ?v3_5004) rfl (by kernel_rfl) (by kernel_rfl) (by kernel_rfl) (fun _ _ _ h => h) (Or.inl ⟨by rfl, ?h3_5004⟩) (by assumption) ?r3_5004
          case h3_5004 =>
            intro W hSW
            try dsimp only at hSW
            go_simp
            try with_reducible rfl
          try simp only [Act.put, List.setIfInBounds_toArray, List.set_cons_zero, List.set_cons_succ]
          refine wpAnyH_take (i := 4) (oi := { dst := some 25, op := Op.load 3 (Operand.tmp 24), type := 3, pos := "schedule.go:89", after := #[{ on := 3, ground := Ground.data }], guard := none }) (v := ?v4_5005) rfl (by kernel_rfl) (by kernel_rfl) (by kernel_rfl) (fun _ _ _ h => h) (Or.inl ⟨by rfl, ?h4_5005⟩) (by assumption) ?r4_5005
          case h4_5005 =>
            intro W hSW
            try dsimp only at hSW
            have hcc := (hSW.cell (p := ⟨b, off + k * 5, none⟩) HBW.out).trans C0.out
            go_simp
            try with_reducible rfl
          try simp only [Act.put, List.setIfInBounds_toArray, List.set_cons_zero, List.set_cons_succ]
          refine wpAnyH_take (i := 5) (oi := { dst := some 26, op := Op.move (Operand.tmp 2), type := 3, pos := "schedule.go:89", after := #[], guard := none }) (v := ?v5_5006) rfl (by kernel_rfl) (by kernel_rfl) (by kernel_rfl) (fun _ _ _ h => h) (Or.inl ⟨by rfl, ?h5_5006⟩) (by assumption) ?r5_5006
          case h5_5006 =>
            intro W hSW
            try dsimp only at hSW
            go_simp
            try with_reducible rfl
          try simp only [Act.put, List.setIfInBounds_toArray, List.set_cons_zero, List.set_cons_succ]
          refine wpAnyH_take (i := 6) (oi := { dst := some 27, op := Op.binOp BinOp.eql 3 (Operand.tmp 25) (Operand.tmp 26) 3, type := 4, pos := "schedule.go:89", after := #[{ on := 4, ground := Ground.data }, { on := 5, ground := Ground.data }], guard := none }) (v := ?v6_5007) rfl (by kernel_rfl) (by kernel_rfl) (by kernel_rfl) (fun _ _ _ h => h) (Or.inl ⟨by rfl, ?h6_5007⟩) (by assumption) ?r6_5007
          case h6_5007 =>
            intro W hSW
            try dsimp only at hSW
            go_simp
            try with_reducible rfl
          try simp only [Act.put, List.setIfInBounds_toArray, List.set_cons_zero, List.set_cons_succ]
          refine wpAnyH_take (i := 7) (oi := { dst := some 28, op := Op.move (Operand.tmp 27), type := 4, pos := "schedule.go:89", after := #[{ on := 6, ground := Ground.data }], guard := none }) (v := ?v7_5008) rfl (by kernel_rfl) (by kernel_rfl) (by kernel_rfl) (fun _ _ _ h => h) (Or.inl ⟨by rfl, ?h7_5008⟩) (by assumption) ?r7_5008
          case h7_5008 =>
            intro W hSW
            try dsimp only at hSW
            go_simp
            try with_reducible rfl
          try simp only [Act.put, List.setIfInBounds_toArray, List.set_cons_zero, List.set_cons_succ]
          refine wpAnyH_take (i := 8) (oi := { dst := some 29, op := Op.move (Operand.tmp 3), type := 67, pos := "schedule.go:89", after := #[{ on := 7, ground := Ground.guard }], guard := some (7, true) }) (v := ?v8_5009) rfl (by kernel_rfl) (by kernel_rfl) (by kernel_rfl) (fun _ _ _ h => h) (Or.inl ⟨by rfl, ?h8_5009⟩) (by assumption) ?r8_5009
          case h8_5009 =>
            intro W hSW
            try dsimp only at hSW
            go_simp
            try with_reducible rfl
          try simp only [Act.put, List.setIfInBounds_toArray, List.set_cons_zero, List.set_cons_succ]
          refine wpAnyH_take (i := 9) (oi := { dst := some 30, op := Op.move (Operand.tmp 0), type := 30, pos := "schedule.go:89", after := #[{ on := 7, ground := Ground.guard }], guard := some (7, true) }) (v := ?v9_5010) rfl (by kernel_rfl) (by kernel_rfl) (by kernel_rfl) (fun _ _ _ h => h) (Or.inl ⟨by rfl, ?h9_5010⟩) (by assumption) ?r9_5010
          case h9_5010 =>
            intro W hSW
            try dsimp only at hSW
            go_simp
            try with_reducible rfl
          try simp only [Act.put, List.setIfInBounds_toArray, List.set_cons_zero, List.set_cons_succ]
          refine wpAnyH_take (i := 10) (oi := { dst := some 31, op := Op.move (Operand.tmp 12), type := 3, pos := "schedule.go:89", after := #[{ on := 7, ground := Ground.guard }], guard := some (7, true) }) (v := ?v10_5011) rfl (by kernel_rfl) (by kernel_rfl) (by kernel_rfl) (fun _ _ _ h => h) (Or.inl ⟨by rfl, ?h10_5011⟩) (by assumption) ?r10_5011
          case h10_5011 =>
            intro W hSW
            try dsimp only at hSW
            go_simp
            try with_reducible rfl
          try simp only [Act.put, List.setIfInBounds_toArray, List.set_cons_zero, List.set_cons_succ]
          refine wpAnyH_take (i := 11) (oi := { dst := some 32, op := Op.indexAddr 30 (Operand.tmp 30) (Operand.tmp 31), type := 0, pos := "schedule.go:89", after := #[{ on := 9, ground := Ground.data }, { on := 10, ground := Ground.data }, { on := 7, ground := Ground.guard }], guard := some (7, true) }) (v := ?v11_5012) rfl (by kernel_rfl) (by kernel_rfl) (by kernel_rfl) (fun _ _ _ h => h) (Or.inl ⟨by rfl, ?h11_5012⟩) (by assumption) ?r11_5012
          case h11_5012 =>
            intro W hSW
            try dsimp only at hSW
            go_simp
            try with_reducible rfl
          try simp only [Act.put, List.setIfInBounds_toArray, List.set_cons_zero, List.set_cons_succ]
          refine wpAnyH_take (i := 12) (oi := { dst := some 33, op := Op.load 58 (Operand.tmp 32), type := 58, pos := "schedule.go:89", after := #[{ on := 11, ground := Ground.data }, { on := 7, ground := Ground.guard }], guard := some (7, true) }) (v := ?v12_5013) rfl (by kernel_rfl) (by kernel_rfl) (by kernel_rfl) (fun _ _ _ h => h) (Or.inl ⟨by rfl, ?h12_5013⟩) (by assumption) ?r12_5013
          case h12_5013 =>
            intro W hSW
            try dsimp only at hSW
            have hc0 := (hSW.cell (p := ⟨b, off + k * 5, none⟩) HBW.out).trans C0.out
            have hc1 := (hSW.cell (p := ⟨b, off + k * 5 + 1, none⟩) HBW.out).trans C1.out
            have hc2 := (hSW.cell (p := ⟨b, off + k * 5 + 2, none⟩) HBW.out).trans C2.out
            have hc3 := (hSW.cell (p := ⟨b, off + k * 5 + 3, none⟩) HBW.out).trans C3.out
            have hc4 := (hSW.cell (p := ⟨b, off + k * 5 + 4, none⟩) HBW.out).trans C4.out
            go_simp
            try with_reducible rfl
          try simp only [Act.put, List.setIfInBounds_toArray, List.set_cons_zero, List.set_cons_succ]
          refine wpAnyH_ready (rs := [13]) (by kernel_rfl) (by simp) ?_
          refine AllReadyH.cons (o := { dst := some 34, op := Op.call { callee := Callee.value (Operand.tmp 29), args := #[Operand.tmp 33], argTypes := #[58] }, type := 4, pos := "schedule.go:89", after := #[{ on := 8, ground := Ground.data }, { on := 12, ground := Ground.data }, { on := 7, ground := Ground.chain }, { on := 7, ground := Ground.guard }], guard := some (7, true) }) rfl (fun K hK => ?_) AllReadyH.nil
          go_simp
          refine (HIS.out _).mono ?_
          rintro e w1 ⟨rfl, b1⟩
          have hv1 : Below wr.heap.size wr w1 := hv0.trans (b1.mono hv0.size)
          go_wp2_with fail
          refine hK.out _ _ (hv1) (fun hHeld => ?_)
          clear hK K
          try simp only [Act.put, List.setIfInBounds_toArray, List.set_cons_zero, List.set_cons_succ]
          refine wpAnyH_take (i := 14) (oi := { dst := some 35, op := Op.pick (Operand.tmp 28) (Operand.tmp 34) (Operand.const (Value.bool false)), type := 4, pos := "schedule.go:89", after := #[{ on := 7, ground := Ground.data }, { on := 13, ground := Ground.data }], guard := none }) (v := ?v14_5014) rfl (by kernel_rfl) (by kernel_rfl) (by kernel_rfl) (fun _ _ _ h => h) (Or.inl ⟨by rfl, ?h14_5014⟩) (by assumption) ?r14_5014
          case h14_5014 =>
            intro W hSW
            try dsimp only at hSW
            go_simp
            try with_reducible rfl
          try simp only [Act.put, List.setIfInBounds_toArray, List.set_cons_zero, List.set_cons_succ]
          refine wpAnyH_take (i := 15) (oi := { dst := some 36, op := Op.move (Operand.tmp 35), type := 4, pos := "schedule.go:89", after := #[{ on := 14, ground := Ground.data }, { on := 13, ground := Ground.chain }], guard := none }) (v := ?v15_5015) rfl (by kernel_rfl) (by kernel_rfl) (by kernel_rfl) (fun _ _ _ h => h) (Or.inl ⟨by rfl, ?h15_5015⟩) (by assumption) ?r15_5015
          case h15_5015 =>
            intro W hSW
            try dsimp only at hSW
            go_simp
            try with_reducible rfl
          try simp only [Act.put, List.setIfInBounds_toArray, List.set_cons_zero, List.set_cons_succ]
          refine wpAnyH_take (i := 16) (oi := { dst := some 37, op := Op.move (Operand.tmp 10), type := 3, pos := "schedule.go:89", after := #[{ on := 15, ground := Ground.guard }], guard := some (15, true) }) (v := ?v16_5016) rfl (by kernel_rfl) (by kernel_rfl) (by kernel_rfl) (fun _ _ _ h => h) (Or.inl ⟨by rfl, ?h16_5016⟩) (by assumption) ?r16_5016
          case h16_5016 =>
            intro W hSW
            try dsimp only at hSW
            go_simp
            try with_reducible rfl
          try simp only [Act.put, List.setIfInBounds_toArray, List.set_cons_zero, List.set_cons_succ]
          refine wpAnyH_take (i := 17) (oi := { dst := some 38, op := Op.binOp BinOp.lss 3 (Operand.tmp 37) (Operand.const (Value.int IntKind.i64 0)) 3, type := 4, pos := "schedule.go:89", after := #[{ on := 16, ground := Ground.data }, { on := 15, ground := Ground.guard }], guard := some (15, true) }) (v := ?v17_5017) rfl (by kernel_rfl) (by kernel_rfl) (by kernel_rfl) (fun _ _ _ h => h) (Or.inl ⟨by rfl, ?h17_5017⟩) (by assumption) ?r17_5017
          case h17_5017 =>
            intro W hSW
            try dsimp only at hSW
            go_simp
            try with_reducible rfl
          try simp only [Act.put, List.setIfInBounds_toArray, List.set_cons_zero, List.set_cons_succ]
          refine wpAnyH_take (i := 18) (oi := { dst := some 39, op := Op.move (Operand.tmp 38), type := 4, pos := "schedule.go:89", after := #[{ on := 17, ground := Ground.data }, { on := 15, ground := Ground.chain }, { on := 15, ground := Ground.guard }], guard := some (15, true) }) (v := ?v18_5018) rfl (by kernel_rfl) (by kernel_rfl) (by kernel_rfl) (fun _ _ _ h => h) (Or.inl ⟨by rfl, ?h18_5018⟩) (by assumption) ?r18_5018
          case h18_5018 =>
            intro W hSW
            try dsimp only at hSW
            go_simp
            try with_reducible rfl
          try simp only [Act.put, List.setIfInBounds_toArray, List.set_cons_zero, List.set_cons_succ]
          refine wpAnyH_take (i := 19) (oi := { dst := some 40, op := Op.move (Operand.tmp 9), type := 71, pos := "schedule.go:89", after := #[{ on := 18, ground := Ground.guard }], guard := some (18, false) }) (v := ?v19_5019) rfl (by kernel_rfl) (by kernel_rfl) (by kernel_rfl) (fun _ _ _ h => h) (Or.inl ⟨by rfl, ?h19_5019⟩) (by assumption) ?r19_5019
          case h19_5019 =>
            intro W hSW
            try dsimp only at hSW
            go_simp
            try with_reducible rfl
          try simp only [Act.put, List.setIfInBounds_toArray, List.set_cons_zero, List.set_cons_succ]
          refine wpAnyH_take (i := 20) (oi := { dst := some 41, op := Op.move (Operand.tmp 0), type := 30, pos := "schedule.go:89", after := #[{ on := 18, ground := Ground.guard }], guard := some (18, false) }) (v := ?v20_5020) rfl (by kernel_rfl) (by kernel_rfl) (by kernel_rfl) (fun _ _ _ h => h) (Or.inl ⟨by rfl, ?h20_5020⟩) (by assumption) ?r20_5020
          case h20_5020 =>
            intro W hSW
            try dsimp only at hSW
            go_simp
            try with_reducible rfl
          try simp only [Act.put, List.setIfInBounds_toArray, List.set_cons_zero, List.set_cons_succ]
          refine wpAnyH_take (i := 21) (oi := { dst := some 42, op := Op.move (Operand.tmp 12), type := 3, pos := "schedule.go:89", after := #[{ on := 18, ground := Ground.guard }], guard := some (18, false) }) (v := ?v21_5021) rfl (by kernel_rfl) (by kernel_rfl) (by kernel_rfl) (fun _ _ _ h => h) (Or.inl ⟨by rfl, ?h21_5021⟩) (by assumption) ?r21_5021
          case h21_5021 =>
            intro W hSW
            try dsimp only at hSW
            go_simp
            try with_reducible rfl
          try simp only [Act.put, List.setIfInBounds_toArray, List.set_cons_zero, List.set_cons_succ]
          refine wpAnyH_take (i := 22) (oi := { dst := some 43, op := Op.indexAddr 30 (Operand.tmp 41) (Operand.tmp 42), type := 0, pos := "schedule.go:89", after := #[{ on := 20, ground := Ground.data }, { on := 21, ground := Ground.data }, { on := 18, ground := Ground.guard }], guard := some (18, false) }) (v := ?v22_5022) rfl (by kernel_rfl) (by kernel_rfl) (by kernel_rfl) (fun _ _ _ h => h) (Or.inl ⟨by rfl, ?h22_5022⟩) (by assumption) ?r22_5022
          case h22_5022 =>
            intro W hSW
            try dsimp only at hSW
            go_simp
            try with_reducible rfl
          try simp only [Act.put, List.setIfInBounds_toArray, List.set_cons_zero, List.set_cons_succ]
          refine wpAnyH_take (i := 23) (oi := { dst := some 44, op := Op.load 58 (Operand.tmp 43), type := 58, pos := "schedule.go:89", after := #[{ on := 22, ground := Ground.data }, { on := 18, ground := Ground.guard }], guard := some (18, false) }) (v := ?v23_5023) rfl (by kernel_rfl) (by kernel_rfl) (by kernel_rfl) (fun _ _ _ h => h) (Or.inl ⟨by rfl, ?h23_5023⟩) (by assumption) ?r23_5023
          case h23_5023 =>
            intro W hSW
            try dsimp only at hSW
            have hc0 := (hSW.cell (p := ⟨b, off + k * 5, none⟩) HBW.out).trans C0.out
            have hc1 := (hSW.cell (p := ⟨b, off + k * 5 + 1, none⟩) HBW.out).trans C1.out
            have hc2 := (hSW.cell (p := ⟨b, off + k * 5 + 2, none⟩) HBW.out).trans C2.out
            have hc3 := (hSW.cell (p := ⟨b, off + k * 5 + 3, none⟩) HBW.out).trans C3.out
            have hc4 := (hSW.cell (p := ⟨b, off + k * 5 + 4, none⟩) HBW.out).trans C4.out
            go_simp
            try with_reducible rfl
          try simp only [Act.put, List.setIfInBounds_toArray, List.set_cons_zero, List.set_cons_succ]
          refine wpAnyH_take (i := 24) (oi := { dst := some 45, op := Op.move (Operand.tmp 0), type := 30, pos := "schedule.go:89", after := #[{ on := 18, ground := Ground.guard }], guard := some (18, false) }) (v := ?v24_5024) rfl (by kernel_rfl) (by kernel_rfl) (by kernel_rfl) (fun _ _ _ h => h) (Or.inl ⟨by rfl, ?h24_5024⟩) (by assumption) ?r24_5024
          case h24_5024 =>
            intro W hSW
            try dsimp only at hSW
            go_simp
            try with_reducible rfl
          try simp only [Act.put, List.setIfInBounds_toArray, List.set_cons_zero, List.set_cons_succ]
          refine wpAnyH_take (i := 25) (oi := { dst := some 46, op := Op.move (Operand.tmp 10), type := 3, pos := "schedule.go:89", after := #[{ on := 18, ground := Ground.guard }], guard := some (18, false) }) (v := ?v25_5025) rfl (by kernel_rfl) (by kernel_rfl) (by kernel_rfl) (fun _ _ _ h => h) (Or.inl ⟨by rfl, ?h25_5025⟩) (by assumption) ?r25_5025
          case h25_5025 =>
            intro W hSW
            try dsimp only at hSW
            go_simp
            try with_reducible rfl
          try simp only [Act.put, List.setIfInBounds_toArray, List.set_cons_zero, List.set_cons_succ]
          refine wpAnyH_take (i := 26) (oi := { dst := some 47, op := Op.indexAddr 30 (Operand.tmp 45) (Operand.tmp 46), type := 0, pos := "schedule.go:89", after := #[{ on := 24, ground := Ground.data }, { on := 25, ground := Ground.data }, { on := 18, ground := Ground.guard }], guard := some (18, false) }) (v := ?v26_5026) rfl (by kernel_rfl) (by kernel_rfl) (by kernel_rfl) (fun _ _ _ h => h) (Or.inl ⟨by rfl, ?h26_5026⟩) (by assumption) ?r26_5026
          case h26_5026 =>
            intro W hSW
            try dsimp only at hSW
            go_simp
            try with_reducible rfl
          try simp only [Act.put, List.setIfInBounds_toArray, List.set_cons_zero, List.set_cons_succ]
          refine wpAnyH_take (i := 27) (oi := { dst := some 48, op := Op.load 58 (Operand.tmp 47), type := 58, pos := "schedule.go:89", after := #[{ on := 26, ground := Ground.data }, { on := 18, ground := Ground.guard }], guard := some (18, false) }) (v := ?v27_5027) rfl (by kernel_rfl) (by kernel_rfl) (by kernel_rfl) (fun _ _ _ h => h) (Or.inl ⟨by rfl, ?h27_5027⟩) (by assumption) ?r27_5027
          case h27_5027 =>
            intro W hSW
            try dsimp only at hSW
            have hc0 := (hSW.cell (p := ⟨b, off + p * 5, none⟩) HBW.out).trans D0.out
            have hc1 := (hSW.cell (p := ⟨b, off + p * 5 + 1, none⟩) HBW.out).trans D1.out
            have hc2 := (hSW.cell (p := ⟨b, off + p * 5 + 2, none⟩) HBW.out).trans D2.out
            have hc3 := (hSW.cell (p := ⟨b, off + p * 5 + 3, none⟩) HBW.out).trans D3.out
            have hc4 := (hSW.cell (p := ⟨b, off + p * 5 + 4, none⟩) HBW.out).trans D4.out
            go_simp
            try with_reducible rfl
          try simp only [Act.put, List.setIfInBounds_toArray, List.set_cons_zero, List.set_cons_succ]
          refine wpAnyH_ready (rs := [28]) (by kernel_rfl) (by simp) ?_
          refine AllReadyH.cons (o := { dst := some 49, op := Op.call { callee := Callee.value (Operand.tmp 40), args := #[Operand.tmp 44, Operand.tmp 48], argTypes := #[58, 58] }, type := 3, pos := "schedule.go:89", after := #[{ on := 19, ground := Ground.data }, { on := 23, ground := Ground.data }, { on := 27, ground := Ground.data }, { on := 18, ground := Ground.chain }, { on := 18, ground := Ground.guard }], guard := some (18, false) }) rfl (fun K hK => ?_) AllReadyH.nil
          go_simp
          refine (HCP.out _ HF1.out HF2.out _).mono ?_
          rintro e w2 ⟨cc, rfl, hcc2, b2⟩
          rw [HLT.out] at hcc2
          have hv2 : Below wr.heap.size wr w2 := hv1.trans (b2.mono hv1.size)
          go_wp2_with fail
          refine hK.out _ _ (hv2) (fun hHeld => ?_)
          clear hK K
          try simp only [Act.put, List.setIfInBounds_toArray, List.set_cons_zero, List.set_cons_succ]
          refine wpAnyH_take (i := 29) (oi := { dst := some 50, op := Op.binOp BinOp.lss 3 (Operand.tmp 49) (Operand.const (Value.int IntKind.i64 0)) 3, type := 4, pos := "schedule.go:89", after := #[{ on := 28, ground := Ground.data }, { on := 18, ground := Ground.guard }], guard := some (18, false) }) (v := ?v29_5028) rfl (by kernel_rfl) (by kernel_rfl) (by kernel_rfl) (fun _ _ _ h => h) (Or.inl ⟨by rfl, ?h29_5028⟩) (by assumption) ?r29_5028
          case h29_5028 =>
            intro W hSW
            try dsimp only at hSW
            go_simp
            try with_reducible rfl
          try simp only [Act.put, List.setIfInBounds_toArray, List.set_cons_zero, List.set_cons_succ]
          refine wpAnyH_take (i := 30) (oi := { dst := some 51, op := Op.pick (Operand.tmp 39) (Operand.const (Value.bool true)) (Operand.tmp 50), type := 4, pos := "schedule.go:89", after := #[{ on := 18, ground := Ground.data }, { on := 29, ground := Ground.data }, { on := 15, ground := Ground.guard }], guard := some (15, true) }) (v := ?v30_5029) rfl (by kernel_rfl) (by kernel_rfl) (by kernel_rfl) (fun _ _ _ h => h) (Or.inl ⟨by rfl, ?h30_5029⟩) (by assumption) ?r30_5029
          case h30_5029 =>
            intro W hSW
            try dsimp only at hSW
            go_simp
            try with_reducible rfl
          try simp only [Act.put, List.setIfInBounds_toArray, List.set_cons_zero, List.set_cons_succ]
          refine wpAnyH_take (i := 31) (oi := { dst := some 52, op := Op.pick (Operand.tmp 36) (Operand.tmp 51) (Operand.const (Value.bool false)), type := 4, pos := "schedule.go:89", after := #[{ on := 15, ground := Ground.data }, { on := 30, ground := Ground.data }], guard := none }) (v := ?v31_5030) rfl (by kernel_rfl) (by kernel_rfl) (by kernel_rfl) (fun _ _ _ h => h) (Or.inl ⟨by rfl, ?h31_5030⟩) (by assumption) ?r31_5030
          case h31_5030 =>
            intro W hSW
            try dsimp only at hSW
            go_simp
            try with_reducible rfl
          try simp only [Act.put, List.setIfInBounds_toArray, List.set_cons_zero, List.set_cons_succ]
          refine wpAnyH_done (by kernel_rfl) ?_ _
          go_wp2
          go_roundw
          case rel => exact ⟨j + 1, by omega, by rw [HRES.out, HV.out], by go_num, HB.out.trans (hv2.mono HB.out.size)⟩
          case measure => simp [intOf]; omega
    · obtain rfl : j = m := by omega
      have HT : Hid (ks.take j = ks) := Lib.hid (List.take_of_length_le (by omega))
      go_wp2
      go_ret
      exact ⟨ret_int (by rw [HT.out]), hb⟩
end Go.Proofs.Ytfihdenapjmaeaa
