/- The reference's best task of a kind among those that are not gone. Conditions: at most 1000 tasks. -/
import Derived.Test.YtfihdenapjmaeaaSch22
namespace Go.Proofs.Ytfihdenapjmaeaa
set_option linter.unusedVariables false
set_option linter.unusedSimpArgs false
open Go.RowKit
/-- the tasks that the reference takes: those that can be chosen; urgent: with no further loss to survive -/
def isU (u : Bool) (t : Sc.Tk) : Bool := Sc.can t && (!u || decide (t.left = 0))
/-- the indices that are not gone -/
def ixs (gn : Nat → Bool) (j : Nat) : List Nat := (List.range j).filter fun k => !gn k
theorem ixs_gone {gn : Nat → Bool} {j : Nat} (h : gn j = true) : ixs gn (j + 1) = ixs gn j := by simp [ixs, List.range_succ, h]
theorem ixs_here {gn : Nat → Bool} {j : Nat} (h : gn j = false) : ixs gn (j + 1) = ixs gn j ++ [j] := by simp [ixs, List.range_succ, h]
theorem ixs_lt {gn : Nat → Bool} {j k : Nat} (h : k ∈ ixs gn j) : k < j := by simp [ixs] at h; exact h.1
theorem isU_can {u : Bool} {kd : Int} {t : Sc.Tk} (h : Sc.fit kd (isU u) t = true) : Sc.fit kd Sc.can t = true := by
  simp [Sc.fit, isU] at *; exact ⟨h.1, h.2.1⟩
theorem best_congr {L : List Sc.Tk} {ks : List Nat} {kd : Int} {f g : Sc.Tk → Bool} (h : ∀ t, Sc.fit kd f t = Sc.fit kd g t) : Sc.best L ks kd f = Sc.best L ks kd g := by
  have : Sc.pick L kd f = Sc.pick L kd g := by funext o k; unfold Sc.pick; rw [h]
  unfold Sc.best; rw [this]
theorem best_isU_can (L : List Sc.Tk) (ks : List Nat) (kd : Int) : Sc.best L ks kd (isU false) = Sc.best L ks kd Sc.can := best_congr fun t => by simp [Sc.fit, isU]
theorem best_isU_urg (L : List Sc.Tk) (ks : List Nat) : Sc.best L ks 1 (isU true) = Sc.best L ks 1 Sc.urg := best_congr fun t => by
  rw [Bool.eq_iff_iff]; simp [Sc.fit, isU, Sc.can, Sc.urg]; omega
set_option maxRecDepth 100000 in
set_option maxHeartbeats 4000000 in
theorem refBest_any (kd : Int) (u : Bool) (A : Option Addr) (n c : Nat) (L : List Sc.Tk) (hL : L.length = n) (hn : n ≤ 1000) (g c2 : Nat) (gn : Nat → Bool) (B : Nat) (w : World) (hr : Rd w B 5 A n (L.flatMap tcs)) (hB : B ≤ w.heap.size) (hg : g < w.heap.size) (hgn : ∀ t, t < n → w.cell? ⟨g, t, none⟩ = some (.bool (gn t))) :
    Calls Try.prog 32 #[.slice A n c, .slice (some ⟨g, 0, none⟩) n c2, .int .i64 kd, .bool u] w fun e w' => e = .returned (.int .i64 (Sc.best L (ixs gn n) kd (isU u))) ∧ Below w.heap.size w w' := by
  go_enter Try.func32, Try.ntmps32
  go_wp2
  go_loopw [9, 10] (fun u9 u10 wr => ∃ j : Nat, j ≤ n ∧ u9 = .int .i64 (Sc.best L (ixs gn j) kd (isU u)) ∧ u10 = .int .i64 j ∧ Below w.heap.size w wr) (fun _ u10 _ => n - (intOf u10).toNat)
  case atStart => exact ⟨0, Nat.zero_le _, rfl, rfl, Below.refl _ _⟩
  case round =>
    obtain ⟨j, hj, rfl, rfl, hb⟩ := hrel
    by_cases hlt : j < n
    · obtain ⟨b, off, rfl, hb0, hc⟩ := (hr.below (hb.mono hB)).tk hL (by omega)
      have hG := (hb.cell (p := ⟨g, j, none⟩) hg).trans (hgn j hlt)
      have hor := Sc.best_or L (ixs gn j) kd (isU u)
      have hgc : gn j = true → ixs gn (j + 1) = ixs gn j := ixs_gone
      have hgh : gn j = false → Sc.best L (ixs gn (j + 1)) kd (isU u) = Sc.pick L kd (isU u) (Sc.best L (ixs gn j) kd (isU u)) j := fun h => by rw [ixs_here h, Sc.best_snoc]
      obtain ⟨o, ho⟩ : ∃ o, Sc.best L (ixs gn j) kd (isU u) = o := ⟨_, rfl⟩
      obtain ⟨res, hres⟩ : ∃ o, Sc.best L (ixs gn (j + 1)) kd (isU u) = o := ⟨_, rfl⟩
      rw [ho] at hor hgh
      have hg1 : gn j = true → res = o := fun h => by rw [← hres, hgc h, ho]
      rw [hres] at hgh
      rw [ho]
      have hlow : ∀ p ∈ ixs gn j, p < n := fun p hp => by have := ixs_lt hp; omega
      have HLOW := Lib.hid hlow
      have HRES := Lib.hid hres
      have HSN := Lib.hid hgh
      have HG1 := Lib.hid hg1
      have HOR := Lib.hid hor
      have HC := Lib.hid hc
      have hbw : b < wr.heap.size := Nat.lt_of_lt_of_le hb0 (Nat.le_trans hB hb.size)
      have HBW := Lib.hid hbw
      have HB := Lib.hid hb
      obtain ⟨t, ht⟩ : ∃ t, Sc.atK L j = t := ⟨_, rfl⟩
      have hck := hc j hlt
      rw [ht] at hck
      have HT := Lib.hid ht
      have HIS := Lib.hid (fun W => refCan_any t W)
      have HBT := Lib.hid (fun (u : Sc.Tk) (h1 : Sc.fit kd Sc.can t = true) (h2 : Sc.fit kd Sc.can u = true) W => refBetter_any kd t u h1 h2 W)
      obtain ⟨isv, hisv⟩ : ∃ v, Sc.can t = v := ⟨_, rfl⟩
      rw [hisv] at HIS
      have HISV := Lib.hid hisv
      obtain ⟨kind, row, grp, left, bad⟩ := t
      simp only [] at hck
      have c0 := hck.1
      have c1 := hck.2.1
      have c2 := hck.2.2.1
      have c3 := hck.2.2.2.1
      have c4 := hck.2.2.2.2
      have i0 : (0 : Int) ≤ (j : Int) := by omega
      have i1 : (j : Int) < (n : Int) := by omega
      obtain ⟨gq, hgq⟩ : ∃ v, gn j = v := ⟨_, rfl⟩
      rw [hgq] at hG HSN HG1
      clear hres hor hgc hgh hg1 hc hck ht hisv hr ho hb hbw hb0 hB hgn hg hlow
      cases gq with
      | true =>
        have HV := Lib.hid (HG1.out rfl)
        go_wp2_with fail
        go_roundw
        case rel => exact ⟨j + 1, by omega, by rw [HRES.out, HV.out], by go_num, HB.out⟩
        case measure => simp [intOf]; omega
      | false =>
      have hpk := HSN.out rfl
      have HPK := Lib.hid hpk
      clear hpk
      by_cases hkd : kind = kd
      case neg =>
        have e1 : (kind == kd) = false := by simpa using hkd
        have e1' : (kind != kd) = true := by simpa using hkd
        have HV : Hid (res = o) := Lib.hid (by rw [HPK.out]; unfold Sc.pick Sc.fit; rw [HT.out]; simp [hkd])
        clear hkd
        go_wp2_with fail
        go_roundw
        case rel => exact ⟨j + 1, by omega, by rw [HRES.out, HV.out], by go_num, HB.out⟩
        case measure => simp [intOf]; omega
      case pos =>
      subst hkd
      cases isv with
      | false =>
        have HV : Hid (res = o) := Lib.hid (by rw [HPK.out]; unfold Sc.pick Sc.fit isU; rw [HT.out, HISV.out]; simp)
        go_wp2_with (go_at_call 38; refine (HIS.out _).mono ?_; rintro e w2 ⟨rfl, b2⟩)
        go_roundw
        case rel => exact ⟨j + 1, by omega, by rw [HRES.out, HV.out], by go_num, HB.out.trans (b2.mono HB.out.size)⟩
        case measure => simp [intOf]; omega
      | true =>
      by_cases hul : u = true ∧ left ≠ 0
      case pos =>
        obtain ⟨rfl, hl⟩ := hul
        have e2 : (left == 0) = false := by simpa using hl
        have e2' : (left != 0) = true := by simpa using hl
        have HV : Hid (res = o) := Lib.hid (by rw [HPK.out]; unfold Sc.pick Sc.fit isU; rw [HT.out]; simp [hl])
        clear hl
        go_wp2_with (go_at_call 38; refine (HIS.out _).mono ?_; rintro e w2 ⟨rfl, b2⟩; have y0 := (b2.cell (p := ⟨b, off + j * 5 + 3, none⟩) HBW.out).trans c3)
        go_roundw
        case rel => exact ⟨j + 1, by omega, by rw [HRES.out, HV.out], by go_num, HB.out.trans (b2.mono HB.out.size)⟩
        case measure => simp [intOf]; omega
      case neg =>
      have hft : Sc.fit kind (isU u) (Sc.atK L j) = true := by
        unfold Sc.fit isU; rw [HT.out, HISV.out]; cases u <;> simp_all
      have HL0 : Hid (u = true → left = 0) := Lib.hid (fun h => by simp [h] at hul; exact hul)
      clear hul
      rcases HOR.out with ⟨ho, _⟩ | ⟨p, hp, ho, hpf⟩
      · subst ho
        have HV : Hid (res = (j : Int)) := Lib.hid (by rw [HPK.out]; unfold Sc.pick; rw [hft]; rfl)
        clear hft
        cases u with
        | true =>
          have e2 : (left == 0) = true := by simpa using HL0.out rfl
          have e2' : (left != 0) = false := by simpa using HL0.out rfl
          go_wp2_with (first | fail | (go_at_call 38; refine (HIS.out _).mono ?_; rintro e w2 ⟨rfl, b2⟩; have y0 := (b2.cell (p := ⟨b, off + j * 5 + 3, none⟩) HBW.out).trans c3))
          have HBW2 := Lib.hid (Nat.lt_of_lt_of_le HBW.out b2.size)
          have HB2 := Lib.hid (HB.out.trans (b2.mono HB.out.size))
          have C0 := Lib.hid ((b2.cell (p := ⟨b, off + j * 5, none⟩) HBW.out).trans c0)
          have C1 := Lib.hid ((b2.cell (p := ⟨b, off + j * 5 + 1, none⟩) HBW.out).trans c1)
          have C2 := Lib.hid ((b2.cell (p := ⟨b, off + j * 5 + 2, none⟩) HBW.out).trans c2)
          have C3 := Lib.hid ((b2.cell (p := ⟨b, off + j * 5 + 3, none⟩) HBW.out).trans c3)
          have C4 := Lib.hid ((b2.cell (p := ⟨b, off + j * 5 + 4, none⟩) HBW.out).trans c4)
          have hv0 : Below w2.heap.size w2 w2.drew := (Below.refl _ _).drew
          refine wp_region_held_drew (S := fun W => Below w2.heap.size w2 W) (by kernel_rfl) (hv0) (fun hHeld => ?_)
          refine wpAnyH_take (i := 0) (oi := { dst := some 49, op := Op.move (Operand.tmp 9), type := 3, pos := "ref.go:71", after := #[], guard := none }) (v := ?v0_1001) rfl (by kernel_rfl) (by kernel_rfl) (by kernel_rfl) (fun _ _ _ h => h) (Or.inl ⟨by rfl, ?h0_1001⟩) (by assumption) ?r0_1001
          case h0_1001 =>
            intro W hSW
            try dsimp only at hSW
            go_simp
            try with_reducible rfl
          try simp only [Act.put, List.setIfInBounds_toArray, List.set_cons_zero, List.set_cons_succ]
          refine wpAnyH_take (i := 1) (oi := { dst := some 50, op := Op.binOp BinOp.lss 3 (Operand.tmp 49) (Operand.const (Value.int IntKind.i64 0)) 3, type := 4, pos := "ref.go:71", after := #[{ on := 0, ground := Ground.data }], guard := none }) (v := ?v1_1002) rfl (by kernel_rfl) (by kernel_rfl) (by kernel_rfl) (fun _ _ _ h => h) (Or.inl ⟨by rfl, ?h1_1002⟩) (by assumption) ?r1_1002
          case h1_1002 =>
            intro W hSW
            try dsimp only at hSW
            go_simp
            try with_reducible rfl
          try simp only [Act.put, List.setIfInBounds_toArray, List.set_cons_zero, List.set_cons_succ]
          refine wpAnyH_take (i := 2) (oi := { dst := some 51, op := Op.move (Operand.tmp 50), type := 4, pos := "ref.go:71", after := #[{ on := 1, ground := Ground.data }], guard := none }) (v := ?v2_1003) rfl (by kernel_rfl) (by kernel_rfl) (by kernel_rfl) (fun _ _ _ h => h) (Or.inl ⟨by rfl, ?h2_1003⟩) (by assumption) ?r2_1003
          case h2_1003 =>
            intro W hSW
            try dsimp only at hSW
            go_simp
            try with_reducible rfl
          try simp only [Act.put, List.setIfInBounds_toArray, List.set_cons_zero, List.set_cons_succ]
          refine wpAnyH_take (i := 3) (oi := { dst := some 52, op := Op.move (Operand.tmp 0), type := 23, pos := "ref.go:71", after := #[{ on := 2, ground := Ground.guard }], guard := some (2, false) }) (v := undef) rfl (by kernel_rfl) (by kernel_rfl) (by kernel_rfl) (fun _ _ _ h => h) (Or.inr ⟨by rfl, rfl⟩) (by assumption) ?_
          try simp only [Act.put, List.setIfInBounds_toArray, List.set_cons_zero, List.set_cons_succ]
          refine wpAnyH_take (i := 4) (oi := { dst := some 53, op := Op.move (Operand.tmp 10), type := 3, pos := "ref.go:71", after := #[{ on := 2, ground := Ground.guard }], guard := some (2, false) }) (v := undef) rfl (by kernel_rfl) (by kernel_rfl) (by kernel_rfl) (fun _ _ _ h => h) (Or.inr ⟨by rfl, rfl⟩) (by assumption) ?_
          try simp only [Act.put, List.setIfInBounds_toArray, List.set_cons_zero, List.set_cons_succ]
          refine wpAnyH_take (i := 5) (oi := { dst := some 54, op := Op.indexAddr 23 (Operand.tmp 52) (Operand.tmp 53), type := 0, pos := "ref.go:71", after := #[{ on := 3, ground := Ground.data }, { on := 4, ground := Ground.data }, { on := 2, ground := Ground.guard }], guard := some (2, false) }) (v := undef) rfl (by kernel_rfl) (by kernel_rfl) (by kernel_rfl) (fun _ _ _ h => h) (Or.inr ⟨by rfl, rfl⟩) (by assumption) ?_
          try simp only [Act.put, List.setIfInBounds_toArray, List.set_cons_zero, List.set_cons_succ]
          refine wpAnyH_take (i := 6) (oi := { dst := some 55, op := Op.load 49 (Operand.tmp 54), type := 49, pos := "ref.go:71", after := #[{ on := 5, ground := Ground.data }, { on := 2, ground := Ground.guard }], guard := some (2, false) }) (v := undef) rfl (by kernel_rfl) (by kernel_rfl) (by kernel_rfl) (fun _ _ _ h => h) (Or.inr ⟨by rfl, rfl⟩) (by assumption) ?_
          try simp only [Act.put, List.setIfInBounds_toArray, List.set_cons_zero, List.set_cons_succ]
          refine wpAnyH_take (i := 7) (oi := { dst := some 56, op := Op.move (Operand.tmp 0), type := 23, pos := "ref.go:71", after := #[{ on := 2, ground := Ground.guard }], guard := some (2, false) }) (v := undef) rfl (by kernel_rfl) (by kernel_rfl) (by kernel_rfl) (fun _ _ _ h => h) (Or.inr ⟨by rfl, rfl⟩) (by assumption) ?_
          try simp only [Act.put, List.setIfInBounds_toArray, List.set_cons_zero, List.set_cons_succ]
          refine wpAnyH_take (i := 8) (oi := { dst := some 57, op := Op.move (Operand.tmp 9), type := 3, pos := "ref.go:71", after := #[{ on := 2, ground := Ground.guard }], guard := some (2, false) }) (v := undef) rfl (by kernel_rfl) (by kernel_rfl) (by kernel_rfl) (fun _ _ _ h => h) (Or.inr ⟨by rfl, rfl⟩) (by assumption) ?_
          try simp only [Act.put, List.setIfInBounds_toArray, List.set_cons_zero, List.set_cons_succ]
          refine wpAnyH_take (i := 9) (oi := { dst := some 58, op := Op.indexAddr 23 (Operand.tmp 56) (Operand.tmp 57), type := 0, pos := "ref.go:71", after := #[{ on := 7, ground := Ground.data }, { on := 8, ground := Ground.data }, { on := 2, ground := Ground.guard }], guard := some (2, false) }) (v := undef) rfl (by kernel_rfl) (by kernel_rfl) (by kernel_rfl) (fun _ _ _ h => h) (Or.inr ⟨by rfl, rfl⟩) (by assumption) ?_
          try simp only [Act.put, List.setIfInBounds_toArray, List.set_cons_zero, List.set_cons_succ]
          refine wpAnyH_take (i := 10) (oi := { dst := some 59, op := Op.load 49 (Operand.tmp 58), type := 49, pos := "ref.go:71", after := #[{ on := 9, ground := Ground.data }, { on := 2, ground := Ground.guard }], guard := some (2, false) }) (v := undef) rfl (by kernel_rfl) (by kernel_rfl) (by kernel_rfl) (fun _ _ _ h => h) (Or.inr ⟨by rfl, rfl⟩) (by assumption) ?_
          try simp only [Act.put, List.setIfInBounds_toArray, List.set_cons_zero, List.set_cons_succ]
          refine wpAnyH_take (i := 11) (oi := { dst := some 60, op := Op.call { callee := Callee.value (Operand.func 39), args := #[Operand.tmp 55, Operand.tmp 59], argTypes := #[49, 49] }, type := 4, pos := "ref.go:71", after := #[{ on := 6, ground := Ground.data }, { on := 10, ground := Ground.data }, { on := 2, ground := Ground.chain }, { on := 2, ground := Ground.guard }], guard := some (2, false) }) (v := undef) rfl (by kernel_rfl) (by kernel_rfl) (by kernel_rfl) (fun _ _ _ h => h) (Or.inr ⟨by rfl, rfl⟩) (by assumption) ?_
          try simp only [Act.put, List.setIfInBounds_toArray, List.set_cons_zero, List.set_cons_succ]
          refine wpAnyH_take (i := 12) (oi := { dst := some 61, op := Op.pick (Operand.tmp 51) (Operand.const (Value.bool true)) (Operand.tmp 60), type := 4, pos := "ref.go:71", after := #[{ on := 2, ground := Ground.data }, { on := 11, ground := Ground.data }], guard := none }) (v := ?v12_1013) rfl (by kernel_rfl) (by kernel_rfl) (by kernel_rfl) (fun _ _ _ h => h) (Or.inl ⟨by rfl, ?h12_1013⟩) (by assumption) ?r12_1013
          case h12_1013 =>
            intro W hSW
            try dsimp only at hSW
            go_simp
            try with_reducible rfl
          try simp only [Act.put, List.setIfInBounds_toArray, List.set_cons_zero, List.set_cons_succ]
          refine wpAnyH_done (by kernel_rfl) ?_ _
          go_wp2
          go_roundw
          case rel => exact ⟨j + 1, by omega, by rw [HRES.out, HV.out], by go_num, HB2.out.trans (hv0.mono HB2.out.size)⟩
          case measure => simp [intOf]; omega
        | false =>
          go_wp2_with (first | fail | (go_at_call 38; refine (HIS.out _).mono ?_; rintro e w2 ⟨rfl, b2⟩; have y0 := (b2.cell (p := ⟨b, off + j * 5 + 3, none⟩) HBW.out).trans c3))
          have HBW2 := Lib.hid (Nat.lt_of_lt_of_le HBW.out b2.size)
          have HB2 := Lib.hid (HB.out.trans (b2.mono HB.out.size))
          have C0 := Lib.hid ((b2.cell (p := ⟨b, off + j * 5, none⟩) HBW.out).trans c0)
          have C1 := Lib.hid ((b2.cell (p := ⟨b, off + j * 5 + 1, none⟩) HBW.out).trans c1)
          have C2 := Lib.hid ((b2.cell (p := ⟨b, off + j * 5 + 2, none⟩) HBW.out).trans c2)
          have C3 := Lib.hid ((b2.cell (p := ⟨b, off + j * 5 + 3, none⟩) HBW.out).trans c3)
          have C4 := Lib.hid ((b2.cell (p := ⟨b, off + j * 5 + 4, none⟩) HBW.out).trans c4)
          have hv0 : Below w2.heap.size w2 w2.drew := (Below.refl _ _).drew
          refine wp_region_held_drew (S := fun W => Below w2.heap.size w2 W) (by kernel_rfl) (hv0) (fun hHeld => ?_)
          refine wpAnyH_take (i := 0) (oi := { dst := some 49, op := Op.move (Operand.tmp 9), type := 3, pos := "ref.go:71", after := #[], guard := none }) (v := ?v0_2001) rfl (by kernel_rfl) (by kernel_rfl) (by kernel_rfl) (fun _ _ _ h => h) (Or.inl ⟨by rfl, ?h0_2001⟩) (by assumption) ?r0_2001
          case h0_2001 =>
            intro W hSW
            try dsimp only at hSW
            go_simp
            try with_reducible rfl
          try simp only [Act.put, List.setIfInBounds_toArray, List.set_cons_zero, List.set_cons_succ]
          refine wpAnyH_take (i := 1) (oi := { dst := some 50, op := Op.binOp BinOp.lss 3 (Operand.tmp 49) (Operand.const (Value.int IntKind.i64 0)) 3, type := 4, pos := "ref.go:71", after := #[{ on := 0, ground := Ground.data }], guard := none }) (v := ?v1_2002) rfl (by kernel_rfl) (by kernel_rfl) (by kernel_rfl) (fun _ _ _ h => h) (Or.inl ⟨by rfl, ?h1_2002⟩) (by assumption) ?r1_2002
          case h1_2002 =>
            intro W hSW
            try dsimp only at hSW
            go_simp
            try with_reducible rfl
          try simp only [Act.put, List.setIfInBounds_toArray, List.set_cons_zero, List.set_cons_succ]
          refine wpAnyH_take (i := 2) (oi := { dst := some 51, op := Op.move (Operand.tmp 50), type := 4, pos := "ref.go:71", after := #[{ on := 1, ground := Ground.data }], guard := none }) (v := ?v2_2003) rfl (by kernel_rfl) (by kernel_rfl) (by kernel_rfl) (fun _ _ _ h => h) (Or.inl ⟨by rfl, ?h2_2003⟩) (by assumption) ?r2_2003
          case h2_2003 =>
            intro W hSW
            try dsimp only at hSW
            go_simp
            try with_reducible rfl
          try simp only [Act.put, List.setIfInBounds_toArray, List.set_cons_zero, List.set_cons_succ]
          refine wpAnyH_take (i := 3) (oi := { dst := some 52, op := Op.move (Operand.tmp 0), type := 23, pos := "ref.go:71", after := #[{ on := 2, ground := Ground.guard }], guard := some (2, false) }) (v := undef) rfl (by kernel_rfl) (by kernel_rfl) (by kernel_rfl) (fun _ _ _ h => h) (Or.inr ⟨by rfl, rfl⟩) (by assumption) ?_
          try simp only [Act.put, List.setIfInBounds_toArray, List.set_cons_zero, List.set_cons_succ]
          refine wpAnyH_take (i := 4) (oi := { dst := some 53, op := Op.move (Operand.tmp 10), type := 3, pos := "ref.go:71", after := #[{ on := 2, ground := Ground.guard }], guard := some (2, false) }) (v := undef) rfl (by kernel_rfl) (by kernel_rfl) (by kernel_rfl) (fun _ _ _ h => h) (Or.inr ⟨by rfl, rfl⟩) (by assumption) ?_
          try simp only [Act.put, List.setIfInBounds_toArray, List.set_cons_zero, List.set_cons_succ]
          refine wpAnyH_take (i := 5) (oi := { dst := some 54, op := Op.indexAddr 23 (Operand.tmp 52) (Operand.tmp 53), type := 0, pos := "ref.go:71", after := #[{ on := 3, ground := Ground.data }, { on := 4, ground := Ground.data }, { on := 2, ground := Ground.guard }], guard := some (2, false) }) (v := undef) rfl (by kernel_rfl) (by kernel_rfl) (by kernel_rfl) (fun _ _ _ h => h) (Or.inr ⟨by rfl, rfl⟩) (by assumption) ?_
          try simp only [Act.put, List.setIfInBounds_toArray, List.set_cons_zero, List.set_cons_succ]
          refine wpAnyH_take (i := 6) (oi := { dst := some 55, op := Op.load 49 (Operand.tmp 54), type := 49, pos := "ref.go:71", after := #[{ on := 5, ground := Ground.data }, { on := 2, ground := Ground.guard }], guard := some (2, false) }) (v := undef) rfl (by kernel_rfl) (by kernel_rfl) (by kernel_rfl) (fun _ _ _ h => h) (Or.inr ⟨by rfl, rfl⟩) (by assumption) ?_
          try simp only [Act.put, List.setIfInBounds_toArray, List.set_cons_zero, List.set_cons_succ]
          refine wpAnyH_take (i := 7) (oi := { dst := some 56, op := Op.move (Operand.tmp 0), type := 23, pos := "ref.go:71", after := #[{ on := 2, ground := Ground.guard }], guard := some (2, false) }) (v := undef) rfl (by kernel_rfl) (by kernel_rfl) (by kernel_rfl) (fun _ _ _ h => h) (Or.inr ⟨by rfl, rfl⟩) (by assumption) ?_
          try simp only [Act.put, List.setIfInBounds_toArray, List.set_cons_zero, List.set_cons_succ]
          refine wpAnyH_take (i := 8) (oi := { dst := some 57, op := Op.move (Operand.tmp 9), type := 3, pos := "ref.go:71", after := #[{ on := 2, ground := Ground.guard }], guard := some (2, false) }) (v := undef) rfl (by kernel_rfl) (by kernel_rfl) (by kernel_rfl) (fun _ _ _ h => h) (Or.inr ⟨by rfl, rfl⟩) (by assumption) ?_
          try simp only [Act.put, List.setIfInBounds_toArray, List.set_cons_zero, List.set_cons_succ]
          refine wpAnyH_take (i := 9) (oi := { dst := some 58, op := Op.indexAddr 23 (Operand.tmp 56) (Operand.tmp 57), type := 0, pos := "ref.go:71", after := #[{ on := 7, ground := Ground.data }, { on := 8, ground := Ground.data }, { on := 2, ground := Ground.guard }], guard := some (2, false) }) (v := undef) rfl (by kernel_rfl) (by kernel_rfl) (by kernel_rfl) (fun _ _ _ h => h) (Or.inr ⟨by rfl, rfl⟩) (by assumption) ?_
          try simp only [Act.put, List.setIfInBounds_toArray, List.set_cons_zero, List.set_cons_succ]
          refine wpAnyH_take (i := 10) (oi := { dst := some 59, op := Op.load 49 (Operand.tmp 58), type := 49, pos := "ref.go:71", after := #[{ on := 9, ground := Ground.data }, { on := 2, ground := Ground.guard }], guard := some (2, false) }) (v := undef) rfl (by kernel_rfl) (by kernel_rfl) (by kernel_rfl) (fun _ _ _ h => h) (Or.inr ⟨by rfl, rfl⟩) (by assumption) ?_
          try simp only [Act.put, List.setIfInBounds_toArray, List.set_cons_zero, List.set_cons_succ]
          refine wpAnyH_take (i := 11) (oi := { dst := some 60, op := Op.call { callee := Callee.value (Operand.func 39), args := #[Operand.tmp 55, Operand.tmp 59], argTypes := #[49, 49] }, type := 4, pos := "ref.go:71", after := #[{ on := 6, ground := Ground.data }, { on := 10, ground := Ground.data }, { on := 2, ground := Ground.chain }, { on := 2, ground := Ground.guard }], guard := some (2, false) }) (v := undef) rfl (by kernel_rfl) (by kernel_rfl) (by kernel_rfl) (fun _ _ _ h => h) (Or.inr ⟨by rfl, rfl⟩) (by assumption) ?_
          try simp only [Act.put, List.setIfInBounds_toArray, List.set_cons_zero, List.set_cons_succ]
          refine wpAnyH_take (i := 12) (oi := { dst := some 61, op := Op.pick (Operand.tmp 51) (Operand.const (Value.bool true)) (Operand.tmp 60), type := 4, pos := "ref.go:71", after := #[{ on := 2, ground := Ground.data }, { on := 11, ground := Ground.data }], guard := none }) (v := ?v12_2013) rfl (by kernel_rfl) (by kernel_rfl) (by kernel_rfl) (fun _ _ _ h => h) (Or.inl ⟨by rfl, ?h12_2013⟩) (by assumption) ?r12_2013
          case h12_2013 =>
            intro W hSW
            try dsimp only at hSW
            go_simp
            try with_reducible rfl
          try simp only [Act.put, List.setIfInBounds_toArray, List.set_cons_zero, List.set_cons_succ]
          refine wpAnyH_done (by kernel_rfl) ?_ _
          go_wp2
          go_roundw
          case rel => exact ⟨j + 1, by omega, by rw [HRES.out, HV.out], by go_num, HB2.out.trans (hv0.mono HB2.out.size)⟩
          case measure => simp [intOf]; omega
      · subst ho
        have hpn := HLOW.out p hp
        have hd := HC.out p hpn
        obtain ⟨v, hv⟩ : ∃ v, Sc.atK L p = v := ⟨_, rfl⟩
        rw [hv] at hd hpf
        have HF1 : Sc.fit kind Sc.can (⟨kind, row, grp, left, bad⟩ : Sc.Tk) = true := isU_can (by rw [HT.out] at hft; exact hft)
        have HF2 : Sc.fit kind Sc.can v = true := isU_can hpf
        have HBQ := Lib.hid (HBT.out v HF1 HF2)
        obtain ⟨q, hq⟩ : ∃ q, Sc.lt kind (⟨kind, row, grp, left, bad⟩ : Sc.Tk) v = q := ⟨_, rfl⟩
        rw [hq] at HBQ
        have hV : res = if q then (j : Int) else (p : Int) := by
          rw [HPK.out]; unfold Sc.pick; rw [hft, Int.toNat_natCast, HT.out, hv, hq]
          have : decide ((p : Int) < 0) = false := decide_eq_false (by omega)
          rw [this]; cases q <;> rfl
        obtain ⟨kind', row', grp', left', bad'⟩ := v
        simp only [] at hd
        have E0 := Lib.hid hd.1
        have E1 := Lib.hid hd.2.1
        have E2 := Lib.hid hd.2.2.1
        have E3 := Lib.hid hd.2.2.2.1
        have E4 := Lib.hid hd.2.2.2.2
        have hp0 : decide ((p : Int) < 0) = false := decide_eq_false (by omega)
        have j0 : (0 : Int) ≤ (p : Int) := by omega
        have j1 : (p : Int) < (n : Int) := by omega
        have HV0 := Lib.hid hV
        clear hft hpf hd hq hV hv hp HF1 HF2
        cases q with
        | true =>
          have HV : Hid (res = (j : Int)) := Lib.hid (by rw [HV0.out]; rfl)
          cases u with
          | true =>
            have e2 : (left == 0) = true := by simpa using HL0.out rfl
            have e2' : (left != 0) = false := by simpa using HL0.out rfl
            go_wp2_with (first | fail | (go_at_call 38; refine (HIS.out _).mono ?_; rintro e w2 ⟨rfl, b2⟩; have y0 := (b2.cell (p := ⟨b, off + j * 5 + 3, none⟩) HBW.out).trans c3))
            have HBW2 := Lib.hid (Nat.lt_of_lt_of_le HBW.out b2.size)
            have HB2 := Lib.hid (HB.out.trans (b2.mono HB.out.size))
            have C0 := Lib.hid ((b2.cell (p := ⟨b, off + j * 5, none⟩) HBW.out).trans c0)
            have C1 := Lib.hid ((b2.cell (p := ⟨b, off + j * 5 + 1, none⟩) HBW.out).trans c1)
            have C2 := Lib.hid ((b2.cell (p := ⟨b, off + j * 5 + 2, none⟩) HBW.out).trans c2)
            have C3 := Lib.hid ((b2.cell (p := ⟨b, off + j * 5 + 3, none⟩) HBW.out).trans c3)
            have C4 := Lib.hid ((b2.cell (p := ⟨b, off + j * 5 + 4, none⟩) HBW.out).trans c4)
            have D0 := Lib.hid ((b2.cell (p := ⟨b, off + p * 5, none⟩) HBW.out).trans E0.out)
            have D1 := Lib.hid ((b2.cell (p := ⟨b, off + p * 5 + 1, none⟩) HBW.out).trans E1.out)
            have D2 := Lib.hid ((b2.cell (p := ⟨b, off + p * 5 + 2, none⟩) HBW.out).trans E2.out)
            have D3 := Lib.hid ((b2.cell (p := ⟨b, off + p * 5 + 3, none⟩) HBW.out).trans E3.out)
            have D4 := Lib.hid ((b2.cell (p := ⟨b, off + p * 5 + 4, none⟩) HBW.out).trans E4.out)
            have hv0 : Below w2.heap.size w2 w2.drew := (Below.refl _ _).drew
            refine wp_region_held_drew (S := fun W => Below w2.heap.size w2 W) (by kernel_rfl) (hv0) (fun hHeld => ?_)
            refine wpAnyH_take (i := 0) (oi := { dst := some 49, op := Op.move (Operand.tmp 9), type := 3, pos := "ref.go:71", after := #[], guard := none }) (v := ?v0_3001) rfl (by kernel_rfl) (by kernel_rfl) (by kernel_rfl) (fun _ _ _ h => h) (Or.inl ⟨by rfl, ?h0_3001⟩) (by assumption) ?r0_3001
            case h0_3001 =>
              intro W hSW
              try dsimp only at hSW
              go_simp
              try with_reducible rfl
            try simp only [Act.put, List.setIfInBounds_toArray, List.set_cons_zero, List.set_cons_succ]
            refine wpAnyH_take (i := 1) (oi := { dst := some 50, op := Op.binOp BinOp.lss 3 (Operand.tmp 49) (Operand.const (Value.int IntKind.i64 0)) 3, type := 4, pos := "ref.go:71", after := #[{ on := 0, ground := Ground.data }], guard := none }) (v := ?v1_3002) rfl (by kernel_rfl) (by kernel_rfl) (by kernel_rfl) (fun _ _ _ h => h) (Or.inl ⟨by rfl, ?h1_3002⟩) (by assumption) ?r1_3002
            case h1_3002 =>
              intro W hSW
              try dsimp only at hSW
              go_simp
              try with_reducible rfl
            try simp only [Act.put, List.setIfInBounds_toArray, List.set_cons_zero, List.set_cons_succ]
            refine wpAnyH_take (i := 2) (oi := { dst := some 51, op := Op.move (Operand.tmp 50), type := 4, pos := "ref.go:71", after := #[{ on := 1, ground := Ground.data }], guard := none }) (v := ?v2_3003) rfl (by kernel_rfl) (by kernel_rfl) (by kernel_rfl) (fun _ _ _ h => h) (Or.inl ⟨by rfl, ?h2_3003⟩) (by assumption) ?r2_3003
            case h2_3003 =>
              intro W hSW
              try dsimp only at hSW
              go_simp
              try with_reducible rfl
            try simp only [Act.put, List.setIfInBounds_toArray, List.set_cons_zero, List.set_cons_succ]
            refine wpAnyH_take (i := 3) (oi := { dst := some 52, op := Op.move (Operand.tmp 0), type := 23, pos := "ref.go:71", after := #[{ on := 2, ground := Ground.guard }], guard := some (2, false) }) (v := ?v3_3004) rfl (by kernel_rfl) (by kernel_rfl) (by kernel_rfl) (fun _ _ _ h => h) (Or.inl ⟨by rfl, ?h3_3004⟩) (by assumption) ?r3_3004
            case h3_3004 =>
              intro W hSW
              try dsimp only at hSW
              go_simp
              try with_reducible rfl
            try simp only [Act.put, List.setIfInBounds_toArray, List.set_cons_zero, List.set_cons_succ]
            refine wpAnyH_take (i := 4) (oi := { dst := some 53, op := Op.move (Operand.tmp 10), type := 3, pos := "ref.go:71", after := #[{ on := 2, ground := Ground.guard }], guard := some (2, false) }) (v := ?v4_3005) rfl (by kernel_rfl) (by kernel_rfl) (by kernel_rfl) (fun _ _ _ h => h) (Or.inl ⟨by rfl, ?h4_3005⟩) (by assumption) ?r4_3005
            case h4_3005 =>
              intro W hSW
              try dsimp only at hSW
              go_simp
              try with_reducible rfl
            try simp only [Act.put, List.setIfInBounds_toArray, List.set_cons_zero, List.set_cons_succ]
            refine wpAnyH_take (i := 5) (oi := { dst := some 54, op := Op.indexAddr 23 (Operand.tmp 52) (Operand.tmp 53), type := 0, pos := "ref.go:71", after := #[{ on := 3, ground := Ground.data }, { on := 4, ground := Ground.data }, { on := 2, ground := Ground.guard }], guard := some (2, false) }) (v := ?v5_3006) rfl (by kernel_rfl) (by kernel_rfl) (by kernel_rfl) (fun _ _ _ h => h) (Or.inl ⟨by rfl, ?h5_3006⟩) (by assumption) ?r5_3006
            case h5_3006 =>
              intro W hSW
              try dsimp only at hSW
              go_simp
              try with_reducible rfl
            try simp only [Act.put, List.setIfInBounds_toArray, List.set_cons_zero, List.set_cons_succ]
            refine wpAnyH_take (i := 6) (oi := { dst := some 55, op := Op.load 49 (Operand.tmp 54), type := 49, pos := "ref.go:71", after := #[{ on := 5, ground := Ground.data }, { on := 2, ground := Ground.guard }], guard := some (2, false) }) (v := ?v6_3007) rfl (by kernel_rfl) (by kernel_rfl) (by kernel_rfl) (fun _ _ _ h => h) (Or.inl ⟨by rfl, ?h6_3007⟩) (by assumption) ?r6_3007
            case h6_3007 =>
              intro W hSW
              try dsimp only at hSW
              have hc0 := (hSW.cell (p := ⟨b, off + j * 5, none⟩) HBW2.out).trans C0.out
              have hc1 := (hSW.cell (p := ⟨b, off + j * 5 + 1, none⟩) HBW2.out).trans C1.out
              have hc2 := (hSW.cell (p := ⟨b, off + j * 5 + 2, none⟩) HBW2.out).trans C2.out
              have hc3 := (hSW.cell (p := ⟨b, off + j * 5 + 3, none⟩) HBW2.out).trans C3.out
              have hc4 := (hSW.cell (p := ⟨b, off + j * 5 + 4, none⟩) HBW2.out).trans C4.out
              go_simp
              try with_reducible rfl
            try simp only [Act.put, List.setIfInBounds_toArray, List.set_cons_zero, List.set_cons_succ]
            refine wpAnyH_take (i := 7) (oi := { dst := some 56, op := Op.move (Operand.tmp 0), type := 23, pos := "ref.go:71", after := #[{ on := 2, ground := Ground.guard }], guard := some (2, false) }) (v := ?v7_3008) rfl (by kernel_rfl) (by kernel_rfl) (by kernel_rfl) (fun _ _ _ h => h) (Or.inl ⟨by rfl, ?h7_3008⟩) (by assumption) ?r7_3008
            case h7_3008 =>
              intro W hSW
              try dsimp only at hSW
              go_simp
              try with_reducible rfl
            try simp only [Act.put, List.setIfInBounds_toArray, List.set_cons_zero, List.set_cons_succ]
            refine wpAnyH_take (i := 8) (oi := { dst := some 57, op := Op.move (Operand.tmp 9), type := 3, pos := "ref.go:71", after := #[{ on := 2, ground := Ground.guard }], guard := some (2, false) }) (v := ?v8_3009) rfl (by kernel_rfl) (by kernel_rfl) (by kernel_rfl) (fun _ _ _ h => h) (Or.inl ⟨by rfl, ?h8_3009⟩) (by assumption) ?r8_3009
            case h8_3009 =>
              intro W hSW
              try dsimp only at hSW
              go_simp
              try with_reducible rfl
            try simp only [Act.put, List.setIfInBounds_toArray, List.set_cons_zero, List.set_cons_succ]
            refine wpAnyH_take (i := 9) (oi := { dst := some 58, op := Op.indexAddr 23 (Operand.tmp 56) (Operand.tmp 57), type := 0, pos := "ref.go:71", after := #[{ on := 7, ground := Ground.data }, { on := 8, ground := Ground.data }, { on := 2, ground := Ground.guard }], guard := some (2, false) }) (v := ?v9_3010) rfl (by kernel_rfl) (by kernel_rfl) (by kernel_rfl) (fun _ _ _ h => h) (Or.inl ⟨by rfl, ?h9_3010⟩) (by assumption) ?r9_3010
            case h9_3010 =>
              intro W hSW
              try dsimp only at hSW
              go_simp
              try with_reducible rfl
            try simp only [Act.put, List.setIfInBounds_toArray, List.set_cons_zero, List.set_cons_succ]
            refine wpAnyH_take (i := 10) (oi := { dst := some 59, op := Op.load 49 (Operand.tmp 58), type := 49, pos := "ref.go:71", after := #[{ on := 9, ground := Ground.data }, { on := 2, ground := Ground.guard }], guard := some (2, false) }) (v := ?v10_3011) rfl (by kernel_rfl) (by kernel_rfl) (by kernel_rfl) (fun _ _ _ h => h) (Or.inl ⟨by rfl, ?h10_3011⟩) (by assumption) ?r10_3011
            case h10_3011 =>
              intro W hSW
              try dsimp only at hSW
              have hc0 := (hSW.cell (p := ⟨b, off + p * 5, none⟩) HBW2.out).trans D0.out
              have hc1 := (hSW.cell (p := ⟨b, off + p * 5 + 1, none⟩) HBW2.out).trans D1.out
              have hc2 := (hSW.cell (p := ⟨b, off + p * 5 + 2, none⟩) HBW2.out).trans D2.out
              have hc3 := (hSW.cell (p := ⟨b, off + p * 5 + 3, none⟩) HBW2.out).trans D3.out
              have hc4 := (hSW.cell (p := ⟨b, off + p * 5 + 4, none⟩) HBW2.out).trans D4.out
              go_simp
              try with_reducible rfl
            try simp only [Act.put, List.setIfInBounds_toArray, List.set_cons_zero, List.set_cons_succ]
            refine wpAnyH_ready (rs := [11]) (by kernel_rfl) (by simp) ?_
            refine AllReadyH.cons (o := { dst := some 60, op := Op.call { callee := Callee.value (Operand.func 39), args := #[Operand.tmp 55, Operand.tmp 59], argTypes := #[49, 49] }, type := 4, pos := "ref.go:71", after := #[{ on := 6, ground := Ground.data }, { on := 10, ground := Ground.data }, { on := 2, ground := Ground.chain }, { on := 2, ground := Ground.guard }], guard := some (2, false) }) rfl (fun K hK => ?_) AllReadyH.nil
            go_simp
            refine (HBQ.out _).mono ?_
            rintro e w1 ⟨rfl, b1⟩
            have hv1 : Below w2.heap.size w2 w1 := hv0.trans (b1.mono hv0.size)
            go_wp2_with fail
            refine hK.out _ _ (hv1) (fun hHeld => ?_)
            clear hK K
            try simp only [Act.put, List.setIfInBounds_toArray, List.set_cons_zero, List.set_cons_succ]
            refine wpAnyH_take (i := 12) (oi := { dst := some 61, op := Op.pick (Operand.tmp 51) (Operand.const (Value.bool true)) (Operand.tmp 60), type := 4, pos := "ref.go:71", after := #[{ on := 2, ground := Ground.data }, { on := 11, ground := Ground.data }], guard := none }) (v := ?v12_3012) rfl (by kernel_rfl) (by kernel_rfl) (by kernel_rfl) (fun _ _ _ h => h) (Or.inl ⟨by rfl, ?h12_3012⟩) (by assumption) ?r12_3012
            case h12_3012 =>
              intro W hSW
              try dsimp only at hSW
              go_simp
              try with_reducible rfl
            try simp only [Act.put, List.setIfInBounds_toArray, List.set_cons_zero, List.set_cons_succ]
            refine wpAnyH_done (by kernel_rfl) ?_ _
            go_wp2
            go_roundw
            case rel => exact ⟨j + 1, by omega, by rw [HRES.out, HV.out], by go_num, HB2.out.trans (hv1.mono HB2.out.size)⟩
            case measure => simp [intOf]; omega
          | false =>
            go_wp2_with (first | fail | (go_at_call 38; refine (HIS.out _).mono ?_; rintro e w2 ⟨rfl, b2⟩; have y0 := (b2.cell (p := ⟨b, off + j * 5 + 3, none⟩) HBW.out).trans c3))
            have HBW2 := Lib.hid (Nat.lt_of_lt_of_le HBW.out b2.size)
            have HB2 := Lib.hid (HB.out.trans (b2.mono HB.out.size))
            have C0 := Lib.hid ((b2.cell (p := ⟨b, off + j * 5, none⟩) HBW.out).trans c0)
            have C1 := Lib.hid ((b2.cell (p := ⟨b, off + j * 5 + 1, none⟩) HBW.out).trans c1)
            have C2 := Lib.hid ((b2.cell (p := ⟨b, off + j * 5 + 2, none⟩) HBW.out).trans c2)
            have C3 := Lib.hid ((b2.cell (p := ⟨b, off + j * 5 + 3, none⟩) HBW.out).trans c3)
            have C4 := Lib.hid ((b2.cell (p := ⟨b, off + j * 5 + 4, none⟩) HBW.out).trans c4)
            have D0 := Lib.hid ((b2.cell (p := ⟨b, off + p * 5, none⟩) HBW.out).trans E0.out)
            have D1 := Lib.hid ((b2.cell (p := ⟨b, off + p * 5 + 1, none⟩) HBW.out).trans E1.out)
            have D2 := Lib.hid ((b2.cell (p := ⟨b, off + p * 5 + 2, none⟩) HBW.out).trans E2.out)
            have D3 := Lib.hid ((b2.cell (p := ⟨b, off + p * 5 + 3, none⟩) HBW.out).trans E3.out)
            have D4 := Lib.hid ((b2.cell (p := ⟨b, off + p * 5 + 4, none⟩) HBW.out).trans E4.out)
            have hv0 : Below w2.heap.size w2 w2.drew := (Below.refl _ _).drew
            refine wp_region_held_drew (S := fun W => Below w2.heap.size w2 W) (by kernel_rfl) (hv0) (fun hHeld => ?_)
            refine wpAnyH_take (i := 0) (oi := { dst := some 49, op := Op.move (Operand.tmp 9), type := 3, pos := "ref.go:71", after := #[], guard := none }) (v := ?v0_4001) rfl (by kernel_rfl) (by kernel_rfl) (by kernel_rfl) (fun _ _ _ h => h) (Or.inl ⟨by rfl, ?h0_4001⟩) (by assumption) ?r0_4001
            case h0_4001 =>
              intro W hSW
              try dsimp only at hSW
              go_simp
              try with_reducible rfl
            try simp only [Act.put, List.setIfInBounds_toArray, List.set_cons_zero, List.set_cons_succ]
            refine wpAnyH_take (i := 1) (oi := { dst := some 50, op := Op.binOp BinOp.lss 3 (Operand.tmp 49) (Operand.const (Value.int IntKind.i64 0)) 3, type := 4, pos := "ref.go:71", after := #[{ on := 0, ground := Ground.data }], guard := none }) (v := ?v1_4002) rfl (by kernel_rfl) (by kernel_rfl) (by kernel_rfl) (fun _ _ _ h => h) (Or.inl ⟨by rfl, ?h1_4002⟩) (by assumption) ?r1_4002
            case h1_4002 =>
              intro W hSW
              try dsimp only at hSW
              go_simp
              try with_reducible rfl
            try simp only [Act.put, List.setIfInBounds_toArray, List.set_cons_zero, List.set_cons_succ]
            refine wpAnyH_take (i := 2) (oi := { dst := some 51, op := Op.move (Operand.tmp 50), type := 4, pos := "ref.go:71", after := #[{ on := 1, ground := Ground.data }], guard := none }) (v := ?v2_4003) rfl (by kernel_rfl) (by kernel_rfl) (by kernel_rfl) (fun _ _ _ h => h) (Or.inl ⟨by rfl, ?h2_4003⟩) (by assumption) ?r2_4003
            case h2_4003 =>
              intro W hSW
              try dsimp only at hSW
              go_simp
              try with_reducible rfl
            try simp only [Act.put, List.setIfInBounds_toArray, List.set_cons_zero, List.set_cons_succ]
            refine wpAnyH_take (i := 3) (oi := { dst := some 52, op := Op.move (Operand.tmp 0), type := 23, pos := "ref.go:71", after := #[{ on := 2, ground := Ground.guard }], guard := some (2, false) }) (v := ?v3_4004) rfl (by kernel_rfl) (by kernel_rfl) (by kernel_rfl) (fun _ _ _ h => h) (Or.inl ⟨by rfl, ?h3_4004⟩) (by assumption) ?r3_4004
            case h3_4004 =>
              intro W hSW
              try dsimp only at hSW
              go_simp
              try with_reducible rfl
            try simp only [Act.put, List.setIfInBounds_toArray, List.set_cons_zero, List.set_cons_succ]
            refine wpAnyH_take (i := 4) (oi := { dst := some 53, op := Op.move (Operand.tmp 10), type := 3, pos := "ref.go:71", after := #[{ on := 2, ground := Ground.guard }], guard := some (2, false) }) (v := ?v4_4005) rfl (by kernel_rfl) (by kernel_rfl) (by kernel_rfl) (fun _ _ _ h => h) (Or.inl ⟨by rfl, ?h4_4005⟩) (by assumption) ?r4_4005
            case h4_4005 =>
              intro W hSW
              try dsimp only at hSW
              go_simp
              try with_reducible rfl
            try simp only [Act.put, List.setIfInBounds_toArray, List.set_cons_zero, List.set_cons_succ]
            refine wpAnyH_take (i := 5) (oi := { dst := some 54, op := Op.indexAddr 23 (Operand.tmp 52) (Operand.tmp 53), type := 0, pos := "ref.go:71", after := #[{ on := 3, ground := Ground.data }, { on := 4, ground := Ground.data }, { on := 2, ground := Ground.guard }], guard := some (2, false) }) (v := ?v5_4006) rfl (by kernel_rfl) (by kernel_rfl) (by kernel_rfl) (fun _ _ _ h => h) (Or.inl ⟨by rfl, ?h5_4006⟩) (by assumption) ?r5_4006
            case h5_4006 =>
              intro W hSW
              try dsimp only at hSW
              go_simp
              try with_reducible rfl
            try simp only [Act.put, List.setIfInBounds_toArray, List.set_cons_zero, List.set_cons_succ]
            refine wpAnyH_take (i := 6) (oi := { dst := some 55, op := Op.load 49 (Operand.tmp 54), type := 49, pos := "ref.go:71", after := #[{ on := 5, ground := Ground.data }, { on := 2, ground := Ground.guard }], guard := some (2, false) }) (v := ?v6_4007) rfl (by kernel_rfl) (by kernel_rfl) (by kernel_rfl) (fun _ _ _ h => h) (Or.inl ⟨by rfl, ?h6_4007⟩) (by assumption) ?r6_4007
            case h6_4007 =>
              intro W hSW
              try dsimp only at hSW
              have hc0 := (hSW.cell (p := ⟨b, off + j * 5, none⟩) HBW2.out).trans C0.out
              have hc1 := (hSW.cell (p := ⟨b, off + j * 5 + 1, none⟩) HBW2.out).trans C1.out
              have hc2 := (hSW.cell (p := ⟨b, off + j * 5 + 2, none⟩) HBW2.out).trans C2.out
              have hc3 := (hSW.cell (p := ⟨b, off + j * 5 + 3, none⟩) HBW2.out).trans C3.out
              have hc4 := (hSW.cell (p := ⟨b, off + j * 5 + 4, none⟩) HBW2.out).trans C4.out
              go_simp
              try with_reducible rfl
            try simp only [Act.put, List.setIfInBounds_toArray, List.set_cons_zero, List.set_cons_succ]
            refine wpAnyH_take (i := 7) (oi := { dst := some 56, op := Op.move (Operand.tmp 0), type := 23, pos := "ref.go:71", after := #[{ on := 2, ground := Ground.guard }], guard := some (2, false) }) (v := ?v7_4008) rfl (by kernel_rfl) (by kernel_rfl) (by kernel_rfl) (fun _ _ _ h => h) (Or.inl ⟨by rfl, ?h7_4008⟩) (by assumption) ?r7_4008
            case h7_4008 =>
              intro W hSW
              try dsimp only at hSW
              go_simp
              try with_reducible rfl
            try simp only [Act.put, List.setIfInBounds_toArray, List.set_cons_zero, List.set_cons_succ]
            refine wpAnyH_take (i := 8) (oi := { dst := some 57, op := Op.move (Operand.tmp 9), type := 3, pos := "ref.go:71", after := #[{ on := 2, ground := Ground.guard }], guard := some (2, false) }) (v := ?v8_4009) rfl (by kernel_rfl) (by kernel_rfl) (by kernel_rfl) (fun _ _ _ h => h) (Or.inl ⟨by rfl, ?h8_4009⟩) (by assumption) ?r8_4009
            case h8_4009 =>
              intro W hSW
              try dsimp only at hSW
              go_simp
              try with_reducible rfl
            try simp only [Act.put, List.setIfInBounds_toArray, List.set_cons_zero, List.set_cons_succ]
            refine wpAnyH_take (i := 9) (oi := { dst := some 58, op := Op.indexAddr 23 (Operand.tmp 56) (Operand.tmp 57), type := 0, pos := "ref.go:71", after := #[{ on := 7, ground := Ground.data }, { on := 8, ground := Ground.data }, { on := 2, ground := Ground.guard }], guard := some (2, false) }) (v := ?v9_4010) rfl (by kernel_rfl) (by kernel_rfl) (by kernel_rfl) (fun _ _ _ h => h) (Or.inl ⟨by rfl, ?h9_4010⟩) (by assumption) ?r9_4010
            case h9_4010 =>
              intro W hSW
              try dsimp only at hSW
              go_simp
              try with_reducible rfl
            try simp only [Act.put, List.setIfInBounds_toArray, List.set_cons_zero, List.set_cons_succ]
            refine wpAnyH_take (i := 10) (oi := { dst := some 59, op := Op.load 49 (Operand.tmp 58), type := 49, pos := "ref.go:71", after := #[{ on := 9, ground := Ground.data }, { on := 2, ground := Ground.guard }], guard := some (2, false) }) (v := ?v10_4011) rfl (by kernel_rfl) (by kernel_rfl) (by kernel_rfl) (fun _ _ _ h => h) (Or.inl ⟨by rfl, ?h10_4011⟩) (by assumption) ?r10_4011
            case h10_4011 =>
              intro W hSW
              try dsimp only at hSW
              have hc0 := (hSW.cell (p := ⟨b, off + p * 5, none⟩) HBW2.out).trans D0.out
              have hc1 := (hSW.cell (p := ⟨b, off + p * 5 + 1, none⟩) HBW2.out).trans D1.out
              have hc2 := (hSW.cell (p := ⟨b, off + p * 5 + 2, none⟩) HBW2.out).trans D2.out
              have hc3 := (hSW.cell (p := ⟨b, off + p * 5 + 3, none⟩) HBW2.out).trans D3.out
              have hc4 := (hSW.cell (p := ⟨b, off + p * 5 + 4, none⟩) HBW2.out).trans D4.out
              go_simp
              try with_reducible rfl
            try simp only [Act.put, List.setIfInBounds_toArray, List.set_cons_zero, List.set_cons_succ]
            refine wpAnyH_ready (rs := [11]) (by kernel_rfl) (by simp) ?_
            refine AllReadyH.cons (o := { dst := some 60, op := Op.call { callee := Callee.value (Operand.func 39), args := #[Operand.tmp 55, Operand.tmp 59], argTypes := #[49, 49] }, type := 4, pos := "ref.go:71", after := #[{ on := 6, ground := Ground.data }, { on := 10, ground := Ground.data }, { on := 2, ground := Ground.chain }, { on := 2, ground := Ground.guard }], guard := some (2, false) }) rfl (fun K hK => ?_) AllReadyH.nil
            go_simp
            refine (HBQ.out _).mono ?_
            rintro e w1 ⟨rfl, b1⟩
            have hv1 : Below w2.heap.size w2 w1 := hv0.trans (b1.mono hv0.size)
            go_wp2_with fail
            refine hK.out _ _ (hv1) (fun hHeld => ?_)
            clear hK K
            try simp only [Act.put, List.setIfInBounds_toArray, List.set_cons_zero, List.set_cons_succ]
            refine wpAnyH_take (i := 12) (oi := { dst := some 61, op := Op.pick (Operand.tmp 51) (Operand.const (Value.bool true)) (Operand.tmp 60), type := 4, pos := "ref.go:71", after := #[{ on := 2, ground := Ground.data }, { on := 11, ground := Ground.data }], guard := none }) (v := ?v12_4012) rfl (by kernel_rfl) (by kernel_rfl) (by kernel_rfl) (fun _ _ _ h => h) (Or.inl ⟨by rfl, ?h12_4012⟩) (by assumption) ?r12_4012
            case h12_4012 =>
              intro W hSW
              try dsimp only at hSW
              go_simp
              try with_reducible rfl
            try simp only [Act.put, List.setIfInBounds_toArray, List.set_cons_zero, List.set_cons_succ]
            refine wpAnyH_done (by kernel_rfl) ?_ _
            go_wp2
            go_roundw
            case rel => exact ⟨j + 1, by omega, by rw [HRES.out, HV.out], by go_num, HB2.out.trans (hv1.mono HB2.out.size)⟩
            case measure => simp [intOf]; omega
        
        | false =>
          have HV : Hid (res = (p : Int)) := Lib.hid (by rw [HV0.out]; rfl)
          cases u with
          | true =>
            have e2 : (left == 0) = true := by simpa using HL0.out rfl
            have e2' : (left != 0) = false := by simpa using HL0.out rfl
            go_wp2_with (first | fail | (go_at_call 38; refine (HIS.out _).mono ?_; rintro e w2 ⟨rfl, b2⟩; have y0 := (b2.cell (p := ⟨b, off + j * 5 + 3, none⟩) HBW.out).trans c3))
            have HBW2 := Lib.hid (Nat.lt_of_lt_of_le HBW.out b2.size)
            have HB2 := Lib.hid (HB.out.trans (b2.mono HB.out.size))
            have C0 := Lib.hid ((b2.cell (p := ⟨b, off + j * 5, none⟩) HBW.out).trans c0)
            have C1 := Lib.hid ((b2.cell (p := ⟨b, off + j * 5 + 1, none⟩) HBW.out).trans c1)
            have C2 := Lib.hid ((b2.cell (p := ⟨b, off + j * 5 + 2, none⟩) HBW.out).trans c2)
            have C3 := Lib.hid ((b2.cell (p := ⟨b, off + j * 5 + 3, none⟩) HBW.out).trans c3)
            have C4 := Lib.hid ((b2.cell (p := ⟨b, off + j * 5 + 4, none⟩) HBW.out).trans c4)
            have D0 := Lib.hid ((b2.cell (p := ⟨b, off + p * 5, none⟩) HBW.out).trans E0.out)
            have D1 := Lib.hid ((b2.cell (p := ⟨b, off + p * 5 + 1, none⟩) HBW.out).trans E1.out)
            have D2 := Lib.hid ((b2.cell (p := ⟨b, off + p * 5 + 2, none⟩) HBW.out).trans E2.out)
            have D3 := Lib.hid ((b2.cell (p := ⟨b, off + p * 5 + 3, none⟩) HBW.out).trans E3.out)
            have D4 := Lib.hid ((b2.cell (p := ⟨b, off + p * 5 + 4, none⟩) HBW.out).trans E4.out)
            have hv0 : Below w2.heap.size w2 w2.drew := (Below.refl _ _).drew
            refine wp_region_held_drew (S := fun W => Below w2.heap.size w2 W) (by kernel_rfl) (hv0) (fun hHeld => ?_)
            refine wpAnyH_take (i := 0) (oi := { dst := some 49, op := Op.move (Operand.tmp 9), type := 3, pos := "ref.go:71", after := #[], guard := none }) (v := ?v0_5001) rfl (by kernel_rfl) (by kernel_rfl) (by kernel_rfl) (fun _ _ _ h => h) (Or.inl ⟨by rfl, ?h0_5001⟩) (by assumption) ?r0_5001
            case h0_5001 =>
              intro W hSW
              try dsimp only at hSW
              go_simp
              try with_reducible rfl
            try simp only [Act.put, List.setIfInBounds_toArray, List.set_cons_zero, List.set_cons_succ]
            refine wpAnyH_take (i := 1) (oi := { dst := some 50, op := Op.binOp BinOp.lss 3 (Operand.tmp 49) (Operand.const (Value.int IntKind.i64 0)) 3, type := 4, pos := "ref.go:71", after := #[{ on := 0, ground := Ground.data }], guard := none }) (v := ?v1_5002) rfl (by kernel_rfl) (by kernel_rfl) (by kernel_rfl) (fun _ _ _ h => h) (Or.inl ⟨by rfl, ?h1_5002⟩) (by assumption) ?r1_5002
            case h1_5002 =>
              intro W hSW
              try dsimp only at hSW
              go_simp
              try with_reducible rfl
            try simp only [Act.put, List.setIfInBounds_toArray, List.set_cons_zero, List.set_cons_succ]
            refine wpAnyH_take (i := 2) (oi := { dst := some 51, op := Op.move (Operand.tmp 50), type := 4, pos := "ref.go:71", after := #[{ on := 1, ground := Ground.data }], guard := none }) (v := ?v2_5003) rfl (by kernel_rfl) (by kernel_rfl) (by kernel_rfl) (fun _ _ _ h => h) (Or.inl ⟨by rfl, ?h2_5003⟩) (by assumption) ?r2_5003
            case h2_5003 =>
              intro W hSW
              try dsimp only at hSW
              go_simp
              try with_reducible rfl
            try simp only [Act.put, List.setIfInBounds_toArray, List.set_cons_zero, List.set_cons_succ]
            refine wpAnyH_take (i := 3) (oi := { dst := some 52, op := Op.move (Operand.tmp 0), type := 23, pos := "ref.go:71", after := #[{ on := 2, ground := Ground.guard }], guard := some (2, false) }) (v := ?v3_5004) rfl (by kernel_rfl) (by kernel_rfl) (by kernel_rfl) (fun _ _ _ h => h) (Or.inl ⟨by rfl, ?h3_5004⟩) (by assumption) ?r3_5004
            case h3_5004 =>
              intro W hSW
              try dsimp only at hSW
              go_simp
              try with_reducible rfl
            try simp only [Act.put, List.setIfInBounds_toArray, List.set_cons_zero, List.set_cons_succ]
            refine wpAnyH_take (i := 4) (oi := { dst := some 53, op := Op.move (Operand.tmp 10), type := 3, pos := "ref.go:71", after := #[{ on := 2, ground := Ground.guard }], guard := some (2, false) }) (v := ?v4_5005) rfl (by kernel_rfl) (by kernel_rfl) (by kernel_rfl) (fun _ _ _ h => h) (Or.inl ⟨by rfl, ?h4_5005⟩) (by assumption) ?r4_5005
            case h4_5005 =>
              intro W hSW
              try dsimp only at hSW
              go_simp
              try with_reducible rfl
            try simp only [Act.put, List.setIfInBounds_toArray, List.set_cons_zero, List.set_cons_succ]
            refine wpAnyH_take (i := 5) (oi := { dst := some 54, op := Op.indexAddr 23 (Operand.tmp 52) (Operand.tmp 53), type := 0, pos := "ref.go:71", after := #[{ on := 3, ground := Ground.data }, { on := 4, ground := Ground.data }, { on := 2, ground := Ground.guard }], guard := some (2, false) }) (v := ?v5_5006) rfl (by kernel_rfl) (by kernel_rfl) (by kernel_rfl) (fun _ _ _ h => h) (Or.inl ⟨by rfl, ?h5_5006⟩) (by assumption) ?r5_5006
            case h5_5006 =>
              intro W hSW
              try dsimp only at hSW
              go_simp
              try with_reducible rfl
            try simp only [Act.put, List.setIfInBounds_toArray, List.set_cons_zero, List.set_cons_succ]
            refine wpAnyH_take (i := 6) (oi := { dst := some 55, op := Op.load 49 (Operand.tmp 54), type := 49, pos := "ref.go:71", after := #[{ on := 5, ground := Ground.data }, { on := 2, ground := Ground.guard }], guard := some (2, false) }) (v := ?v6_5007) rfl (by kernel_rfl) (by kernel_rfl) (by kernel_rfl) (fun _ _ _ h => h) (Or.inl ⟨by rfl, ?h6_5007⟩) (by assumption) ?r6_5007
            case h6_5007 =>
              intro W hSW
              try dsimp only at hSW
              have hc0 := (hSW.cell (p := ⟨b, off + j * 5, none⟩) HBW2.out).trans C0.out
              have hc1 := (hSW.cell (p := ⟨b, off + j * 5 + 1, none⟩) HBW2.out).trans C1.out
              have hc2 := (hSW.cell (p := ⟨b, off + j * 5 + 2, none⟩) HBW2.out).trans C2.out
              have hc3 := (hSW.cell (p := ⟨b, off + j * 5 + 3, none⟩) HBW2.out).trans C3.out
              have hc4 := (hSW.cell (p := ⟨b, off + j * 5 + 4, none⟩) HBW2.out).trans C4.out
              go_simp
              try with_reducible rfl
            try simp only [Act.put, List.setIfInBounds_toArray, List.set_cons_zero, List.set_cons_succ]
            refine wpAnyH_take (i := 7) (oi := { dst := some 56, op := Op.move (Operand.tmp 0), type := 23, pos := "ref.go:71", after := #[{ on := 2, ground := Ground.guard }], guard := some (2, false) }) (v := ?v7_5008) rfl (by kernel_rfl) (by kernel_rfl) (by kernel_rfl) (fun _ _ _ h => h) (Or.inl ⟨by rfl, ?h7_5008⟩) (by assumption) ?r7_5008
            case h7_5008 =>
              intro W hSW
              try dsimp only at hSW
              go_simp
              try with_reducible rfl
            try simp only [Act.put, List.setIfInBounds_toArray, List.set_cons_zero, List.set_cons_succ]
            refine wpAnyH_take (i := 8) (oi := { dst := some 57, op := Op.move (Operand.tmp 9), type := 3, pos := "ref.go:71", after := #[{ on := 2, ground := Ground.guard }], guard := some (2, false) }) (v := ?v8_5009) rfl (by kernel_rfl) (by kernel_rfl) (by kernel_rfl) (fun _ _ _ h => h) (Or.inl ⟨by rfl, ?h8_5009⟩) (by assumption) ?r8_5009
            case h8_5009 =>
              intro W hSW
              try dsimp only at hSW
              go_simp
              try with_reducible rfl
            try simp only [Act.put, List.setIfInBounds_toArray, List.set_cons_zero, List.set_cons_succ]
            refine wpAnyH_take (i := 9) (oi := { dst := some 58, op := Op.indexAddr 23 (Operand.tmp 56) (Operand.tmp 57), type := 0, pos := "ref.go:71", after := #[{ on := 7, ground := Ground.data }, { on := 8, ground := Ground.data }, { on := 2, ground := Ground.guard }], guard := some (2, false) }) (v := ?v9_5010) rfl (by kernel_rfl) (by kernel_rfl) (by kernel_rfl) (fun _ _ _ h => h) (Or.inl ⟨by rfl, ?h9_5010⟩) (by assumption) ?r9_5010
            case h9_5010 =>
              intro W hSW
              try dsimp only at hSW
              go_simp
              try with_reducible rfl
            try simp only [Act.put, List.setIfInBounds_toArray, List.set_cons_zero, List.set_cons_succ]
            refine wpAnyH_take (i := 10) (oi := { dst := some 59, op := Op.load 49 (Operand.tmp 58), type := 49, pos := "ref.go:71", after := #[{ on := 9, ground := Ground.data }, { on := 2, ground := Ground.guard }], guard := some (2, false) }) (v := ?v10_5011) rfl (by kernel_rfl) (by kernel_rfl) (by kernel_rfl) (fun _ _ _ h => h) (Or.inl ⟨by rfl, ?h10_5011⟩) (by assumption) ?r10_5011
            case h10_5011 =>
              intro W hSW
              try dsimp only at hSW
              have hc0 := (hSW.cell (p := ⟨b, off + p * 5, none⟩) HBW2.out).trans D0.out
              have hc1 := (hSW.cell (p := ⟨b, off + p * 5 + 1, none⟩) HBW2.out).trans D1.out
              have hc2 := (hSW.cell (p := ⟨b, off + p * 5 + 2, none⟩) HBW2.out).trans D2.out
              have hc3 := (hSW.cell (p := ⟨b, off + p * 5 + 3, none⟩) HBW2.out).trans D3.out
              have hc4 := (hSW.cell (p := ⟨b, off + p * 5 + 4, none⟩) HBW2.out).trans D4.out
              go_simp
              try with_reducible rfl
            try simp only [Act.put, List.setIfInBounds_toArray, List.set_cons_zero, List.set_cons_succ]
            refine wpAnyH_ready (rs := [11]) (by kernel_rfl) (by simp) ?_
            refine AllReadyH.cons (o := { dst := some 60, op := Op.call { callee := Callee.value (Operand.func 39), args := #[Operand.tmp 55, Operand.tmp 59], argTypes := #[49, 49] }, type := 4, pos := "ref.go:71", after := #[{ on := 6, ground := Ground.data }, { on := 10, ground := Ground.data }, { on := 2, ground := Ground.chain }, { on := 2, ground := Ground.guard }], guard := some (2, false) }) rfl (fun K hK => ?_) AllReadyH.nil
            go_simp
            refine (HBQ.out _).mono ?_
            rintro e w1 ⟨rfl, b1⟩
            have hv1 : Below w2.heap.size w2 w1 := hv0.trans (b1.mono hv0.size)
            go_wp2_with fail
            refine hK.out _ _ (hv1) (fun hHeld => ?_)
            clear hK K
            try simp only [Act.put, List.setIfInBounds_toArray, List.set_cons_zero, List.set_cons_succ]
            refine wpAnyH_take (i := 12) (oi := { dst := some 61, op := Op.pick (Operand.tmp 51) (Operand.const (Value.bool true)) (Operand.tmp 60), type := 4, pos := "ref.go:71", after := #[{ on := 2, ground := Ground.data }, { on := 11, ground := Ground.data }], guard := none }) (v := ?v12_5012) rfl (by kernel_rfl) (by kernel_rfl) (by kernel_rfl) (fun _ _ _ h => h) (Or.inl ⟨by rfl, ?h12_5012⟩) (by assumption) ?r12_5012
            case h12_5012 =>
              intro W hSW
              try dsimp only at hSW
              go_simp
              try with_reducible rfl
            try simp only [Act.put, List.setIfInBounds_toArray, List.set_cons_zero, List.set_cons_succ]
            refine wpAnyH_done (by kernel_rfl) ?_ _
            go_wp2
            go_roundw
            case rel => exact ⟨j + 1, by omega, by rw [HRES.out, HV.out], by go_num, HB2.out.trans (hv1.mono HB2.out.size)⟩
            case measure => simp [intOf]; omega
          | false =>
            go_wp2_with (first | fail | (go_at_call 38; refine (HIS.out _).mono ?_; rintro e w2 ⟨rfl, b2⟩; have y0 := (b2.cell (p := ⟨b, off + j * 5 + 3, none⟩) HBW.out).trans c3))
            have HBW2 := Lib.hid (Nat.lt_of_lt_of_le HBW.out b2.size)
            have HB2 := Lib.hid (HB.out.trans (b2.mono HB.out.size))
            have C0 := Lib.hid ((b2.cell (p := ⟨b, off + j * 5, none⟩) HBW.out).trans c0)
            have C1 := Lib.hid ((b2.cell (p := ⟨b, off + j * 5 + 1, none⟩) HBW.out).trans c1)
            have C2 := Lib.hid ((b2.cell (p := ⟨b, off + j * 5 + 2, none⟩) HBW.out).trans c2)
            have C3 := Lib.hid ((b2.cell (p := ⟨b, off + j * 5 + 3, none⟩) HBW.out).trans c3)
            have C4 := Lib.hid ((b2.cell (p := ⟨b, off + j * 5 + 4, none⟩) HBW.out).trans c4)
            have D0 := Lib.hid ((b2.cell (p := ⟨b, off + p * 5, none⟩) HBW.out).trans E0.out)
            have D1 := Lib.hid ((b2.cell (p := ⟨b, off + p * 5 + 1, none⟩) HBW.out).trans E1.out)
            have D2 := Lib.hid ((b2.cell (p := ⟨b, off + p * 5 + 2, none⟩) HBW.out).trans E2.out)
            have D3 := Lib.hid ((b2.cell (p := ⟨b, off + p * 5 + 3, none⟩) HBW.out).trans E3.out)
            have D4 := Lib.hid ((b2.cell (p := ⟨b, off + p * 5 + 4, none⟩) HBW.out).trans E4.out)
            have hv0 : Below w2.heap.size w2 w2.drew := (Below.refl _ _).drew
            refine wp_region_held_drew (S := fun W => Below w2.heap.size w2 W) (by kernel_rfl) (hv0) (fun hHeld => ?_)
            refine wpAnyH_take (i := 0) (oi := { dst := some 49, op := Op.move (Operand.tmp 9), type := 3, pos := "ref.go:71", after := #[], guard := none }) (v := ?v0_6001) rfl (by kernel_rfl) (by kernel_rfl) (by kernel_rfl) (fun _ _ _ h => h) (Or.inl ⟨by rfl, ?h0_6001⟩) (by assumption) ?r0_6001
            case h0_6001 =>
              intro W hSW
              try dsimp only at hSW
              go_simp
              try with_reducible rfl
            try simp only [Act.put, List.setIfInBounds_toArray, List.set_cons_zero, List.set_cons_succ]
            refine wpAnyH_take (i := 1) (oi := { dst := some 50, op := Op.binOp BinOp.lss 3 (Operand.tmp 49) (Operand.const (Value.int IntKind.i64 0)) 3, type := 4, pos := "ref.go:71", after := #[{ on := 0, ground := Ground.data }], guard := none }) (v := ?v1_6002) rfl (by kernel_rfl) (by kernel_rfl) (by kernel_rfl) (fun _ _ _ h => h) (Or.inl ⟨by rfl, ?h1_6002⟩) (by assumption) ?r1_6002
            case h1_6002 =>
              intro W hSW
              try dsimp only at hSW
              go_simp
              try with_reducible rfl
            try simp only [Act.put, List.setIfInBounds_toArray, List.set_cons_zero, List.set_cons_succ]
            refine wpAnyH_take (i := 2) (oi := { dst := some 51, op := Op.move (Operand.tmp 50), type := 4, pos := "ref.go:71", after := #[{ on := 1, ground := Ground.data }], guard := none }) (v := ?v2_6003) rfl (by kernel_rfl) (by kernel_rfl) (by kernel_rfl) (fun _ _ _ h => h) (Or.inl ⟨by rfl, ?h2_6003⟩) (by assumption) ?r2_6003
            case h2_6003 =>
              intro W hSW
              try dsimp only at hSW
              go_simp
              try with_reducible rfl
            try simp only [Act.put, List.setIfInBounds_toArray, List.set_cons_zero, List.set_cons_succ]
            refine wpAnyH_take (i := 3) (oi := { dst := some 52, op := Op.move (Operand.tmp 0), type := 23, pos := "ref.go:71", after := #[{ on := 2, ground := Ground.guard }], guard := some (2, false) }) (v := ?v3_6004) rfl (by kernel_rfl) (by kernel_rfl) (by kernel_rfl) (fun _ _ _ h => h) (Or.inl ⟨by rfl, ?h3_6004⟩) (by assumption) ?r3_6004
            case h3_6004 =>
              intro W hSW
              try dsimp only at hSW
              go_simp
              try with_reducible rfl
            try simp only [Act.put, List.setIfInBounds_toArray, List.set_cons_zero, List.set_cons_succ]
            refine wpAnyH_take (i := 4) (oi := { dst := some 53, op := Op.move (Operand.tmp 10), type := 3, pos := "ref.go:71", after := #[{ on := 2, ground := Ground.guard }], guard := some (2, false) }) (v := ?v4_6005) rfl (by kernel_rfl) (by kernel_rfl) (by kernel_rfl) (fun _ _ _ h => h) (Or.inl ⟨by rfl, ?h4_6005⟩) (by assumption) ?r4_6005
            case h4_6005 =>
              intro W hSW
              try dsimp only at hSW
              go_simp
              try with_reducible rfl
            try simp only [Act.put, List.setIfInBounds_toArray, List.set_cons_zero, List.set_cons_succ]
            refine wpAnyH_take (i := 5) (oi := { dst := some 54, op := Op.indexAddr 23 (Operand.tmp 52) (Operand.tmp 53), type := 0, pos := "ref.go:71", after := #[{ on := 3, ground := Ground.data }, { on := 4, ground := Ground.data }, { on := 2, ground := Ground.guard }], guard := some (2, false) }) (v := ?v5_6006) rfl (by kernel_rfl) (by kernel_rfl) (by kernel_rfl) (fun _ _ _ h => h) (Or.inl ⟨by rfl, ?h5_6006⟩) (by assumption) ?r5_6006
            case h5_6006 =>
              intro W hSW
              try dsimp only at hSW
              go_simp
              try with_reducible rfl
            try simp only [Act.put, List.setIfInBounds_toArray, List.set_cons_zero, List.set_cons_succ]
            refine wpAnyH_take (i := 6) (oi := { dst := some 55, op := Op.load 49 (Operand.tmp 54), type := 49, pos := "ref.go:71", after := #[{ on := 5, ground := Ground.data }, { on := 2, ground := Ground.guard }], guard := some (2, false) }) (v := ?v6_6007) rfl (by kernel_rfl) (by kernel_rfl) (by kernel_rfl) (fun _ _ _ h => h) (Or.inl ⟨by rfl, ?h6_6007⟩) (by assumption) ?r6_6007
            case h6_6007 =>
              intro W hSW
              try dsimp only at hSW
              have hc0 := (hSW.cell (p := ⟨b, off + j * 5, none⟩) HBW2.out).trans C0.out
              have hc1 := (hSW.cell (p := ⟨b, off + j * 5 + 1, none⟩) HBW2.out).trans C1.out
              have hc2 := (hSW.cell (p := ⟨b, off + j * 5 + 2, none⟩) HBW2.out).trans C2.out
              have hc3 := (hSW.cell (p := ⟨b, off + j * 5 + 3, none⟩) HBW2.out).trans C3.out
              have hc4 := (hSW.cell (p := ⟨b, off + j * 5 + 4, none⟩) HBW2.out).trans C4.out
              go_simp
              try with_reducible rfl
            try simp only [Act.put, List.setIfInBounds_toArray, List.set_cons_zero, List.set_cons_succ]
            refine wpAnyH_take (i := 7) (oi := { dst := some 56, op := Op.move (Operand.tmp 0), type := 23, pos := "ref.go:71", after := #[{ on := 2, ground := Ground.guard }], guard := some (2, false) }) (v := ?v7_6008) rfl (by kernel_rfl) (by kernel_rfl) (by kernel_rfl) (fun _ _ _ h => h) (Or.inl ⟨by rfl, ?h7_6008⟩) (by assumption) ?r7_6008
            case h7_6008 =>
              intro W hSW
              try dsimp only at hSW
              go_simp
              try with_reducible rfl
            try simp only [Act.put, List.setIfInBounds_toArray, List.set_cons_zero, List.set_cons_succ]
            refine wpAnyH_take (i := 8) (oi := { dst := some 57, op := Op.move (Operand.tmp 9), type := 3, pos := "ref.go:71", after := #[{ on := 2, ground := Ground.guard }], guard := some (2, false) }) (v := ?v8_6009) rfl (by kernel_rfl) (by kernel_rfl) (by kernel_rfl) (fun _ _ _ h => h) (Or.inl ⟨by rfl, ?h8_6009⟩) (by assumption) ?r8_6009
            case h8_6009 =>
              intro W hSW
              try dsimp only at hSW
              go_simp
              try with_reducible rfl
            try simp only [Act.put, List.setIfInBounds_toArray, List.set_cons_zero, List.set_cons_succ]
            refine wpAnyH_take (i := 9) (oi := { dst := some 58, op := Op.indexAddr 23 (Operand.tmp 56) (Operand.tmp 57), type := 0, pos := "ref.go:71", after := #[{ on := 7, ground := Ground.data }, { on := 8, ground := Ground.data }, { on := 2, ground := Ground.guard }], guard := some (2, false) }) (v := ?v9_6010) rfl (by kernel_rfl) (by kernel_rfl) (by kernel_rfl) (fun _ _ _ h => h) (Or.inl ⟨by rfl, ?h9_6010⟩) (by assumption) ?r9_6010
            case h9_6010 =>
              intro W hSW
              try dsimp only at hSW
              go_simp
              try with_reducible rfl
            try simp only [Act.put, List.setIfInBounds_toArray, List.set_cons_zero, List.set_cons_succ]
            refine wpAnyH_take (i := 10) (oi := { dst := some 59, op := Op.load 49 (Operand.tmp 58), type := 49, pos := "ref.go:71", after := #[{ on := 9, ground := Ground.data }, { on := 2, ground := Ground.guard }], guard := some (2, false) }) (v := ?v10_6011) rfl (by kernel_rfl) (by kernel_rfl) (by kernel_rfl) (fun _ _ _ h => h) (Or.inl ⟨by rfl, ?h10_6011⟩) (by assumption) ?r10_6011
            case h10_6011 =>
              intro W hSW
              try dsimp only at hSW
              have hc0 := (hSW.cell (p := ⟨b, off + p * 5, none⟩) HBW2.out).trans D0.out
              have hc1 := (hSW.cell (p := ⟨b, off + p * 5 + 1, none⟩) HBW2.out).trans D1.out
              have hc2 := (hSW.cell (p := ⟨b, off + p * 5 + 2, none⟩) HBW2.out).trans D2.out
              have hc3 := (hSW.cell (p := ⟨b, off + p * 5 + 3, none⟩) HBW2.out).trans D3.out
              have hc4 := (hSW.cell (p := ⟨b, off + p * 5 + 4, none⟩) HBW2.out).trans D4.out
              go_simp
              try with_reducible rfl
            try simp only [Act.put, List.setIfInBounds_toArray, List.set_cons_zero, List.set_cons_succ]
            refine wpAnyH_ready (rs := [11]) (by kernel_rfl) (by simp) ?_
            refine AllReadyH.cons (o := { dst := some 60, op := Op.call { callee := Callee.value (Operand.func 39), args := #[Operand.tmp 55, Operand.tmp 59], argTypes := #[49, 49] }, type := 4, pos := "ref.go:71", after := #[{ on := 6, ground := Ground.data }, { on := 10, ground := Ground.data }, { on := 2, ground := Ground.chain }, { on := 2, ground := Ground.guard }], guard := some (2, false) }) rfl (fun K hK => ?_) AllReadyH.nil
            go_simp
            refine (HBQ.out _).mono ?_
            rintro e w1 ⟨rfl, b1⟩
            have hv1 : Below w2.heap.size w2 w1 := hv0.trans (b1.mono hv0.size)
            go_wp2_with fail
            refine hK.out _ _ (hv1) (fun hHeld => ?_)
            clear hK K
            try simp only [Act.put, List.setIfInBounds_toArray, List.set_cons_zero, List.set_cons_succ]
            refine wpAnyH_take (i := 12) (oi := { dst := some 61, op := Op.pick (Operand.tmp 51) (Operand.const (Value.bool true)) (Operand.tmp 60), type := 4, pos := "ref.go:71", after := #[{ on := 2, ground := Ground.data }, { on := 11, ground := Ground.data }], guard := none }) (v := ?v12_6012) rfl (by kernel_rfl) (by kernel_rfl) (by kernel_rfl) (fun _ _ _ h => h) (Or.inl ⟨by rfl, ?h12_6012⟩) (by assumption) ?r12_6012
            case h12_6012 =>
              intro W hSW
              try dsimp only at hSW
              go_simp
              try with_reducible rfl
            try simp only [Act.put, List.setIfInBounds_toArray, List.set_cons_zero, List.set_cons_succ]
            refine wpAnyH_done (by kernel_rfl) ?_ _
            go_wp2
            go_roundw
            case rel => exact ⟨j + 1, by omega, by rw [HRES.out, HV.out], by go_num, HB2.out.trans (hv1.mono HB2.out.size)⟩
            case measure => simp [intOf]; omega
    · obtain rfl : j = n := by omega
      go_wp2
      go_ret
      exact ⟨rfl, hb⟩
end Go.Proofs.Ytfihdenapjmaeaa
