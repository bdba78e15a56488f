/- The walk of the statement DigestProofsAccepted: it returns true. Conditions: what the argument is, the tables of SHA-256. -/
import Derived.Test.YtfnbcchmembomaaDoorDSan
import Derived.Test.YtfnbcchmembomaaDoorPreW
import Derived.Test.YtfnbcchmembomaaDoorVPre
import Derived.Test.YtfnbcchmembomaaDoorPrefAcc
namespace Go.Proofs.YtfnbcchmembomaaDoor
set_option linter.unusedVariables false
set_option linter.unusedSimpArgs false
open Go.RowKit
namespace Mk
theorem verify_prove (l : List (List UInt8)) (i : Nat) (hi : i < l.length) : verify (root l) (l.length : Int) (i : Int) (l.getD i []) (prove l i) = true := by
  unfold verify
  rw [if_pos (by omega), Int.toNat_natCast, Int.toNat_natCast, if_pos (by simp [prove]), prove_root l i hi]
  exact beq_self_eq_true _
end Mk
set_option maxRecDepth 100000 in
set_option maxHeartbeats 1000000 in
theorem lawAcc (A : Option Addr) (n c : Nat) (l : List (List UInt8)) (hl : l.length = n) (hnc : n ≤ c) (hc : c ≤ 140737488355328) (hd : D16 l) (w : World) (hr : Rd w w.heap.size 16 A n (dvs l)) (hT : Tabs w) :
    Calls Tryd.prog 8 #[.slice A n c] w fun e w' => e = .returned (.bool true) ∧ Below w.heap.size w w' := by
  have HL := Lib.hid hl
  clear hl
  by_cases hbig : 64 < n
  · have hb' : (64 : Int) < n := by omega
    go_enter Tryd.func8, Tryd.ntmps8
    go_wp2_with (go_at_call 10; refine (sanity_any _ hT).mono ?_; rintro e w1 ⟨rfl, b1⟩)
    go_ret
    exact ⟨rfl, b1⟩
  have hb' : ¬ (64 : Int) < n := by omega
  have HD := Lib.hid hd
  have hR := fun (W : World) (h : Below w.heap.size w W) => root_any n c A l HL.out (by omega) w.heap.size W (hr.below h) HD.out h.size hnc (by unfold maxLen; omega) (hT.below h)
  have h16 := Mk.root_len l
  have hacc := fun (k : Nat) (hk : k < n) => Mk.verify_prove l k (by rw [HL.out]; exact hk)
  have hpre := fun (k : Nat) (hk : k < n) => Mk.pref_ok l (k + 1) (by omega) (by rw [HL.out]; exact hk)
  rw [HL.out] at hacc hpre
  generalize Mk.root l = rt at *
  have H16 := Lib.hid h16
  have HR := Lib.hid hR
  have HACC := Lib.hid hacc
  have HPRE := Lib.hid hpre
  clear hR h16 hacc hpre hd
  go_enter Tryd.func8, Tryd.ntmps8
  go_wp2_with (first
    | (go_at_call 10; refine (sanity_any _ hT).mono ?_; rintro e w1 ⟨rfl, b1⟩)
    | (go_at_call 19; refine (HR.out _ b1).mono ?_; rintro e w2 ⟨rfl, b2⟩; have q2 := b1.trans (b2.mono b1.size))
    | (refine wpList_allocRow rfl _ rfl _ info16 ?_; intro w3 r3 b3 z3; obtain ⟨bt, hbt⟩ : ∃ bt, w2.heap.size = bt := ⟨_, rfl⟩; rw [hbt] at r3; rw [hbt]; have HBT := Lib.hid hbt; clear z3 hbt)
    | (refine wpList_storeRow rfl _ (.tmp 4) (.tmp 16) rfl r3 rfl rfl (by rw [bvs_len, H16.out]; exact size16) (by rw [bvs_len, H16.out, List.length_replicate]) (bvs_all _) ?_; intro w4 r4 g4 z4; clear z4)
    | fail)
  have hb4 : Below w.heap.size w w4 := (q2.trans (b3.mono q2.size)).grown g4 (by have := q2.size; have := b3.size; omega) (fun j hj => by have hj := Option.some.inj hj; have := HBT.out; have := q2.size; omega)
  go_loopw [5] (fun u5 wr => ∃ k : Nat, k ≤ n ∧ u5 = .int .i64 k ∧ Hid (Below w4.heap.size w4 wr)) (fun u5 _ => n - (intOf u5).toNat)
  case atStart => exact ⟨0, by omega, rfl, Lib.hid (Below.refl _ _)⟩
  case round =>
    obtain ⟨k, hk, rfl, HB⟩ := hrel
    by_cases hkn : k < n
    · obtain ⟨b, off, rfl, hbb, _⟩ := hr.2 (by omega)
      have hbr : Below w.heap.size w wr := hb4.trans (HB.out.mono hb4.size)
      have e1 : ((k + 1 : Nat) : Int) = (k : Int) + 1 := by push_cast; rfl
      have hd16 : (l.getD k []).length = 16 := by
        simp only [List.getD]
        rw [List.getElem?_eq_getElem (by rw [HL.out]; exact hkn)]
        exact HD.out _ (List.getElem_mem _)
      have hP := prove_ok n c b off k l HL.out (by omega) HD.out hnc (by unfold maxLen; omega) hkn w.heap.size wr (hT.below hbr) (hr.below hbr) hbr.size
      have hQ := fun (W : World) (h : Below wr.heap.size wr W) => provePrefix_ok n c (k + 1) (some ⟨b, off, none⟩) l HL.out (by omega) HD.out hnc (by unfold maxLen; omega) (by omega) (by omega) w.heap.size W ((hT.below hbr).below h) (hr.below (hbr.trans (h.mono hbr.size))) (Nat.le_trans hbr.size h.size)
      have hRT := fun (W : World) (h : Below wr.heap.size wr W) => root_any (k + 1) c (some ⟨b, off, none⟩) (l.take (k + 1)) (by rw [List.length_take, HL.out]; omega) (by omega) w.heap.size W ((hr.first HD.out (k := k + 1) (by omega)).below (hbr.trans (h.mono hbr.size))) (HD.out.take _) (Nat.le_trans hbr.size h.size) (by omega) (by unfold maxLen; omega) ((hT.below hbr).below h)
      have hV := fun (W : World) (hW : Below wr.heap.size wr W) (A5 : Option Addr) (m5 c5 : Nat) (hm : m5 = (Mk.prove l k).length) (B : Nat) (hB : B ≤ W.heap.size) (rd : Rd W B 16 A5 m5 (dvs (Mk.prove l k))) =>
        verify_any n k (by omega) rt (l.getD k []) H16.out hd16 A5 m5 c5 (Mk.prove l k) hm.symm (by unfold Mk.prove; intro d hd; rw [List.mem_reverse] at hd; exact Mk.sibs_16 _ _ d hd) B W rd hB ((hT.below hbr).below hW)
      have hVP := fun (W : World) (hW : Below wr.heap.size wr W) (A6 : Option Addr) (m6 c6 : Nat) (hm : m6 = (Mk.pref l (k + 1)).length) (hmc : m6 ≤ c6) (hcm : c6 ≤ maxLen) (B : Nat) (hB : B ≤ W.heap.size) (rd : Rd W B 16 A6 m6 (dvs (Mk.pref l (k + 1)))) =>
        vpre_in n (k + 1) (by omega) (by omega) (by omega) (Mk.root (l.take (k + 1))) rt (Mk.root_len _) H16.out A6 m6 c6 hmc hcm (Mk.pref l (k + 1)) hm.symm (Mk.pref_16 l (k + 1)) B W rd hB ((hT.below hbr).below hW)
      rw [e1] at hQ hVP
      rw [HACC.out k hkn] at hV
      rw [HPRE.out k hkn] at hVP
      have hrg : wr.rangeAt b (off + k * 16) (bvs (l.getD k [])) := Rd.ranges HD.out HL.out (hr.below hbr) k hkn
      generalize l.getD k [] = dk at *
      generalize Mk.root (l.take (k + 1)) = rk at *
      generalize Mk.prove l k = pk at *
      generalize Mk.pref l (k + 1) = qk at *
      have HQ := Lib.hid hQ
      have HRT := Lib.hid hRT
      have HV := Lib.hid hV
      have HVP := Lib.hid hVP
      have HK16 := Lib.hid hd16
      have hw1 : IntKind.i64.wrap ((k : Int) + 1) = (k : Int) + 1 := IntWalk.i64_in _ (by omega)
      have hp1 : (0 : Int) ≤ (k : Int) + 1 := by omega
      have ht1 : ((k : Int) + 1).toNat = k + 1 := by omega
      have hp3 : (k : Int) + 1 ≤ (c : Int) := by omega
      have hp4 : k + 1 ≤ c := by omega
      clear hQ hRT hV hVP hd16 e1
      go_wp2_with (first
        | (go_at_call 15; refine hP.mono ?_; rintro e w5 ⟨A5, m5, c5, rfl, hm5, hmc5, hcm5, rd5, b5⟩; have HM5 := Lib.hid hm5; clear hm5)
        | (go_at_call 17; refine (HQ.out _ b5).mono ?_; rintro e w6 ⟨A6, m6, c6, rfl, hm6, hmc6, hcm6, rd6, b6⟩; have HM6 := Lib.hid hm6; clear hm6)
        | fail)
      have q6 : Below wr.heap.size wr w6 := b5.trans (b6.mono b5.size)
      have r6 := (r4.below' HB.out).below' q6
      have rd5' := rd5.below b6
      have hrg6 : w6.rangeAt b (off + k * 16) (bvs dk) := fun j v hv => (q6.cell (p := ⟨b, _, none⟩) (show b < wr.heap.size by have := hbr.size; omega)).trans (hrg j v hv)
      have hbk : b < w6.heap.size := by have := hbr.size; have := q6.size; omega
      have hw5 : w5.heap.size ≤ w6.heap.size := b6.size
      have hv0 : Below w6.heap.size w6 w6.drew := (Below.refl _ _).drew
      refine wp_region_held_drew (S := fun W => Below w6.heap.size w6 W) (by kernel_rfl) (hv0) (fun hHeld => ?_)
      refine wpAnyH_take (i := 0) (oi := { dst := some 36, op := Op.move (Operand.tmp 7), type := 35, pos := "law.go:90", after := #[], guard := none }) (v := ?v0_1) rfl (by kernel_rfl) (by kernel_rfl) (by kernel_rfl) (fun _ _ _ h => h) (Or.inl ⟨by rfl, ?h0_1⟩) (by assumption) ?r0_1
      case h0_1 =>
        intro W hSW
        try dsimp only at hSW
        go_simp
        try with_reducible rfl
      try simp only [Act.put, List.setIfInBounds_toArray, List.set_cons_zero, List.set_cons_succ]
      refine wpAnyH_take (i := 1) (oi := { dst := some 37, op := Op.binOp BinOp.neq 35 (Operand.tmp 36) (Operand.const (Value.int IntKind.i64 0)) 35, type := 4, pos := "law.go:90", after := #[{ on := 0, ground := Ground.data }], guard := none }) (v := ?v1_2) rfl (by kernel_rfl) (by kernel_rfl) (by kernel_rfl) (fun _ _ _ h => h) (Or.inl ⟨by rfl, ?h1_2⟩) (by assumption) ?r1_2
      case h1_2 =>
        intro W hSW
        try dsimp only at hSW
        go_simp
        try with_reducible rfl
      try simp only [Act.put, List.setIfInBounds_toArray, List.set_cons_zero, List.set_cons_succ]
      refine wpAnyH_take (i := 2) (oi := { dst := some 38, op := Op.move (Operand.tmp 37), type := 4, pos := "law.go:90", after := #[{ on := 1, ground := Ground.data }], guard := none }) (v := ?v2_3) rfl (by kernel_rfl) (by kernel_rfl) (by kernel_rfl) (fun _ _ _ h => h) (Or.inl ⟨by rfl, ?h2_3⟩) (by assumption) ?r2_3
      case h2_3 =>
        intro W hSW
        try dsimp only at hSW
        go_simp
        try with_reducible rfl
      try simp only [Act.put, List.setIfInBounds_toArray, List.set_cons_zero, List.set_cons_succ]
      refine wpAnyH_take (i := 3) (oi := { dst := some 39, op := Op.move (Operand.tmp 9), type := 35, pos := "law.go:90", after := #[{ on := 2, ground := Ground.guard }], guard := some (2, false) }) (v := ?v3_4) rfl (by kernel_rfl) (by kernel_rfl) (by kernel_rfl) (fun _ _ _ h => h) (Or.inl ⟨by rfl, ?h3_4⟩) (by assumption) ?r3_4
      case h3_4 =>
        intro W hSW
        try dsimp only at hSW
        go_simp
        try with_reducible rfl
      try simp only [Act.put, List.setIfInBounds_toArray, List.set_cons_zero, List.set_cons_succ]
      refine wpAnyH_take (i := 4) (oi := { dst := some 40, op := Op.binOp BinOp.neq 35 (Operand.tmp 39) (Operand.const (Value.int IntKind.i64 0)) 35, type := 4, pos := "law.go:90", after := #[{ on := 3, ground := Ground.data }, { on := 2, ground := Ground.guard }], guard := some (2, false) }) (v := ?v4_5) rfl (by kernel_rfl) (by kernel_rfl) (by kernel_rfl) (fun _ _ _ h => h) (Or.inl ⟨by rfl, ?h4_5⟩) (by assumption) ?r4_5
      case h4_5 =>
        intro W hSW
        try dsimp only at hSW
        go_simp
        try with_reducible rfl
      try simp only [Act.put, List.setIfInBounds_toArray, List.set_cons_zero, List.set_cons_succ]
      refine wpAnyH_take (i := 5) (oi := { dst := some 41, op := Op.pick (Operand.tmp 38) (Operand.const (Value.bool true)) (Operand.tmp 40), type := 4, pos := "law.go:90", after := #[{ on := 2, ground := Ground.data }, { on := 4, ground := Ground.data }], guard := none }) (v := ?v5_6) rfl (by kernel_rfl) (by kernel_rfl) (by kernel_rfl) (fun _ _ _ h => h) (Or.inl ⟨by rfl, ?h5_6⟩) (by assumption) ?r5_6
      case h5_6 =>
        intro W hSW
        try dsimp only at hSW
        go_simp
        try with_reducible rfl
      try simp only [Act.put, List.setIfInBounds_toArray, List.set_cons_zero, List.set_cons_succ]
      refine wpAnyH_take (i := 6) (oi := { dst := some 42, op := Op.move (Operand.tmp 41), type := 4, pos := "law.go:90", after := #[{ on := 5, ground := Ground.data }, { on := 2, ground := Ground.chain }], guard := none }) (v := ?v6_7) rfl (by kernel_rfl) (by kernel_rfl) (by kernel_rfl) (fun _ _ _ h => h) (Or.inl ⟨by rfl, ?h6_7⟩) (by assumption) ?r6_7
      case h6_7 =>
        intro W hSW
        try dsimp only at hSW
        go_simp
        try with_reducible rfl
      try simp only [Act.put, List.setIfInBounds_toArray, List.set_cons_zero, List.set_cons_succ]
      refine wpAnyH_take (i := 7) (oi := { dst := some 43, op := Op.load 30 (Operand.tmp 4), type := 30, pos := "law.go:90", after := #[{ on := 6, ground := Ground.guard }], guard := some (6, false) }) (v := _) rfl (by kernel_rfl) (by kernel_rfl) (by kernel_rfl) (fun _ _ _ h => h) (yi_row rfl _ (.tmp 4) rfl rfl (fun W hW => r6.below' hW) Tryd.underlying30 (by rw [bvs_len, H16.out]; exact size16)) (by assumption) ?_
      try simp only [Act.put, List.setIfInBounds_toArray, List.set_cons_zero, List.set_cons_succ]
      refine wpAnyH_take (i := 8) (oi := { dst := some 44, op := Op.move (Operand.tmp 0), type := 34, pos := "law.go:90", after := #[{ on := 6, ground := Ground.guard }], guard := some (6, false) }) (v := ?v8_9) rfl (by kernel_rfl) (by kernel_rfl) (by kernel_rfl) (fun _ _ _ h => h) (Or.inl ⟨by rfl, ?h8_9⟩) (by assumption) ?r8_9
      case h8_9 =>
        intro W hSW
        try dsimp only at hSW
        go_simp
        try with_reducible rfl
      try simp only [Act.put, List.setIfInBounds_toArray, List.set_cons_zero, List.set_cons_succ]
      refine wpAnyH_take (i := 9) (oi := { dst := some 45, op := Op.call { callee := Callee.builtin Builtin.len, args := #[Operand.tmp 44], argTypes := #[34] }, type := 3, pos := "law.go:90", after := #[{ on := 8, ground := Ground.data }, { on := 6, ground := Ground.guard }], guard := some (6, false) }) (v := ?v9_10) rfl (by kernel_rfl) (by kernel_rfl) (by kernel_rfl) (fun _ _ _ h => h) (Or.inl ⟨by rfl, ?h9_10⟩) (by assumption) ?r9_10
      case h9_10 =>
        intro W hSW
        try dsimp only at hSW
        go_simp
        try with_reducible rfl
      try simp only [Act.put, List.setIfInBounds_toArray, List.set_cons_zero, List.set_cons_succ]
      refine wpAnyH_take (i := 10) (oi := { dst := some 46, op := Op.move (Operand.tmp 5), type := 3, pos := "law.go:90", after := #[{ on := 6, ground := Ground.guard }], guard := some (6, false) }) (v := ?v10_11) rfl (by kernel_rfl) (by kernel_rfl) (by kernel_rfl) (fun _ _ _ h => h) (Or.inl ⟨by rfl, ?h10_11⟩) (by assumption) ?r10_11
      case h10_11 =>
        intro W hSW
        try dsimp only at hSW
        go_simp
        try with_reducible rfl
      try simp only [Act.put, List.setIfInBounds_toArray, List.set_cons_zero, List.set_cons_succ]
      refine wpAnyH_take (i := 11) (oi := { dst := some 47, op := Op.move (Operand.tmp 0), type := 34, pos := "law.go:90", after := #[{ on := 6, ground := Ground.guard }], guard := some (6, false) }) (v := ?v11_12) rfl (by kernel_rfl) (by kernel_rfl) (by kernel_rfl) (fun _ _ _ h => h) (Or.inl ⟨by rfl, ?h11_12⟩) (by assumption) ?r11_12
      case h11_12 =>
        intro W hSW
        try dsimp only at hSW
        go_simp
        try with_reducible rfl
      try simp only [Act.put, List.setIfInBounds_toArray, List.set_cons_zero, List.set_cons_succ]
      refine wpAnyH_take (i := 12) (oi := { dst := some 48, op := Op.move (Operand.tmp 5), type := 3, pos := "law.go:90", after := #[{ on := 6, ground := Ground.guard }], guard := some (6, false) }) (v := ?v12_13) rfl (by kernel_rfl) (by kernel_rfl) (by kernel_rfl) (fun _ _ _ h => h) (Or.inl ⟨by rfl, ?h12_13⟩) (by assumption) ?r12_13
      case h12_13 =>
        intro W hSW
        try dsimp only at hSW
        go_simp
        try with_reducible rfl
      try simp only [Act.put, List.setIfInBounds_toArray, List.set_cons_zero, List.set_cons_succ]
      refine wpAnyH_take (i := 13) (oi := { dst := some 49, op := Op.indexAddr 34 (Operand.tmp 47) (Operand.tmp 48), type := 0, pos := "law.go:90", after := #[{ on := 11, ground := Ground.data }, { on := 12, ground := Ground.data }, { on := 6, ground := Ground.guard }], guard := some (6, false) }) (v := ?v13_14) rfl (by kernel_rfl) (by kernel_rfl) (by kernel_rfl) (fun _ _ _ h => h) (Or.inl ⟨by rfl, ?h13_14⟩) (by assumption) ?r13_14
      case h13_14 =>
        intro W hSW
        try dsimp only at hSW
        go_simp
        try with_reducible rfl
      try simp only [Act.put, List.setIfInBounds_toArray, List.set_cons_zero, List.set_cons_succ]
      refine wpAnyH_take (i := 14) (oi := { dst := some 50, op := Op.load 30 (Operand.tmp 49), type := 30, pos := "law.go:90", after := #[{ on := 13, ground := Ground.data }, { on := 6, ground := Ground.guard }], guard := some (6, false) }) (v := _) rfl (by kernel_rfl) (by kernel_rfl) (by kernel_rfl) (fun _ _ _ h => h) (yieldsIf_load_mid rfl _ (.tmp 49) rfl b (off + k * 16) rfl (bvs dk) _ (fun W hW => fun j v hv => (hW.cell (p := ⟨b, _, none⟩) hbk).trans (hrg6 j v hv)) Tryd.underlying30 rfl (by rw [bvs_len, HK16.out]; exact size16)) (by assumption) ?_
      try simp only [Act.put, List.setIfInBounds_toArray, List.set_cons_zero, List.set_cons_succ]
      refine wpAnyH_take (i := 15) (oi := { dst := some 51, op := Op.move (Operand.tmp 6), type := 34, pos := "law.go:90", after := #[{ on := 6, ground := Ground.guard }], guard := some (6, false) }) (v := ?v15_16) rfl (by kernel_rfl) (by kernel_rfl) (by kernel_rfl) (fun _ _ _ h => h) (Or.inl ⟨by rfl, ?h15_16⟩) (by assumption) ?r15_16
      case h15_16 =>
        intro W hSW
        try dsimp only at hSW
        go_simp
        try with_reducible rfl
      try simp only [Act.put, List.setIfInBounds_toArray, List.set_cons_zero, List.set_cons_succ]
      refine wpAnyH_ready (rs := [16]) (by kernel_rfl) (by simp) ?_
      refine AllReadyH.cons (o := { dst := some 52, op := Op.call { callee := Callee.value (Operand.func 26), args := #[Operand.tmp 43, Operand.tmp 45, Operand.tmp 46, Operand.tmp 50, Operand.tmp 51], argTypes := #[30, 3, 3, 30, 34] }, type := 4, pos := "law.go:90", after := #[{ on := 7, ground := Ground.data }, { on := 9, ground := Ground.data }, { on := 10, ground := Ground.data }, { on := 14, ground := Ground.data }, { on := 15, ground := Ground.data }, { on := 6, ground := Ground.chain }, { on := 6, ground := Ground.guard }], guard := some (6, false) }) rfl (fun K hK => ?_) AllReadyH.nil
      go_simp
      refine (HV.out _ (q6.trans (hv0.mono q6.size)) A5 m5 c5 HM5.out _ (Nat.le_trans hw5 hv0.size) (rd5'.below (hv0.mono hw5))).mono ?_
      rintro e w7 ⟨rfl, b7⟩
      have hv7 : Below w6.heap.size w6 w7 := hv0.trans (b7.mono hv0.size)
      go_wp2_with fail
      refine hK.out _ _ (hv7) (fun hHeld => ?_)
      clear hK K
      try simp only [Act.put, List.setIfInBounds_toArray, List.set_cons_zero, List.set_cons_succ]
      refine wpAnyH_take (i := 17) (oi := { dst := some 53, op := Op.unOp UnOp.not 4 (Operand.tmp 52), type := 4, pos := "law.go:90", after := #[{ on := 16, ground := Ground.data }, { on := 6, ground := Ground.guard }], guard := some (6, false) }) (v := ?v17_17) rfl (by kernel_rfl) (by kernel_rfl) (by kernel_rfl) (fun _ _ _ h => h) (Or.inl ⟨by rfl, ?h17_17⟩) (by assumption) ?r17_17
      case h17_17 =>
        intro W hSW
        try dsimp only at hSW
        go_simp
        try with_reducible rfl
      try simp only [Act.put, List.setIfInBounds_toArray, List.set_cons_zero, List.set_cons_succ]
      refine wpAnyH_take (i := 18) (oi := { dst := some 54, op := Op.pick (Operand.tmp 42) (Operand.const (Value.bool true)) (Operand.tmp 53), type := 4, pos := "law.go:90", after := #[{ on := 6, ground := Ground.data }, { on := 17, ground := Ground.data }], guard := none }) (v := ?v18_18) rfl (by kernel_rfl) (by kernel_rfl) (by kernel_rfl) (fun _ _ _ h => h) (Or.inl ⟨by rfl, ?h18_18⟩) (by assumption) ?r18_18
      case h18_18 =>
        intro W hSW
        try dsimp only at hSW
        go_simp
        try with_reducible rfl
      try simp only [Act.put, List.setIfInBounds_toArray, List.set_cons_zero, List.set_cons_succ]
      refine wpAnyH_take (i := 19) (oi := { dst := some 55, op := Op.move (Operand.tmp 54), type := 4, pos := "law.go:90", after := #[{ on := 18, ground := Ground.data }, { on := 16, ground := Ground.chain }], guard := none }) (v := ?v19_19) rfl (by kernel_rfl) (by kernel_rfl) (by kernel_rfl) (fun _ _ _ h => h) (Or.inl ⟨by rfl, ?h19_19⟩) (by assumption) ?r19_19
      case h19_19 =>
        intro W hSW
        try dsimp only at hSW
        go_simp
        try with_reducible rfl
      try simp only [Act.put, List.setIfInBounds_toArray, List.set_cons_zero, List.set_cons_succ]
      refine wpAnyH_take (i := 20) (oi := { dst := some 56, op := Op.move (Operand.tmp 0), type := 34, pos := "law.go:90", after := #[{ on := 19, ground := Ground.guard }], guard := some (19, false) }) (v := ?v20_20) rfl (by kernel_rfl) (by kernel_rfl) (by kernel_rfl) (fun _ _ _ h => h) (Or.inl ⟨by rfl, ?h20_20⟩) (by assumption) ?r20_20
      case h20_20 =>
        intro W hSW
        try dsimp only at hSW
        go_simp
        try with_reducible rfl
      try simp only [Act.put, List.setIfInBounds_toArray, List.set_cons_zero, List.set_cons_succ]
      refine wpAnyH_take (i := 21) (oi := { dst := some 57, op := Op.move (Operand.tmp 5), type := 3, pos := "law.go:90", after := #[{ on := 19, ground := Ground.guard }], guard := some (19, false) }) (v := ?v21_21) rfl (by kernel_rfl) (by kernel_rfl) (by kernel_rfl) (fun _ _ _ h => h) (Or.inl ⟨by rfl, ?h21_21⟩) (by assumption) ?r21_21
      case h21_21 =>
        intro W hSW
        try dsimp only at hSW
        go_simp
        try with_reducible rfl
      try simp only [Act.put, List.setIfInBounds_toArray, List.set_cons_zero, List.set_cons_succ]
      refine wpAnyH_take (i := 22) (oi := { dst := some 58, op := Op.binOp BinOp.add 3 (Operand.tmp 57) (Operand.const (Value.int IntKind.i64 1)) 3, type := 3, pos := "law.go:90", after := #[{ on := 21, ground := Ground.data }, { on := 19, ground := Ground.guard }], guard := some (19, false) }) (v := ?v22_22) rfl (by kernel_rfl) (by kernel_rfl) (by kernel_rfl) (fun _ _ _ h => h) (Or.inl ⟨by rfl, ?h22_22⟩) (by assumption) ?r22_22
      case h22_22 =>
        intro W hSW
        try dsimp only at hSW
        go_simp
        try with_reducible rfl
      try simp only [Act.put, List.setIfInBounds_toArray, List.set_cons_zero, List.set_cons_succ]
      refine wpAnyH_take (i := 23) (oi := { dst := some 59, op := Op.slice 34 (Operand.tmp 56) none (some (Operand.tmp 58)) none, type := 34, pos := "law.go:90", after := #[{ on := 20, ground := Ground.data }, { on := 22, ground := Ground.data }, { on := 19, ground := Ground.guard }], guard := some (19, false) }) (v := ?v23_23) rfl (by kernel_rfl) (by kernel_rfl) (by kernel_rfl) (fun _ _ _ h => h) (Or.inl ⟨by rfl, ?h23_23⟩) (by assumption) ?r23_23
      case h23_23 =>
        intro W hSW
        try dsimp only at hSW
        go_simp
        try with_reducible rfl
      try simp only [Act.put, List.setIfInBounds_toArray, List.set_cons_zero, List.set_cons_succ]
      refine wpAnyH_take (i := 25) (oi := { dst := some 61, op := Op.load 30 (Operand.tmp 4), type := 30, pos := "law.go:90", after := #[{ on := 19, ground := Ground.guard }], guard := some (19, false) }) (v := _) rfl (by kernel_rfl) (by kernel_rfl) (by kernel_rfl) (fun _ _ _ h => h) (yi_row rfl _ (.tmp 4) rfl rfl (fun W hW => r6.below' hW) Tryd.underlying30 (by rw [bvs_len, H16.out]; exact size16)) (by assumption) ?_
      try simp only [Act.put, List.setIfInBounds_toArray, List.set_cons_zero, List.set_cons_succ]
      refine wpAnyH_take (i := 26) (oi := { dst := some 62, op := Op.move (Operand.tmp 5), type := 3, pos := "law.go:90", after := #[{ on := 19, ground := Ground.guard }], guard := some (19, false) }) (v := ?v26_25) rfl (by kernel_rfl) (by kernel_rfl) (by kernel_rfl) (fun _ _ _ h => h) (Or.inl ⟨by rfl, ?h26_25⟩) (by assumption) ?r26_25
      case h26_25 =>
        intro W hSW
        try dsimp only at hSW
        go_simp
        try with_reducible rfl
      try simp only [Act.put, List.setIfInBounds_toArray, List.set_cons_zero, List.set_cons_succ]
      refine wpAnyH_take (i := 27) (oi := { dst := some 63, op := Op.binOp BinOp.add 3 (Operand.tmp 62) (Operand.const (Value.int IntKind.i64 1)) 3, type := 3, pos := "law.go:90", after := #[{ on := 26, ground := Ground.data }, { on := 19, ground := Ground.guard }], guard := some (19, false) }) (v := ?v27_26) rfl (by kernel_rfl) (by kernel_rfl) (by kernel_rfl) (fun _ _ _ h => h) (Or.inl ⟨by rfl, ?h27_26⟩) (by assumption) ?r27_26
      case h27_26 =>
        intro W hSW
        try dsimp only at hSW
        go_simp
        try with_reducible rfl
      try simp only [Act.put, List.setIfInBounds_toArray, List.set_cons_zero, List.set_cons_succ]
      refine wpAnyH_take (i := 28) (oi := { dst := some 64, op := Op.move (Operand.tmp 0), type := 34, pos := "law.go:90", after := #[{ on := 19, ground := Ground.guard }], guard := some (19, false) }) (v := ?v28_27) rfl (by kernel_rfl) (by kernel_rfl) (by kernel_rfl) (fun _ _ _ h => h) (Or.inl ⟨by rfl, ?h28_27⟩) (by assumption) ?r28_27
      case h28_27 =>
        intro W hSW
        try dsimp only at hSW
        go_simp
        try with_reducible rfl
      try simp only [Act.put, List.setIfInBounds_toArray, List.set_cons_zero, List.set_cons_succ]
      refine wpAnyH_take (i := 29) (oi := { dst := some 65, op := Op.call { callee := Callee.builtin Builtin.len, args := #[Operand.tmp 64], argTypes := #[34] }, type := 3, pos := "law.go:90", after := #[{ on := 28, ground := Ground.data }, { on := 19, ground := Ground.guard }], guard := some (19, false) }) (v := ?v29_28) rfl (by kernel_rfl) (by kernel_rfl) (by kernel_rfl) (fun _ _ _ h => h) (Or.inl ⟨by rfl, ?h29_28⟩) (by assumption) ?r29_28
      case h29_28 =>
        intro W hSW
        try dsimp only at hSW
        go_simp
        try with_reducible rfl
      try simp only [Act.put, List.setIfInBounds_toArray, List.set_cons_zero, List.set_cons_succ]
      refine wpAnyH_take (i := 30) (oi := { dst := some 66, op := Op.move (Operand.tmp 8), type := 34, pos := "law.go:90", after := #[{ on := 19, ground := Ground.guard }], guard := some (19, false) }) (v := ?v30_29) rfl (by kernel_rfl) (by kernel_rfl) (by kernel_rfl) (fun _ _ _ h => h) (Or.inl ⟨by rfl, ?h30_29⟩) (by assumption) ?r30_29
      case h30_29 =>
        intro W hSW
        try dsimp only at hSW
        go_simp
        try with_reducible rfl
      try simp only [Act.put, List.setIfInBounds_toArray, List.set_cons_zero, List.set_cons_succ]
      refine wpAnyH_ready (rs := [24]) (by kernel_rfl) (by simp) ?_
      refine AllReadyH.cons (o := { dst := some 60, op := Op.call { callee := Callee.value (Operand.func 19), args := #[Operand.tmp 59], argTypes := #[34] }, type := 30, pos := "law.go:90", after := #[{ on := 23, ground := Ground.data }, { on := 19, ground := Ground.chain }, { on := 19, ground := Ground.guard }], guard := some (19, false) }) rfl (fun K hK => ?_) AllReadyH.nil
      go_simp
      refine (HRT.out _ (q6.trans (hv7.mono q6.size))).mono ?_
      rintro e w8 ⟨rfl, b8⟩
      have hv8 : Below w6.heap.size w6 w8 := hv7.trans (b8.mono hv7.size)
      go_wp2_with fail
      refine hK.out _ _ (hv8) (fun hHeld => ?_)
      clear hK K
      try simp only [Act.put, List.setIfInBounds_toArray, List.set_cons_zero, List.set_cons_succ]
      refine wpAnyH_ready (rs := [31]) (by kernel_rfl) (by simp) ?_
      refine AllReadyH.cons (o := { dst := some 67, op := Op.call { callee := Callee.value (Operand.func 28), args := #[Operand.tmp 60, Operand.tmp 61, Operand.tmp 63, Operand.tmp 65, Operand.tmp 66], argTypes := #[30, 30, 3, 3, 34] }, type := 4, pos := "law.go:90", after := #[{ on := 24, ground := Ground.data }, { on := 25, ground := Ground.data }, { on := 27, ground := Ground.data }, { on := 29, ground := Ground.data }, { on := 30, ground := Ground.data }, { on := 24, ground := Ground.chain }, { on := 19, ground := Ground.guard }], guard := some (19, false) }) rfl (fun K hK => ?_) AllReadyH.nil
      go_simp
      refine (HVP.out _ (q6.trans (hv8.mono q6.size)) A6 m6 c6 HM6.out hmc6 hcm6 _ hv8.size (rd6.below hv8)).mono ?_
      rintro e w9 ⟨rfl, b9⟩
      have hv9 : Below w6.heap.size w6 w9 := hv8.trans (b9.mono hv8.size)
      go_wp2_with fail
      refine hK.out _ _ (hv9) (fun hHeld => ?_)
      clear hK K
      try simp only [Act.put, List.setIfInBounds_toArray, List.set_cons_zero, List.set_cons_succ]
      refine wpAnyH_take (i := 32) (oi := { dst := some 68, op := Op.unOp UnOp.not 4 (Operand.tmp 67), type := 4, pos := "law.go:90", after := #[{ on := 31, ground := Ground.data }, { on := 19, ground := Ground.guard }], guard := some (19, false) }) (v := ?v32_30) rfl (by kernel_rfl) (by kernel_rfl) (by kernel_rfl) (fun _ _ _ h => h) (Or.inl ⟨by rfl, ?h32_30⟩) (by assumption) ?r32_30
      case h32_30 =>
        intro W hSW
        try dsimp only at hSW
        go_simp
        try with_reducible rfl
      try simp only [Act.put, List.setIfInBounds_toArray, List.set_cons_zero, List.set_cons_succ]
      refine wpAnyH_take (i := 33) (oi := { dst := some 69, op := Op.pick (Operand.tmp 55) (Operand.const (Value.bool true)) (Operand.tmp 68), type := 4, pos := "law.go:90", after := #[{ on := 19, ground := Ground.data }, { on := 32, ground := Ground.data }], guard := none }) (v := ?v33_31) rfl (by kernel_rfl) (by kernel_rfl) (by kernel_rfl) (fun _ _ _ h => h) (Or.inl ⟨by rfl, ?h33_31⟩) (by assumption) ?r33_31
      case h33_31 =>
        intro W hSW
        try dsimp only at hSW
        go_simp
        try with_reducible rfl
      try simp only [Act.put, List.setIfInBounds_toArray, List.set_cons_zero, List.set_cons_succ]
      refine wpAnyH_done (by kernel_rfl) ?_ _
      go_wp2_with fail
      go_roundw
      case rel => exact ⟨k + 1, by omega, by go_num, Lib.hid (HB.out.trans ((q6.trans (hv9.mono q6.size)).mono HB.out.size))⟩
      case measure => simp [intOf]; omega
    · have hkk : k = n := by omega
      subst hkk
      go_wp2
      go_ret
      exact ⟨rfl, hb4.trans (HB.out.mono hb4.size)⟩
end Go.Proofs.YtfnbcchmembomaaDoor
