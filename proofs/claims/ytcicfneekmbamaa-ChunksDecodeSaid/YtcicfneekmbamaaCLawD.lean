/- The law ChunksDecode. Conditions: none beside the argument's form. -/
import Derived.Test.YtcicfneekmbamaaLawKit
import Derived.Test.YtcicfneekmbamaaChkSK
namespace Go.Proofs.Ytcicfneekmbamaa
set_option linter.unusedVariables false
set_option linter.unusedSimpArgs false
open Go.RowKit
set_option maxRecDepth 100000 in
set_option maxHeartbeats 6400000 in
theorem lawDec (A : Option Addr) (n c : Nat) (b : List UInt8) (hl : b.length = n) (hnc : n ≤ c) (hc : c ≤ 140737488355328) (w : World) (hr : Rd w w.heap.size 1 A n (bvs b)) :
    Calls Try.prog 9 #[.slice A n c] w fun e w' => e = .returned (.bool true) ∧ Below w.heap.size w w' := by
  have HSN := Lib.hid sanity_any
  by_cases hn : 3000 < n
  · have e0 : (3000 : Int) < (n : Int) := by omega
    clear hr hl hnc hc hn
    go_enter Try.func9, Try.ntmps9
    go_wp2_with (go_at_call 12; refine (HSN.out _).mono ?_; rintro e w2 ⟨rfl, b2⟩)
    go_ret
    exact ⟨rfl, b2⟩
  have HP := Lib.hid (pdecode_any b A n c hl (by omega) hnc (by unfold maxLen; omega) w hr)
  have HR := Lib.hid (fun W (hW : Below w.heap.size w W) => rdecode_any b A n c hl (by omega) hnc (by unfold maxLen; omega) W ((hr.below hW).more hW.size))
  have HRD := Lib.hid (And.intro hr hl)
  have e0 : ¬ (3000 : Int) < (n : Int) := by omega
  clear hr hnc hc hn
  cases hd : Chk.decT b with
  | inr er =>
    rw [hd] at HP HR
    have HP2 : Hid (Calls Try.prog 37 #[.slice A n c] w fun e w' => e = .returned (.tuple #[.pointer none, .int .i64 er]) ∧ Below w.heap.size w w') := Lib.hid (HP.out.mono fun e w' h => by
      rcases h.2 with ⟨l2, au, h1, _⟩ | ⟨er2, h1, _, h2⟩
      · cases h1
      · obtain rfl := Sum.inr.inj h1; exact ⟨h2, h.1⟩)
    have HR2 : Hid (∀ W, Below w.heap.size w W → Calls Try.prog 38 #[.slice A n c] W fun e w' => e = .returned (.tuple #[.pointer none, .int .i64 er]) ∧ Below W.heap.size W w') := Lib.hid (fun W hW => (HR.out W hW).mono fun e w' h => by
      rcases h.2 with ⟨l2, au, h1, _⟩ | ⟨er2, h1, _, h2⟩
      · cases h1
      · obtain rfl := Sum.inr.inj h1; exact ⟨h2, h.1⟩)
    have hz : (er == 0) = false := by have := Chk.decT_err hd; simpa using this
    clear hd HP HR hl
    go_enter Try.func9, Try.ntmps9
    go_upto_region 7 with (first
      | (go_at_call 37; refine HP2.out.mono ?_; rintro e w3 ⟨rfl, b3⟩)
      | (go_at_call 38; refine (HR2.out w3 b3).mono ?_; rintro e w4 ⟨rfl, b4⟩))
    have HB4 := Lib.hid (b3.trans (b4.mono b3.size))
    clear b3 b4
    have hv0 : Below w4.heap.size w4 w4.drew := (Below.refl _ _).drew
    refine wp_region_held_drew (S := fun W => Below w4.heap.size w4 W) (by kernel_rfl) (hv0) (fun hHeld => ?_)
    refine wpAnyH_ready (rs := [0]) (by kernel_rfl) (by simp) ?_
    refine AllReadyH.cons (o := { dst := some 31, op := Op.call { callee := Callee.value (Operand.func 12), args := #[], argTypes := #[] }, type := 4, pos := "law.go:232", after := #[], guard := none }) rfl (fun K hK => ?_) AllReadyH.nil
    go_simp
    refine (HSN.out _).mono ?_
    rintro e w20 ⟨rfl, b20⟩
    have hv20 : Below w4.heap.size w4 w20 := (hv0).trans (b20.mono (hv0).size)
    clear b20
    refine hK.out _ _ (hv20) (fun hHeld => ?_)
    clear hK K
    try simp only [Act.put, List.setIfInBounds_toArray, List.set_cons_zero, List.set_cons_succ]
    refine wpAnyH_take (i := 1) (oi := { dst := some 32, op := Op.move (Operand.tmp 31), type := 4, pos := "law.go:232", after := #[{ on := 0, ground := Ground.data }, { on := 0, ground := Ground.chain }], guard := none }) (v := ?v1_1) rfl (by kernel_rfl) (by kernel_rfl) (by kernel_rfl) (fun _ _ _ h => h) (Or.inl ⟨by rfl, ?h1_1⟩) (by assumption) ?r1_1
    case h1_1 =>
      intro W hSW
      try dsimp only at hSW
      go_simp
      try with_reducible rfl
    try simp only [Act.put, List.setIfInBounds_toArray, List.set_cons_zero, List.set_cons_succ]
    refine wpAnyH_take (i := 2) (oi := { dst := some 33, op := Op.move (Operand.tmp 3), type := 27, pos := "law.go:232", after := #[{ on := 1, ground := Ground.guard }], guard := some (1, true) }) (v := ?v2_2) rfl (by kernel_rfl) (by kernel_rfl) (by kernel_rfl) (fun _ _ _ h => h) (Or.inl ⟨by rfl, ?h2_2⟩) (by assumption) ?r2_2
    case h2_2 =>
      intro W hSW
      try dsimp only at hSW
      go_simp
      try with_reducible rfl
    try simp only [Act.put, List.setIfInBounds_toArray, List.set_cons_zero, List.set_cons_succ]
    refine wpAnyH_take (i := 3) (oi := { dst := some 34, op := Op.binOp BinOp.eql 27 (Operand.tmp 33) (Operand.const (Value.pointer none)) 27, type := 4, pos := "law.go:232", after := #[{ on := 2, ground := Ground.data }, { on := 1, ground := Ground.guard }], guard := some (1, true) }) (v := ?v3_3) rfl (by kernel_rfl) (by kernel_rfl) (by kernel_rfl) (fun _ _ _ h => h) (Or.inl ⟨by rfl, ?h3_3⟩) (by assumption) ?r3_3
    case h3_3 =>
      intro W hSW
      try dsimp only at hSW
      go_simp
      try with_reducible rfl
    try simp only [Act.put, List.setIfInBounds_toArray, List.set_cons_zero, List.set_cons_succ]
    refine wpAnyH_take (i := 4) (oi := { dst := some 35, op := Op.move (Operand.tmp 34), type := 4, pos := "law.go:232", after := #[{ on := 3, ground := Ground.data }, { on := 1, ground := Ground.chain }, { on := 1, ground := Ground.guard }], guard := some (1, true) }) (v := ?v4_4) rfl (by kernel_rfl) (by kernel_rfl) (by kernel_rfl) (fun _ _ _ h => h) (Or.inl ⟨by rfl, ?h4_4⟩) (by assumption) ?r4_4
    case h4_4 =>
      intro W hSW
      try dsimp only at hSW
      go_simp
      try with_reducible rfl
    try simp only [Act.put, List.setIfInBounds_toArray, List.set_cons_zero, List.set_cons_succ]
    refine wpAnyH_take (i := 5) (oi := { dst := some 36, op := Op.move (Operand.tmp 3), type := 27, pos := "law.go:232", after := #[{ on := 4, ground := Ground.guard }], guard := some (4, false) }) (v := undef) rfl (by kernel_rfl) (by kernel_rfl) (by kernel_rfl) (fun _ _ _ h => h) (Or.inr ⟨by rfl, rfl⟩) (by assumption) ?_
    try simp only [Act.put, List.setIfInBounds_toArray, List.set_cons_zero, List.set_cons_succ]
    refine wpAnyH_take (i := 6) (oi := { dst := some 37, op := Op.move (Operand.tmp 5), type := 31, pos := "law.go:232", after := #[{ on := 4, ground := Ground.guard }], guard := some (4, false) }) (v := undef) rfl (by kernel_rfl) (by kernel_rfl) (by kernel_rfl) (fun _ _ _ h => h) (Or.inr ⟨by rfl, rfl⟩) (by assumption) ?_
    try simp only [Act.put, List.setIfInBounds_toArray, List.set_cons_zero, List.set_cons_succ]
    refine wpAnyH_take (i := 7) (oi := { dst := some 38, op := Op.call { callee := Callee.value (Operand.func 29), args := #[Operand.tmp 36, Operand.tmp 37], argTypes := #[27, 31] }, type := 4, pos := "law.go:232", after := #[{ on := 5, ground := Ground.data }, { on := 6, ground := Ground.data }, { on := 4, ground := Ground.chain }, { on := 4, ground := Ground.guard }], guard := some (4, false) }) (v := undef) rfl (by kernel_rfl) (by kernel_rfl) (by kernel_rfl) (fun _ _ _ h => h) (Or.inr ⟨by rfl, rfl⟩) (by assumption) ?_
    try simp only [Act.put, List.setIfInBounds_toArray, List.set_cons_zero, List.set_cons_succ]
    refine wpAnyH_take (i := 8) (oi := { dst := some 39, op := Op.move (Operand.tmp 38), type := 4, pos := "law.go:232", after := #[{ on := 7, ground := Ground.data }, { on := 7, ground := Ground.chain }, { on := 4, ground := Ground.guard }], guard := some (4, false) }) (v := undef) rfl (by kernel_rfl) (by kernel_rfl) (by kernel_rfl) (fun _ _ _ h => h) (Or.inr ⟨by rfl, rfl⟩) (by assumption) ?_
    try simp only [Act.put, List.setIfInBounds_toArray, List.set_cons_zero, List.set_cons_succ]
    refine wpAnyH_take (i := 9) (oi := { dst := some 40, op := Op.move (Operand.tmp 3), type := 27, pos := "law.go:232", after := #[{ on := 8, ground := Ground.guard }], guard := some (8, true) }) (v := undef) rfl (by kernel_rfl) (by kernel_rfl) (by kernel_rfl) (fun _ _ _ h => h) (Or.inr ⟨by rfl, rfl⟩) (by assumption) ?_
    try simp only [Act.put, List.setIfInBounds_toArray, List.set_cons_zero, List.set_cons_succ]
    refine wpAnyH_take (i := 10) (oi := { dst := some 41, op := Op.call { callee := Callee.value (Operand.func 36), args := #[Operand.tmp 40], argTypes := #[27] }, type := 70, pos := "law.go:232", after := #[{ on := 9, ground := Ground.data }, { on := 8, ground := Ground.chain }, { on := 8, ground := Ground.guard }], guard := some (8, true) }) (v := undef) rfl (by kernel_rfl) (by kernel_rfl) (by kernel_rfl) (fun _ _ _ h => h) (Or.inr ⟨by rfl, rfl⟩) (by assumption) ?_
    try simp only [Act.put, List.setIfInBounds_toArray, List.set_cons_zero, List.set_cons_succ]
    refine wpAnyH_take (i := 11) (oi := { dst := some 42, op := Op.convert 70 9 (Operand.tmp 41), type := 9, pos := "law.go:232", after := #[{ on := 10, ground := Ground.data }, { on := 8, ground := Ground.guard }], guard := some (8, true) }) (v := undef) rfl (by kernel_rfl) (by kernel_rfl) (by kernel_rfl) (fun _ _ _ h => h) (Or.inr ⟨by rfl, rfl⟩) (by assumption) ?_
    try simp only [Act.put, List.setIfInBounds_toArray, List.set_cons_zero, List.set_cons_succ]
    refine wpAnyH_take (i := 12) (oi := { dst := some 43, op := Op.move (Operand.tmp 0), type := 70, pos := "law.go:232", after := #[{ on := 8, ground := Ground.guard }], guard := some (8, true) }) (v := undef) rfl (by kernel_rfl) (by kernel_rfl) (by kernel_rfl) (fun _ _ _ h => h) (Or.inr ⟨by rfl, rfl⟩) (by assumption) ?_
    try simp only [Act.put, List.setIfInBounds_toArray, List.set_cons_zero, List.set_cons_succ]
    refine wpAnyH_take (i := 13) (oi := { dst := some 44, op := Op.convert 70 9 (Operand.tmp 43), type := 9, pos := "law.go:232", after := #[{ on := 12, ground := Ground.data }, { on := 8, ground := Ground.guard }], guard := some (8, true) }) (v := undef) rfl (by kernel_rfl) (by kernel_rfl) (by kernel_rfl) (fun _ _ _ h => h) (Or.inr ⟨by rfl, rfl⟩) (by assumption) ?_
    try simp only [Act.put, List.setIfInBounds_toArray, List.set_cons_zero, List.set_cons_succ]
    refine wpAnyH_take (i := 14) (oi := { dst := some 45, op := Op.binOp BinOp.eql 9 (Operand.tmp 42) (Operand.tmp 44) 9, type := 4, pos := "law.go:232", after := #[{ on := 11, ground := Ground.data }, { on := 13, ground := Ground.data }, { on := 8, ground := Ground.guard }], guard := some (8, true) }) (v := undef) rfl (by kernel_rfl) (by kernel_rfl) (by kernel_rfl) (fun _ _ _ h => h) (Or.inr ⟨by rfl, rfl⟩) (by assumption) ?_
    try simp only [Act.put, List.setIfInBounds_toArray, List.set_cons_zero, List.set_cons_succ]
    refine wpAnyH_take (i := 15) (oi := { dst := some 46, op := Op.pick (Operand.tmp 39) (Operand.tmp 45) (Operand.const (Value.bool false)), type := 4, pos := "law.go:232", after := #[{ on := 8, ground := Ground.data }, { on := 14, ground := Ground.data }, { on := 4, ground := Ground.guard }], guard := some (4, false) }) (v := undef) rfl (by kernel_rfl) (by kernel_rfl) (by kernel_rfl) (fun _ _ _ h => h) (Or.inr ⟨by rfl, rfl⟩) (by assumption) ?_
    try simp only [Act.put, List.setIfInBounds_toArray, List.set_cons_zero, List.set_cons_succ]
    refine wpAnyH_take (i := 16) (oi := { dst := some 47, op := Op.pick (Operand.tmp 35) (Operand.const (Value.bool true)) (Operand.tmp 46), type := 4, pos := "law.go:232", after := #[{ on := 4, ground := Ground.data }, { on := 15, ground := Ground.data }, { on := 1, ground := Ground.guard }], guard := some (1, true) }) (v := ?v16_16) rfl (by kernel_rfl) (by kernel_rfl) (by kernel_rfl) (fun _ _ _ h => h) (Or.inl ⟨by rfl, ?h16_16⟩) (by assumption) ?r16_16
    case h16_16 =>
      intro W hSW
      try dsimp only at hSW
      go_simp
      try with_reducible rfl
    try simp only [Act.put, List.setIfInBounds_toArray, List.set_cons_zero, List.set_cons_succ]
    refine wpAnyH_take (i := 17) (oi := { dst := some 48, op := Op.pick (Operand.tmp 32) (Operand.tmp 47) (Operand.const (Value.bool false)), type := 4, pos := "law.go:232", after := #[{ on := 1, ground := Ground.data }, { on := 16, ground := Ground.data }], guard := none }) (v := ?v17_17) rfl (by kernel_rfl) (by kernel_rfl) (by kernel_rfl) (fun _ _ _ h => h) (Or.inl ⟨by rfl, ?h17_17⟩) (by assumption) ?r17_17
    case h17_17 =>
      intro W hSW
      try dsimp only at hSW
      go_simp
      try with_reducible rfl
    try simp only [Act.put, List.setIfInBounds_toArray, List.set_cons_zero, List.set_cons_succ]
    refine wpAnyH_take (i := 18) (oi := { dst := some 2, op := Op.assign (Operand.tmp 48), type := 4, pos := "law.go:232", after := #[{ on := 17, ground := Ground.data }, { on := 10, ground := Ground.chain }, { on := 0, ground := Ground.phase }, { on := 1, ground := Ground.phase }, { on := 2, ground := Ground.phase }, { on := 3, ground := Ground.phase }, { on := 4, ground := Ground.phase }, { on := 5, ground := Ground.phase }, { on := 6, ground := Ground.phase }, { on := 7, ground := Ground.phase }, { on := 8, ground := Ground.phase }, { on := 9, ground := Ground.phase }, { on := 10, ground := Ground.phase }, { on := 11, ground := Ground.phase }, { on := 12, ground := Ground.phase }, { on := 13, ground := Ground.phase }, { on := 14, ground := Ground.phase }, { on := 15, ground := Ground.phase }, { on := 16, ground := Ground.phase }, { on := 17, ground := Ground.phase }], guard := none }) (v := ?v18_18) rfl (by kernel_rfl) (by kernel_rfl) (by kernel_rfl) (fun _ _ _ h => h) (Or.inl ⟨by rfl, ?h18_18⟩) (by assumption) ?r18_18
    case h18_18 =>
      intro W hSW
      try dsimp only at hSW
      go_simp
      try with_reducible rfl
    try simp only [Act.put, List.setIfInBounds_toArray, List.set_cons_zero, List.set_cons_succ]
    refine wpAnyH_done (by kernel_rfl) ?_ _
    have HBW := Lib.hid hv20
    go_wp2_with fail
    go_ret
    exact ⟨rfl, HB4.out.trans (HBW.out.mono HB4.out.size)⟩

  | inl l =>
    rw [hd] at HP HR
    have HP2 : Hid (Calls Try.prog 37 #[.slice A n c] w fun e w' => ∃ au, e = .returned (.tuple #[.pointer (some ⟨au, 0, none⟩), .int .i64 0]) ∧ TabNew w w' au l) := Lib.hid (HP.out.mono fun e w' h => by
      rcases h.2 with ⟨l2, au, h1, h2, h3⟩ | ⟨er2, h1, _⟩
      · obtain rfl := Sum.inl.inj h1; exact ⟨au, h2, h3⟩
      · cases h1)
    have HR2 : Hid (∀ W, Below w.heap.size w W → Calls Try.prog 38 #[.slice A n c] W fun e w' => ∃ ar, e = .returned (.tuple #[.pointer (some ⟨ar, 0, none⟩), .int .i64 0]) ∧ (∃ F S t, RAt w' F S ar t l) ∧ Below W.heap.size W w') := Lib.hid (fun W hW => (HR.out W hW).mono fun e w' h => by
      rcases h.2 with ⟨l2, au, h1, h2, h3⟩ | ⟨er2, h1, _⟩
      · obtain rfl := Sum.inl.inj h1; exact ⟨au, h2, h3, h.1⟩
      · cases h1)
    have HE : Hid (Chk.encT l = b) := Lib.hid (Chk.decT_ok hd).2
    obtain ⟨sX, hsX⟩ : ∃ sX : ByteArray, ⟨b.toArray⟩ = sX := ⟨_, rfl⟩
    have HCV : Hid (∀ (W : World) (B : Nat) (A : Option Addr) (c : Nat), Rd W B 1 A n (bvs b) → (convert 70 9 (.slice A n c)).run Try.prog W = .ok (.string sX) W) := Lib.hid (fun W B A c h => by
      have := run_toS (P := Try.prog) W 70 9 5 Try.underlying70 Try.underlying5 Try.underlying9 A n c B b h
      rwa [hsX] at this)
    clear hd HP HR hl hsX
    go_enter Try.func9, Try.ntmps9
    go_upto_region 4 with (go_at_call 37; refine HP2.out.mono ?_; rintro e w3 ⟨au, rfl, h3⟩; have HT3 := Lib.hid h3; clear h3)
    go_upto_region 7 with (go_at_call 38; refine (HR2.out w3 HT3.out.g.b).mono ?_; rintro e w4 ⟨ar, rfl, hr4, b4⟩; have HR4 := Lib.hid (And.intro hr4 b4); clear hr4 b4)
    have HB4 := Lib.hid (HT3.out.g.b.trans (HR4.out.2.mono HT3.out.g.b.size))
    have HSM := Lib.hid (fun W (hW : Below w4.heap.size w4 W) => show Calls Try.prog 29 #[.pointer (some ⟨au, 0, none⟩), .pointer (some ⟨ar, 0, none⟩)] W fun e w' => e = .returned (.bool true) ∧ Below W.heap.size W w' from by
      obtain ⟨F, S, t, hr⟩ := HR4.out.1
      exact same_any ((HT3.out.g.below HR4.out.2).below hW) (hr.below hW))
    have HEU := Lib.hid (fun W (hW : Below w4.heap.size w4 W) => ((HT3.out.g.below HR4.out.2).below hW).encode_ b HE.out)
    clear HT3 HR4 HP2 HR2
    have hv0 : Below w4.heap.size w4 w4.drew := (Below.refl _ _).drew
    refine wp_region_held_drew (S := fun W => Below w4.heap.size w4 W) (by kernel_rfl) (hv0) (fun hHeld => ?_)
    refine wpAnyH_ready (rs := [0]) (by kernel_rfl) (by simp) ?_
    refine AllReadyH.cons (o := { dst := some 31, op := Op.call { callee := Callee.value (Operand.func 12), args := #[], argTypes := #[] }, type := 4, pos := "law.go:232", after := #[], guard := none }) rfl (fun K hK => ?_) AllReadyH.nil
    go_simp
    refine (HSN.out _).mono ?_
    rintro e w40 ⟨rfl, b40⟩
    have hv40 : Below w4.heap.size w4 w40 := (hv0).trans (b40.mono (hv0).size)
    clear b40
    refine hK.out _ _ (hv40) (fun hHeld => ?_)
    clear hK K
    try simp only [Act.put, List.setIfInBounds_toArray, List.set_cons_zero, List.set_cons_succ]
    refine wpAnyH_take (i := 1) (oi := { dst := some 32, op := Op.move (Operand.tmp 31), type := 4, pos := "law.go:232", after := #[{ on := 0, ground := Ground.data }, { on := 0, ground := Ground.chain }], guard := none }) (v := ?v1_1001) rfl (by kernel_rfl) (by kernel_rfl) (by kernel_rfl) (fun _ _ _ h => h) (Or.inl ⟨by rfl, ?h1_1001⟩) (by assumption) ?r1_1001
    case h1_1001 =>
      intro W hSW
      try dsimp only at hSW
      go_simp
      try with_reducible rfl
    try simp only [Act.put, List.setIfInBounds_toArray, List.set_cons_zero, List.set_cons_succ]
    refine wpAnyH_take (i := 2) (oi := { dst := some 33, op := Op.move (Operand.tmp 3), type := 27, pos := "law.go:232", after := #[{ on := 1, ground := Ground.guard }], guard := some (1, true) }) (v := ?v2_1002) rfl (by kernel_rfl) (by kernel_rfl) (by kernel_rfl) (fun _ _ _ h => h) (Or.inl ⟨by rfl, ?h2_1002⟩) (by assumption) ?r2_1002
    case h2_1002 =>
      intro W hSW
      try dsimp only at hSW
      go_simp
      try with_reducible rfl
    try simp only [Act.put, List.setIfInBounds_toArray, List.set_cons_zero, List.set_cons_succ]
    refine wpAnyH_take (i := 3) (oi := { dst := some 34, op := Op.binOp BinOp.eql 27 (Operand.tmp 33) (Operand.const (Value.pointer none)) 27, type := 4, pos := "law.go:232", after := #[{ on := 2, ground := Ground.data }, { on := 1, ground := Ground.guard }], guard := some (1, true) }) (v := ?v3_1003) rfl (by kernel_rfl) (by kernel_rfl) (by kernel_rfl) (fun _ _ _ h => h) (Or.inl ⟨by rfl, ?h3_1003⟩) (by assumption) ?r3_1003
    case h3_1003 =>
      intro W hSW
      try dsimp only at hSW
      go_simp
      try with_reducible rfl
    try simp only [Act.put, List.setIfInBounds_toArray, List.set_cons_zero, List.set_cons_succ]
    refine wpAnyH_take (i := 4) (oi := { dst := some 35, op := Op.move (Operand.tmp 34), type := 4, pos := "law.go:232", after := #[{ on := 3, ground := Ground.data }, { on := 1, ground := Ground.chain }, { on := 1, ground := Ground.guard }], guard := some (1, true) }) (v := ?v4_1004) rfl (by kernel_rfl) (by kernel_rfl) (by kernel_rfl) (fun _ _ _ h => h) (Or.inl ⟨by rfl, ?h4_1004⟩) (by assumption) ?r4_1004
    case h4_1004 =>
      intro W hSW
      try dsimp only at hSW
      go_simp
      try with_reducible rfl
    try simp only [Act.put, List.setIfInBounds_toArray, List.set_cons_zero, List.set_cons_succ]
    refine wpAnyH_take (i := 5) (oi := { dst := some 36, op := Op.move (Operand.tmp 3), type := 27, pos := "law.go:232", after := #[{ on := 4, ground := Ground.guard }], guard := some (4, false) }) (v := ?v5_1005) rfl (by kernel_rfl) (by kernel_rfl) (by kernel_rfl) (fun _ _ _ h => h) (Or.inl ⟨by rfl, ?h5_1005⟩) (by assumption) ?r5_1005
    case h5_1005 =>
      intro W hSW
      try dsimp only at hSW
      go_simp
      try with_reducible rfl
    try simp only [Act.put, List.setIfInBounds_toArray, List.set_cons_zero, List.set_cons_succ]
    refine wpAnyH_take (i := 6) (oi := { dst := some 37, op := Op.move (Operand.tmp 5), type := 31, pos := "law.go:232", after := #[{ on := 4, ground := Ground.guard }], guard := some (4, false) }) (v := ?v6_1006) rfl (by kernel_rfl) (by kernel_rfl) (by kernel_rfl) (fun _ _ _ h => h) (Or.inl ⟨by rfl, ?h6_1006⟩) (by assumption) ?r6_1006
    case h6_1006 =>
      intro W hSW
      try dsimp only at hSW
      go_simp
      try with_reducible rfl
    try simp only [Act.put, List.setIfInBounds_toArray, List.set_cons_zero, List.set_cons_succ]
    refine wpAnyH_ready (rs := [7]) (by kernel_rfl) (by simp) ?_
    refine AllReadyH.cons (o := { dst := some 38, op := Op.call { callee := Callee.value (Operand.func 29), args := #[Operand.tmp 36, Operand.tmp 37], argTypes := #[27, 31] }, type := 4, pos := "law.go:232", after := #[{ on := 5, ground := Ground.data }, { on := 6, ground := Ground.data }, { on := 4, ground := Ground.chain }, { on := 4, ground := Ground.guard }], guard := some (4, false) }) rfl (fun K hK => ?_) AllReadyH.nil
    go_simp
    refine (HSM.out _ hv40).mono ?_
    rintro e w41 ⟨rfl, b41⟩
    have hv41 : Below w4.heap.size w4 w41 := (hv40).trans (b41.mono (hv40).size)
    clear b41
    refine hK.out _ _ (hv41) (fun hHeld => ?_)
    clear hK K
    try simp only [Act.put, List.setIfInBounds_toArray, List.set_cons_zero, List.set_cons_succ]
    refine wpAnyH_take (i := 8) (oi := { dst := some 39, op := Op.move (Operand.tmp 38), type := 4, pos := "law.go:232", after := #[{ on := 7, ground := Ground.data }, { on := 7, ground := Ground.chain }, { on := 4, ground := Ground.guard }], guard := some (4, false) }) (v := ?v8_1007) rfl (by kernel_rfl) (by kernel_rfl) (by kernel_rfl) (fun _ _ _ h => h) (Or.inl ⟨by rfl, ?h8_1007⟩) (by assumption) ?r8_1007
    case h8_1007 =>
      intro W hSW
      try dsimp only at hSW
      go_simp
      try with_reducible rfl
    try simp only [Act.put, List.setIfInBounds_toArray, List.set_cons_zero, List.set_cons_succ]
    refine wpAnyH_take (i := 9) (oi := { dst := some 40, op := Op.move (Operand.tmp 3), type := 27, pos := "law.go:232", after := #[{ on := 8, ground := Ground.guard }], guard := some (8, true) }) (v := ?v9_1008) rfl (by kernel_rfl) (by kernel_rfl) (by kernel_rfl) (fun _ _ _ h => h) (Or.inl ⟨by rfl, ?h9_1008⟩) (by assumption) ?r9_1008
    case h9_1008 =>
      intro W hSW
      try dsimp only at hSW
      go_simp
      try with_reducible rfl
    try simp only [Act.put, List.setIfInBounds_toArray, List.set_cons_zero, List.set_cons_succ]
    refine wpAnyH_take (i := 12) (oi := { dst := some 43, op := Op.move (Operand.tmp 0), type := 70, pos := "law.go:232", after := #[{ on := 8, ground := Ground.guard }], guard := some (8, true) }) (v := ?v12_1009) rfl (by kernel_rfl) (by kernel_rfl) (by kernel_rfl) (fun _ _ _ h => h) (Or.inl ⟨by rfl, ?h12_1009⟩) (by assumption) ?r12_1009
    case h12_1009 =>
      intro W hSW
      try dsimp only at hSW
      go_simp
      try with_reducible rfl
    try simp only [Act.put, List.setIfInBounds_toArray, List.set_cons_zero, List.set_cons_succ]
    refine wpAnyH_take (i := 13) (oi := { dst := some 44, op := Op.convert 70 9 (Operand.tmp 43), type := 9, pos := "law.go:232", after := #[{ on := 12, ground := Ground.data }, { on := 8, ground := Ground.guard }], guard := some (8, true) }) (v := ?v13_1010) rfl (by kernel_rfl) (by kernel_rfl) (by kernel_rfl) (fun _ _ _ h => h) (Or.inl ⟨by rfl, ?h13_1010⟩) (by assumption) ?r13_1010
    case h13_1010 =>
      intro W hSW
      try dsimp only at hSW
      have cv := HCV.out W _ A c ((HRD.out.1.below HB4.out).below (hSW.mono HB4.out.size))
      go_simp
      try with_reducible rfl
    try simp only [Act.put, List.setIfInBounds_toArray, List.set_cons_zero, List.set_cons_succ]
    refine wpAnyH_ready (rs := [10]) (by kernel_rfl) (by simp) ?_
    refine AllReadyH.cons (o := { dst := some 41, op := Op.call { callee := Callee.value (Operand.func 36), args := #[Operand.tmp 40], argTypes := #[27] }, type := 70, pos := "law.go:232", after := #[{ on := 9, ground := Ground.data }, { on := 8, ground := Ground.chain }, { on := 8, ground := Ground.guard }], guard := some (8, true) }) rfl (fun K hK => ?_) AllReadyH.nil
    go_simp
    refine (HEU.out _ hv41).mono ?_
    rintro e w42 ⟨Aq, cq, rfl, ownq, b42⟩
    rw [HRD.out.2] at ownq ⊢
    have hv42 : Below w4.heap.size w4 w42 := (hv41).trans (b42.mono (hv41).size)
    have HOq := Lib.hid ownq
    clear b42 ownq
    refine hK.out _ _ (hv42) (fun hHeld => ?_)
    clear hK K
    try simp only [Act.put, List.setIfInBounds_toArray, List.set_cons_zero, List.set_cons_succ]
    refine wpAnyH_ready (rs := [11]) (by kernel_rfl) (by simp) ?_
    refine AllReadyH.cons (o := { dst := some 42, op := Op.convert 70 9 (Operand.tmp 41), type := 9, pos := "law.go:232", after := #[{ on := 10, ground := Ground.data }, { on := 8, ground := Ground.guard }], guard := some (8, true) }) rfl (fun K hK => ?_) AllReadyH.nil
    rw [if_pos (by rfl)]
    have cv := HCV.out w42 _ Aq cq (Rd.of_own HOq.out)
    go_simp
    clear cv
    refine hK.out _ _ (hv42) (fun hHeld => ?_)
    clear hK K
    try simp only [Act.put, List.setIfInBounds_toArray, List.set_cons_zero, List.set_cons_succ]
    refine wpAnyH_take (i := 14) (oi := { dst := some 45, op := Op.binOp BinOp.eql 9 (Operand.tmp 42) (Operand.tmp 44) 9, type := 4, pos := "law.go:232", after := #[{ on := 11, ground := Ground.data }, { on := 13, ground := Ground.data }, { on := 8, ground := Ground.guard }], guard := some (8, true) }) (v := ?v14_1011) rfl (by kernel_rfl) (by kernel_rfl) (by kernel_rfl) (fun _ _ _ h => h) (Or.inl ⟨by rfl, ?h14_1011⟩) (by assumption) ?r14_1011
    case h14_1011 =>
      intro W hSW
      try dsimp only at hSW
      go_simp
      try with_reducible rfl
    try simp only [Act.put, List.setIfInBounds_toArray, List.set_cons_zero, List.set_cons_succ]
    refine wpAnyH_take (i := 15) (oi := { dst := some 46, op := Op.pick (Operand.tmp 39) (Operand.tmp 45) (Operand.const (Value.bool false)), type := 4, pos := "law.go:232", after := #[{ on := 8, ground := Ground.data }, { on := 14, ground := Ground.data }, { on := 4, ground := Ground.guard }], guard := some (4, false) }) (v := ?v15_1012) rfl (by kernel_rfl) (by kernel_rfl) (by kernel_rfl) (fun _ _ _ h => h) (Or.inl ⟨by rfl, ?h15_1012⟩) (by assumption) ?r15_1012
    case h15_1012 =>
      intro W hSW
      try dsimp only at hSW
      go_simp
      try with_reducible rfl
    try simp only [Act.put, List.setIfInBounds_toArray, List.set_cons_zero, List.set_cons_succ]
    refine wpAnyH_take (i := 16) (oi := { dst := some 47, op := Op.pick (Operand.tmp 35) (Operand.const (Value.bool true)) (Operand.tmp 46), type := 4, pos := "law.go:232", after := #[{ on := 4, ground := Ground.data }, { on := 15, ground := Ground.data }, { on := 1, ground := Ground.guard }], guard := some (1, true) }) (v := ?v16_1013) rfl (by kernel_rfl) (by kernel_rfl) (by kernel_rfl) (fun _ _ _ h => h) (Or.inl ⟨by rfl, ?h16_1013⟩) (by assumption) ?r16_1013
    case h16_1013 =>
      intro W hSW
      try dsimp only at hSW
      go_simp
      try with_reducible rfl
    try simp only [Act.put, List.setIfInBounds_toArray, List.set_cons_zero, List.set_cons_succ]
    refine wpAnyH_take (i := 17) (oi := { dst := some 48, op := Op.pick (Operand.tmp 32) (Operand.tmp 47) (Operand.const (Value.bool false)), type := 4, pos := "law.go:232", after := #[{ on := 1, ground := Ground.data }, { on := 16, ground := Ground.data }], guard := none }) (v := ?v17_1014) rfl (by kernel_rfl) (by kernel_rfl) (by kernel_rfl) (fun _ _ _ h => h) (Or.inl ⟨by rfl, ?h17_1014⟩) (by assumption) ?r17_1014
    case h17_1014 =>
      intro W hSW
      try dsimp only at hSW
      go_simp
      try with_reducible rfl
    try simp only [Act.put, List.setIfInBounds_toArray, List.set_cons_zero, List.set_cons_succ]
    refine wpAnyH_take (i := 18) (oi := { dst := some 2, op := Op.assign (Operand.tmp 48), type := 4, pos := "law.go:232", after := #[{ on := 17, ground := Ground.data }, { on := 10, ground := Ground.chain }, { on := 0, ground := Ground.phase }, { on := 1, ground := Ground.phase }, { on := 2, ground := Ground.phase }, { on := 3, ground := Ground.phase }, { on := 4, ground := Ground.phase }, { on := 5, ground := Ground.phase }, { on := 6, ground := Ground.phase }, { on := 7, ground := Ground.phase }, { on := 8, ground := Ground.phase }, { on := 9, ground := Ground.phase }, { on := 10, ground := Ground.phase }, { on := 11, ground := Ground.phase }, { on := 12, ground := Ground.phase }, { on := 13, ground := Ground.phase }, { on := 14, ground := Ground.phase }, { on := 15, ground := Ground.phase }, { on := 16, ground := Ground.phase }, { on := 17, ground := Ground.phase }], guard := none }) (v := ?v18_1015) rfl (by kernel_rfl) (by kernel_rfl) (by kernel_rfl) (fun _ _ _ h => h) (Or.inl ⟨by rfl, ?h18_1015⟩) (by assumption) ?r18_1015
    case h18_1015 =>
      intro W hSW
      try dsimp only at hSW
      go_simp
      try with_reducible rfl
    try simp only [Act.put, List.setIfInBounds_toArray, List.set_cons_zero, List.set_cons_succ]
    refine wpAnyH_done (by kernel_rfl) ?_ _
    have HBW := Lib.hid hv42
    go_wp2_with fail
    go_ret
    exact ⟨rfl, HB4.out.trans (HBW.out.mono HB4.out.size)⟩

end Go.Proofs.Ytcicfneekmbamaa
