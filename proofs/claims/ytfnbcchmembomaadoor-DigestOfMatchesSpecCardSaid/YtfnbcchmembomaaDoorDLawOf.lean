/- The walk of the statement DigestOfMatchesSpec: it returns true. Conditions: what the arguments are, the tables of SHA-256. -/
import Derived.Test.YtfnbcchmembomaaDoorDSan
import Derived.Test.YtfnbcchmembomaaDoorHeld
namespace Go.Proofs.YtfnbcchmembomaaDoor
set_option linter.unusedVariables false
set_option linter.unusedSimpArgs false
open Go.RowKit
namespace Mk
theorem byte_wrap (t m : Int) : byte (IntKind.i64.wrap (t + IntKind.i64.wrap (256 * m))) = byte t := by
  unfold byte
  rw [IntKind.wrap_i64, IntKind.wrap_i64]
  congr 2
  omega
theorem of_wrap (t m : Int) (parts : List ByteArray) : of (IntKind.i64.wrap (t + IntKind.i64.wrap (256 * m))) parts = of t parts := by unfold of input; rw [byte_wrap]
theorem input_len : ∀ (tag : Int) (parts : List ByteArray) (m : Nat), (∀ s ∈ parts, s.size ≤ m) → (input tag parts).length ≤ 1 + parts.length * (m + 9)
  | _, [], _, _ => by simp [input]
  | tag, s :: r, m, h => by
    have ih := input_len tag r m (fun x hx => h x (by simp [hx]))
    have h1 := Wire.enc_length_le (s.data.toList.length : Int)
    have h2 := h s (by simp)
    have h3 : s.data.toList.length = s.size := by simp
    simp only [input, List.flatMap_cons, Wire.encB, List.length_append, List.length_cons, List.length_nil] at ih h1 ⊢
    rw [Nat.add_mul]
    omega
end Mk
set_option maxRecDepth 100000 in
set_option maxHeartbeats 1000000 in
theorem lawOf (tag : Int) (htl : -9223372036854775808 ≤ tag) (htu : tag ≤ 9223372036854775807) (more : Int) (hml : -128 ≤ more) (hmu : more ≤ 127) (A : Option Addr) (n c : Nat) (parts : List ByteArray) (hn : parts.length = n) (hnc : n ≤ c) (hc : c ≤ 140737488355328) (w : World) (hr : Rd w w.heap.size 1 A n (svs parts)) (hT : Tabs w) (hR : RTab w) :
    Calls Tryd.prog 4 #[.int .i64 tag, .int .i8 more, .slice A n c] w fun e w' => e = .returned (.bool true) ∧ Below w.heap.size w w' := by
  have HN := Lib.hid hn
  clear hn
  by_cases hbig : 20 < n
  · have hb' : (20 : Int) < n := by omega
    go_enter Tryd.func4, Tryd.ntmps4
    go_wp2_with (go_at_call 10; refine (sanity_any _ hT).mono ?_; rintro e w1 ⟨rfl, b1⟩)
    go_ret
    exact ⟨rfl, b1⟩
  have hb' : ¬ (20 : Int) < n := by omega
  go_enter Tryd.func4, Tryd.ntmps4
  go_wp2_with (go_at_call 10; refine (sanity_any _ hT).mono ?_; rintro e w1 ⟨rfl, b1⟩; have rd1 := (hr.below b1).more b1.size)
  go_loop [8] (fun i => ∃ k : Nat, k ≤ n ∧ i = .int .i64 k ∧ Hid (∀ s ∈ parts.take k, s.size ≤ 300)) (fun i => n - (intOf i).toNat)
  case atStart => exact ⟨0, by omega, rfl, Lib.hid (by simp)⟩
  case round =>
    obtain ⟨k, hk, rfl, HK⟩ := hrel
    by_cases hkn : k < n
    · obtain ⟨b, off, rfl, hbl, hcell⟩ := rd1.get (f := Value.string) (l := parts) (k := k) (by rw [HN.out]; exact hkn)
      have hmem : ∀ s ∈ parts.take (k + 1), s ∈ parts.take k ∨ s = parts[k]'(by rw [HN.out]; exact hkn) := by
        intro s hs
        rw [List.take_succ_eq_append_getElem (by rw [HN.out]; exact hkn), List.mem_append, List.mem_singleton] at hs
        exact hs
      have HM := Lib.hid hmem
      generalize hp : parts[k]'(by rw [HN.out]; exact hkn) = s at *
      clear hmem hp
      by_cases h300 : 300 < s.size
      · have h300' : (300 : Int) < (s.size : Int) := by omega
        go_wp2
        go_ret
        exact ⟨rfl, b1⟩
      · have h300' : ¬ (300 : Int) < (s.size : Int) := by omega
        go_wp2
        go_round
        case rel => exact ⟨k + 1, by omega, by go_num, Lib.hid fun x hx => by rcases HM.out x hx with h | h
                                                                              · exact HK.out x h
                                                                              · rw [h]; omega⟩
        case measure => simp [intOf]; omega
    · have hkk : k = n := by omega
      subst hkk
      have hall : ∀ s ∈ parts, s.size ≤ 300 := fun s hs => HK.out s (by rw [List.take_of_length_le (by rw [HN.out]; exact Nat.le_refl _)]; exact hs)
      have hle : ∀ t, (Mk.input t parts).length ≤ 1099511627776 := fun t => by
        have h1 := Mk.input_len t parts 300 hall
        have h2 : parts.length * (300 + 9) ≤ 20 * 309 := Nat.mul_le_mul_right _ (by rw [HN.out]; omega)
        omega
      have hO := fun (W : World) (h : Below w1.heap.size w1 W) (t : Int) => of_any t A k c parts HN.out w1.heap.size W (rd1.below h) h.size (hle t) ((hT.below b1).below h)
      have hRO := fun (W : World) (h : Below w1.heap.size w1 W) => refOf_any tag A k c parts HN.out w1.heap.size W (rd1.below h) h.size (hle tag) ((hR.below b1).below h)
      have hO1 := fun (W : World) (h : Below w1.heap.size w1 W) => hO W h tag
      have hO2 := fun (W : World) (h : Below w1.heap.size w1 W) => hO W h (IntKind.i64.wrap (tag + IntKind.i64.wrap (256 * more)))
      rw [Mk.of_wrap] at hO2
      have hl16 := Mk.short_len (Mk.input tag parts)
      rw [show Mk.short (Mk.input tag parts) = Mk.of tag parts from rfl] at hl16
      generalize Mk.of tag parts = d at *
      have hq : ∀ W, (binOp .eql 30 (.agg (bvs d).toArray) (.agg (bvs d).toArray)).run Tryd.prog W = .ok (.bool true) W := fun W => by rw [run_eql_digE W hl16 hl16]; simp
      have HO1 := Lib.hid hO1
      have HO2 := Lib.hid hO2
      have HRO := Lib.hid hRO
      have HL := Lib.hid hl16
      have hmw : IntKind.i64.wrap more = more := IntWalk.i64_in _ (by omega)
      clear hO hO1 hO2 hRO hle hall hl16
      go_wp2_with (first
        | (go_at_call 13; refine (HO1.out _ (Below.refl _ _)).mono ?_; rintro e w2 ⟨rfl, b2⟩)
        | (refine wpList_allocRow rfl _ rfl _ info16 ?_; intro w3 r3 b3 z3; have HZ3 := Lib.hid z3; clear z3)
        | (refine wpList_storeRow rfl _ (.tmp 9) (.tmp 30) rfl r3 rfl rfl (by rw [bvs_len, HL.out]; exact size16) (by rw [bvs_len, HL.out, List.length_replicate]) (bvs_all _) ?_; intro w4 r4 g4 z4; have HZ4 := Lib.hid z4; clear z4)
        | fail)
      have hb4 : Below w1.heap.size w1 w4 := (b2.trans (b3.mono b2.size)).grown g4 (by have := b2.size; have := b3.size; omega) (fun j hj => by have hj := Option.some.inj hj; have := b2.size; omega)
      clear hr rd1
      have hv0 : Below w4.heap.size w4 w4.drew := (Below.refl _ _).drew
      refine wp_region_held_drew (S := fun W => Below w4.heap.size w4 W) (by kernel_rfl) (hv0) (fun hHeld => ?_)
      refine wpAnyH_take (i := 0) (oi := { dst := some 31, op := Op.move (Operand.tmp 7), type := 4, pos := "law.go:42", after := #[], guard := none }) (v := ?v0_1) rfl (by kernel_rfl) (by kernel_rfl) (by kernel_rfl) (fun _ _ _ h => h) (Or.inl ⟨by rfl, ?h0_1⟩) (by assumption) ?r0_1
      case h0_1 =>
        intro W hSW
        try dsimp only at hSW
        go_simp
        try with_reducible rfl
      try simp only [Act.put, List.setIfInBounds_toArray, List.set_cons_zero, List.set_cons_succ]
      refine wpAnyH_take (i := 1) (oi := { dst := some 32, op := Op.move (Operand.tmp 31), type := 4, pos := "law.go:42", after := #[{ on := 0, ground := Ground.data }], guard := none }) (v := ?v1_2) rfl (by kernel_rfl) (by kernel_rfl) (by kernel_rfl) (fun _ _ _ h => h) (Or.inl ⟨by rfl, ?h1_2⟩) (by assumption) ?r1_2
      case h1_2 =>
        intro W hSW
        try dsimp only at hSW
        go_simp
        try with_reducible rfl
      try simp only [Act.put, List.setIfInBounds_toArray, List.set_cons_zero, List.set_cons_succ]
      refine wpAnyH_take (i := 2) (oi := { dst := some 33, op := Op.load 30 (Operand.tmp 9), type := 30, pos := "law.go:42", after := #[{ on := 1, ground := Ground.guard }], guard := some (1, true) }) (v := _) rfl (by kernel_rfl) (by kernel_rfl) (by kernel_rfl) (fun _ _ _ h => h) (yi_row rfl _ (.tmp 9) rfl rfl (fun W hW => r4.below' hW) Tryd.underlying30 (by rw [bvs_len, HL.out]; exact size16)) (by assumption) ?_
      try simp only [Act.put, List.setIfInBounds_toArray, List.set_cons_zero, List.set_cons_succ]
      refine wpAnyH_take (i := 3) (oi := { dst := some 34, op := Op.move (Operand.tmp 0), type := 3, pos := "law.go:42", after := #[{ on := 1, ground := Ground.guard }], guard := some (1, true) }) (v := ?v3_4) rfl (by kernel_rfl) (by kernel_rfl) (by kernel_rfl) (fun _ _ _ h => h) (Or.inl ⟨by rfl, ?h3_4⟩) (by assumption) ?r3_4
      case h3_4 =>
        intro W hSW
        try dsimp only at hSW
        go_simp
        try with_reducible rfl
      try simp only [Act.put, List.setIfInBounds_toArray, List.set_cons_zero, List.set_cons_succ]
      refine wpAnyH_take (i := 4) (oi := { dst := some 35, op := Op.move (Operand.tmp 2), type := 28, pos := "law.go:42", after := #[{ on := 1, ground := Ground.guard }], guard := some (1, true) }) (v := ?v4_5) rfl (by kernel_rfl) (by kernel_rfl) (by kernel_rfl) (fun _ _ _ h => h) (Or.inl ⟨by rfl, ?h4_5⟩) (by assumption) ?r4_5
      case h4_5 =>
        intro W hSW
        try dsimp only at hSW
        go_simp
        try with_reducible rfl
      try simp only [Act.put, List.setIfInBounds_toArray, List.set_cons_zero, List.set_cons_succ]
      refine wpAnyH_ready (rs := [5]) (by kernel_rfl) (by simp) ?_
      refine AllReadyH.cons (o := { dst := some 36, op := Op.call { callee := Callee.value (Operand.func 14), args := #[Operand.tmp 34, Operand.tmp 35], argTypes := #[3, 28] }, type := 30, pos := "law.go:42", after := #[{ on := 3, ground := Ground.data }, { on := 4, ground := Ground.data }, { on := 1, ground := Ground.chain }, { on := 1, ground := Ground.guard }], guard := some (1, true) }) rfl (fun K hK => ?_) AllReadyH.nil
      go_simp
      refine (HRO.out _ (hb4.trans (hv0.mono hb4.size))).mono ?_
      rintro e w5 ⟨rfl, b5⟩
      have hv5 : Below w4.heap.size w4 w5 := hv0.trans (b5.mono hv0.size)
      go_wp2_with fail
      refine hK.out _ _ (hv5) (fun hHeld => ?_)
      clear hK K
      try simp only [Act.put, List.setIfInBounds_toArray, List.set_cons_zero, List.set_cons_succ]
      refine wpAnyH_take (i := 6) (oi := { dst := some 37, op := Op.binOp BinOp.eql 30 (Operand.tmp 33) (Operand.tmp 36) 30, type := 4, pos := "law.go:42", after := #[{ on := 2, ground := Ground.data }, { on := 5, ground := Ground.data }, { on := 1, ground := Ground.guard }], guard := some (1, true) }) (v := ?v6_6) rfl (by kernel_rfl) (by kernel_rfl) (by kernel_rfl) (fun _ _ _ h => h) (Or.inl ⟨by rfl, ?h6_6⟩) (by assumption) ?r6_6
      case h6_6 =>
        intro W hSW
        try dsimp only at hSW
        go_simp
        try with_reducible rfl
      try simp only [Act.put, List.setIfInBounds_toArray, List.set_cons_zero, List.set_cons_succ]
      refine wpAnyH_take (i := 7) (oi := { dst := some 38, op := Op.pick (Operand.tmp 32) (Operand.tmp 37) (Operand.const (Value.bool false)), type := 4, pos := "law.go:42", after := #[{ on := 1, ground := Ground.data }, { on := 6, ground := Ground.data }], guard := none }) (v := ?v7_7) rfl (by kernel_rfl) (by kernel_rfl) (by kernel_rfl) (fun _ _ _ h => h) (Or.inl ⟨by rfl, ?h7_7⟩) (by assumption) ?r7_7
      case h7_7 =>
        intro W hSW
        try dsimp only at hSW
        go_simp
        try with_reducible rfl
      try simp only [Act.put, List.setIfInBounds_toArray, List.set_cons_zero, List.set_cons_succ]
      refine wpAnyH_take (i := 8) (oi := { dst := some 39, op := Op.move (Operand.tmp 38), type := 4, pos := "law.go:42", after := #[{ on := 7, ground := Ground.data }, { on := 5, ground := Ground.chain }], guard := none }) (v := ?v8_8) rfl (by kernel_rfl) (by kernel_rfl) (by kernel_rfl) (fun _ _ _ h => h) (Or.inl ⟨by rfl, ?h8_8⟩) (by assumption) ?r8_8
      case h8_8 =>
        intro W hSW
        try dsimp only at hSW
        go_simp
        try with_reducible rfl
      try simp only [Act.put, List.setIfInBounds_toArray, List.set_cons_zero, List.set_cons_succ]
      refine wpAnyH_take (i := 9) (oi := { dst := some 40, op := Op.load 30 (Operand.tmp 9), type := 30, pos := "law.go:42", after := #[{ on := 8, ground := Ground.guard }], guard := some (8, true) }) (v := _) rfl (by kernel_rfl) (by kernel_rfl) (by kernel_rfl) (fun _ _ _ h => h) (yi_row rfl _ (.tmp 9) rfl rfl (fun W hW => r4.below' hW) Tryd.underlying30 (by rw [bvs_len, HL.out]; exact size16)) (by assumption) ?_
      try simp only [Act.put, List.setIfInBounds_toArray, List.set_cons_zero, List.set_cons_succ]
      refine wpAnyH_take (i := 10) (oi := { dst := some 41, op := Op.move (Operand.tmp 0), type := 3, pos := "law.go:42", after := #[{ on := 8, ground := Ground.guard }], guard := some (8, true) }) (v := ?v10_10) rfl (by kernel_rfl) (by kernel_rfl) (by kernel_rfl) (fun _ _ _ h => h) (Or.inl ⟨by rfl, ?h10_10⟩) (by assumption) ?r10_10
      case h10_10 =>
        intro W hSW
        try dsimp only at hSW
        go_simp
        try with_reducible rfl
      try simp only [Act.put, List.setIfInBounds_toArray, List.set_cons_zero, List.set_cons_succ]
      refine wpAnyH_take (i := 11) (oi := { dst := some 42, op := Op.move (Operand.tmp 1), type := 27, pos := "law.go:42", after := #[{ on := 8, ground := Ground.guard }], guard := some (8, true) }) (v := ?v11_11) rfl (by kernel_rfl) (by kernel_rfl) (by kernel_rfl) (fun _ _ _ h => h) (Or.inl ⟨by rfl, ?h11_11⟩) (by assumption) ?r11_11
      case h11_11 =>
        intro W hSW
        try dsimp only at hSW
        go_simp
        try with_reducible rfl
      try simp only [Act.put, List.setIfInBounds_toArray, List.set_cons_zero, List.set_cons_succ]
      refine wpAnyH_take (i := 12) (oi := { dst := some 43, op := Op.convert 27 3 (Operand.tmp 42), type := 3, pos := "law.go:42", after := #[{ on := 11, ground := Ground.data }, { on := 8, ground := Ground.guard }], guard := some (8, true) }) (v := ?v12_12) rfl (by kernel_rfl) (by kernel_rfl) (by kernel_rfl) (fun _ _ _ h => h) (Or.inl ⟨by rfl, ?h12_12⟩) (by assumption) ?r12_12
      case h12_12 =>
        intro W hSW
        try dsimp only at hSW
        go_simp
        try with_reducible rfl
      try simp only [Act.put, List.setIfInBounds_toArray, List.set_cons_zero, List.set_cons_succ]
      refine wpAnyH_take (i := 13) (oi := { dst := some 44, op := Op.binOp BinOp.mul 3 (Operand.const (Value.int IntKind.i64 256)) (Operand.tmp 43) 3, type := 3, pos := "law.go:42", after := #[{ on := 12, ground := Ground.data }, { on := 8, ground := Ground.guard }], guard := some (8, true) }) (v := ?v13_13) rfl (by kernel_rfl) (by kernel_rfl) (by kernel_rfl) (fun _ _ _ h => h) (Or.inl ⟨by rfl, ?h13_13⟩) (by assumption) ?r13_13
      case h13_13 =>
        intro W hSW
        try dsimp only at hSW
        go_simp
        try with_reducible rfl
      try simp only [Act.put, List.setIfInBounds_toArray, List.set_cons_zero, List.set_cons_succ]
      refine wpAnyH_take (i := 14) (oi := { dst := some 45, op := Op.binOp BinOp.add 3 (Operand.tmp 41) (Operand.tmp 44) 3, type := 3, pos := "law.go:42", after := #[{ on := 10, ground := Ground.data }, { on := 13, ground := Ground.data }, { on := 8, ground := Ground.guard }], guard := some (8, true) }) (v := ?v14_14) rfl (by kernel_rfl) (by kernel_rfl) (by kernel_rfl) (fun _ _ _ h => h) (Or.inl ⟨by rfl, ?h14_14⟩) (by assumption) ?r14_14
      case h14_14 =>
        intro W hSW
        try dsimp only at hSW
        go_simp
        try with_reducible rfl
      try simp only [Act.put, List.setIfInBounds_toArray, List.set_cons_zero, List.set_cons_succ]
      refine wpAnyH_take (i := 15) (oi := { dst := some 46, op := Op.move (Operand.tmp 2), type := 28, pos := "law.go:42", after := #[{ on := 8, ground := Ground.guard }], guard := some (8, true) }) (v := ?v15_15) rfl (by kernel_rfl) (by kernel_rfl) (by kernel_rfl) (fun _ _ _ h => h) (Or.inl ⟨by rfl, ?h15_15⟩) (by assumption) ?r15_15
      case h15_15 =>
        intro W hSW
        try dsimp only at hSW
        go_simp
        try with_reducible rfl
      try simp only [Act.put, List.setIfInBounds_toArray, List.set_cons_zero, List.set_cons_succ]
      refine wpAnyH_ready (rs := [16]) (by kernel_rfl) (by simp) ?_
      refine AllReadyH.cons (o := { dst := some 47, op := Op.call { callee := Callee.value (Operand.func 13), args := #[Operand.tmp 45, Operand.tmp 46], argTypes := #[3, 28] }, type := 30, pos := "law.go:42", after := #[{ on := 14, ground := Ground.data }, { on := 15, ground := Ground.data }, { on := 8, ground := Ground.chain }, { on := 8, ground := Ground.guard }], guard := some (8, true) }) rfl (fun K hK => ?_) AllReadyH.nil
      go_simp
      refine (HO2.out _ (hb4.trans (hv5.mono hb4.size))).mono ?_
      rintro e w6 ⟨rfl, b6⟩
      have hv6 : Below w4.heap.size w4 w6 := hv5.trans (b6.mono hv5.size)
      go_wp2_with fail
      refine hK.out _ _ (hv6) (fun hHeld => ?_)
      clear hK K
      try simp only [Act.put, List.setIfInBounds_toArray, List.set_cons_zero, List.set_cons_succ]
      refine wpAnyH_take (i := 17) (oi := { dst := some 48, op := Op.binOp BinOp.eql 30 (Operand.tmp 40) (Operand.tmp 47) 30, type := 4, pos := "law.go:42", after := #[{ on := 9, ground := Ground.data }, { on := 16, ground := Ground.data }, { on := 8, ground := Ground.guard }], guard := some (8, true) }) (v := ?v17_16) rfl (by kernel_rfl) (by kernel_rfl) (by kernel_rfl) (fun _ _ _ h => h) (Or.inl ⟨by rfl, ?h17_16⟩) (by assumption) ?r17_16
      case h17_16 =>
        intro W hSW
        try dsimp only at hSW
        go_simp
        try with_reducible rfl
      try simp only [Act.put, List.setIfInBounds_toArray, List.set_cons_zero, List.set_cons_succ]
      refine wpAnyH_take (i := 18) (oi := { dst := some 49, op := Op.pick (Operand.tmp 39) (Operand.tmp 48) (Operand.const (Value.bool false)), type := 4, pos := "law.go:42", after := #[{ on := 8, ground := Ground.data }, { on := 17, ground := Ground.data }], guard := none }) (v := ?v18_17) rfl (by kernel_rfl) (by kernel_rfl) (by kernel_rfl) (fun _ _ _ h => h) (Or.inl ⟨by rfl, ?h18_17⟩) (by assumption) ?r18_17
      case h18_17 =>
        intro W hSW
        try dsimp only at hSW
        go_simp
        try with_reducible rfl
      try simp only [Act.put, List.setIfInBounds_toArray, List.set_cons_zero, List.set_cons_succ]
      refine wpAnyH_take (i := 19) (oi := { dst := some 6, op := Op.assign (Operand.tmp 49), type := 4, pos := "law.go:42", after := #[{ on := 18, ground := Ground.data }, { on := 16, ground := Ground.chain }, { on := 0, ground := Ground.phase }, { on := 1, ground := Ground.phase }, { on := 2, ground := Ground.phase }, { on := 3, ground := Ground.phase }, { on := 4, ground := Ground.phase }, { on := 5, ground := Ground.phase }, { on := 6, ground := Ground.phase }, { on := 7, ground := Ground.phase }, { on := 8, ground := Ground.phase }, { on := 9, ground := Ground.phase }, { on := 10, ground := Ground.phase }, { on := 11, ground := Ground.phase }, { on := 12, ground := Ground.phase }, { on := 13, ground := Ground.phase }, { on := 14, ground := Ground.phase }, { on := 15, ground := Ground.phase }, { on := 16, ground := Ground.phase }, { on := 17, ground := Ground.phase }, { on := 18, ground := Ground.phase }], guard := none }) (v := ?v19_18) rfl (by kernel_rfl) (by kernel_rfl) (by kernel_rfl) (fun _ _ _ h => h) (Or.inl ⟨by rfl, ?h19_18⟩) (by assumption) ?r19_18
      case h19_18 =>
        intro W hSW
        try dsimp only at hSW
        go_simp
        try with_reducible rfl
      try simp only [Act.put, List.setIfInBounds_toArray, List.set_cons_zero, List.set_cons_succ]
      refine wpAnyH_done (by kernel_rfl) ?_ _
      go_wp2_with fail
      go_ret
      exact ⟨rfl, b1.trans ((hb4.trans (hv6.mono hb4.size)).mono b1.size)⟩
end Go.Proofs.YtfnbcchmembomaaDoor
