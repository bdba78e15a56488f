/- The reference's table: Lost. Conditions: the table is kept; the digest has 16 bytes. -/
import Derived.Test.YtcicfneekmbamaaChkRK
namespace Go.Proofs.Ytcicfneekmbamaa
set_option linter.unusedVariables false
set_option linter.unusedSimpArgs false
open Go.RowKit
set_option maxRecDepth 100000 in
set_option maxHeartbeats 3200000 in
theorem rlost_any {w : World} {F S : Nat → Prop} {a : Nat} {t : RM} {l : List Chk.Ck} (h : RAt w F S a t l) (d : List UInt8) (hd16 : d.length = 16) :
    Calls Try.prog 24 #[.pointer (some ⟨a, 0, none⟩), .agg (bvs d).toArray] w fun e w' => ∃ A c, e = .returned (.slice A (Chk.lostIds l d).length c) ∧ w'.ownsRow w.heap.size 3 1 (.slice A (Chk.lostIds l d).length c) (Chk.lostIds l d).length (ivs (Chk.lostIds l d)) ∧ Below w.heap.size w w' := by
  have hmx := h.max
  have HT := Lib.hid h
  have HL := Lib.hid h.len.1
  have rb := IsRow.new w 42 (bvs d)
  have hb0 : Below w.heap.size w (w.alloc (.cells (bvs d).toArray 42)) := (Below.refl _ w).alloc (Nat.le_refl _) _
  have hbe : (bvs d).length = 16 := by rw [bvs_length, hd16]
  have H16 := Lib.hid hd16
  obtain ⟨bd, hbd⟩ : ∃ x, bvs d = x := ⟨_, rfl⟩
  rw [hbd] at rb hb0 hbe ⊢
  obtain ⟨w0, hw0⟩ : ∃ x, w.alloc (.cells bd.toArray 42) = x := ⟨_, rfl⟩
  rw [hw0] at rb hb0
  have hs0 : w0.heap.size = w.heap.size + 1 := by rw [← hw0]; simp
  have HW0 := Lib.hid hw0
  have HB0 := Lib.hid hb0
  have HS0 := Lib.hid hs0
  have HRB0 := Lib.hid rb
  have HBE := Lib.hid hbe
  have HBD0 := Lib.hid hbd
  clear hw0 hb0 hs0 hd16 h rb hbe hbd
  go_enter Try.func24, Try.ntmps24
  go_upto_region 1 with fail
  rw [HW0.out]
  go_upto_region 3 with fail
  go_loopw [5, 6] (fun u5 u6 wr => ∃ (j m : Nat) (A3 : Option Addr) (c3 : Nat), j ≤ t.n ∧ u6 = .int .i64 (j : Int) ∧ u5 = .slice A3 m c3 ∧ Hid (m = (Chk.lostIds (l.take j) d).length) ∧ Hid (wr.ownsRow w0.heap.size 3 1 (.slice A3 m c3) m (ivs (Chk.lostIds (l.take j) d))) ∧ Hid (Below w0.heap.size w0 wr)) (fun _ u6 _ => t.n - (intOf u6).toNat)
  case atStart => exact ⟨0, 0, none, 0, Nat.zero_le _, rfl, rfl, Lib.hid rfl, Lib.hid (World.ownsRow_nil _ _ _ _), Lib.hid (Below.refl _ _)⟩
  case round =>
    obtain ⟨j, m, A3, c3, hj, rfl, rfl, HM, HO, HBX⟩ := hrel
    have HB := Lib.hid (HB0.out.trans (HBX.out.mono HB0.out.size))
    by_cases hlt : j < t.n
    · have hjl : j < l.length := by rw [HL.out]; exact hlt
      obtain ⟨g, x, hA, hg, hx, hn, hcr, hok, hrg⟩ := HT.out.at hlt
      have HC0 := Lib.hid (fun W (hW : Below wr.heap.size wr W) => show W.cell? ⟨a, 0, none⟩ = some (.slice (some ⟨g, 0, none⟩) t.n t.c) from by rw [← hA]; exact HT.out.rd (HB.out.trans (hW.mono HB.out.size)))
      have hgw : g < wr.heap.size := Nat.lt_of_lt_of_le hg HB.out.size
      have hrw : wr.rangeAt g (j * 23) x.cells := fun k u hu => (HB.out.cell (p := ⟨g, j * 23 + k, none⟩) (show g < w.heap.size by omega)).trans (hrg k u hu)
      obtain ⟨k0, _, _, _, _, k21, _⟩ := ck_cells hok.dg hrw
      have hrx : wr.rangeAt g (j * 23 + 1) (bvs x.c.dg) := fun k u hu => by
        have h1 : (ckCells x.c (.slice x.A x.n x.k))[1 + k]? = some u := by
          unfold ckCells
          have hk := (List.getElem?_eq_some_iff.1 hu).1
          rw [List.getElem?_append_right (by show 1 ≤ 1 + k; omega), show 1 + k - ([Value.int .i64 x.c.id] : List Value).length = k from by show 1 + k - 1 = k; omega, List.getElem?_append_left hk]
          exact hu
        have h2 := hrw (1 + k) u h1
        rwa [← Nat.add_assoc] at h2
      have hct := lostIds_take l d hjl
      rw [hn] at hct
      have hml := lostIds_le l d j
      have HML := Lib.hid (show m ≤ 65536 by rw [HM.out]; omega)
      obtain ⟨q, hq⟩ : ∃ q, (x.c.dg == d) = q := ⟨_, rfl⟩
      have heq : ∀ W, (binOp .eql 42 (.agg (bvs x.c.dg).toArray) (.agg bd.toArray)).run Try.prog W = .ok (.bool q) W := fun W => by rw [← hq, ← HBD0.out]; exact run_eql_digC W hok.dg H16.out
      have hbx : (bvs x.c.dg).length = 16 := by rw [bvs_length, hok.dg]
      have hqd : decide (x.c.dg = d) = q := by rw [← hq]; by_cases e : x.c.dg = d <;> simp [e]
      obtain ⟨lo, hlo⟩ : ∃ b, x.c.lost = b := ⟨_, rfl⟩
      obtain ⟨v, hv⟩ : ∃ v, x.c.id = v := ⟨_, rfl⟩
      rw [hlo, hv, hqd] at hct
      rw [hlo] at k21
      rw [hv] at k0
      have HCT := Lib.hid hct
      have HBD := Lib.hid hbx
      have HRX := Lib.hid (fun W (hW : Below wr.heap.size wr W) k u hu => (hW.cell (p := ⟨g, j * 23 + 1 + k, none⟩) hgw).trans (hrx k u hu))
      have hbw : w.heap.size < wr.heap.size := by have := HBX.out.size; have := HS0.out; omega
      have HRB := Lib.hid (fun W (hW : Below wr.heap.size wr W) => show W.rangeAt w.heap.size 0 bd from fun k u hu => by rw [Nat.zero_add, ((HRB0.out.below' HBX.out).below' hW).cell]; exact hu)
      have HGL := Lib.hid hgw
      have HK0 := Lib.hid k0
      have HK21 := Lib.hid k21
      have e1 : (0 : Int) ≤ (j : Int) := by omega
      have e2 : (j : Int) < (t.n : Int) := by omega
      generalize bvs x.c.dg = bx at heq HRX HBD
      have c0 := HC0.out wr (Below.refl _ _)
      clear hA hg hx hn hcr hok hrg hgw hrw k0 hrx hjl hct hml hq hbx hqd hlo hv hbw
      cases lo with
      | false =>
        have HC1 : Hid (Chk.lostIds (l.take (j + 1)) d = Chk.lostIds (l.take j) d) := Lib.hid (by rw [HCT.out]; simp)
        go_wp2_with fail
        go_quiet (fail)
        go_wp2_with fail
        go_roundw
        case rel => exact ⟨j + 1, m, A3, c3, by omega, by go_num, rfl, Lib.hid (by rw [HC1.out]; exact HM.out), Lib.hid (by rw [HC1.out]; exact own_drewN HO.out _), Lib.hid (below_drewN HBX.out _)⟩
        case measure => simp [intOf]; omega
      | true =>
        cases q with
        | false =>
          have HC1 : Hid (Chk.lostIds (l.take (j + 1)) d = Chk.lostIds (l.take j) d) := Lib.hid (by rw [HCT.out]; simp)
          go_upto_region 5 with fail
          clear c0 k21
          have hv0 : Below wr.heap.size wr wr.drew := (Below.refl _ _).drew
          refine wp_region_held_drew (S := fun W => Below wr.heap.size wr W) (by kernel_rfl) (hv0) (fun hHeld => ?_)
          refine wpAnyH_take (i := 0) (oi := { dst := some 16, op := Op.move (Operand.tmp 0), type := 31, pos := "ref.go:86", after := #[], guard := none }) (v := ?v0_1) rfl (by kernel_rfl) (by kernel_rfl) (by kernel_rfl) (fun _ _ _ h => h) (Or.inl ⟨by rfl, ?h0_1⟩) (by assumption) ?r0_1
          case h0_1 =>
            intro W hSW
            try dsimp only at hSW
            go_simp
            try with_reducible rfl
          try simp only [Act.put, List.setIfInBounds_toArray, List.set_cons_zero, List.set_cons_succ]
          refine wpAnyH_take (i := 1) (oi := { dst := some 17, op := Op.nilCheck (Operand.tmp 16), type := 0, pos := "ref.go:86", after := #[{ on := 0, ground := Ground.data }], guard := none }) (v := ?v1_2) rfl (by kernel_rfl) (by kernel_rfl) (by kernel_rfl) (fun _ _ _ h => h) (Or.inl ⟨by rfl, ?h1_2⟩) (by assumption) ?r1_2
          case h1_2 =>
            intro W hSW
            try dsimp only at hSW
            go_simp
            try with_reducible rfl
          try simp only [Act.put, List.setIfInBounds_toArray, List.set_cons_zero, List.set_cons_succ]
          refine wpAnyH_take (i := 2) (oi := { dst := some 18, op := Op.fieldAddr 34 (Operand.tmp 17) 0, type := 0, pos := "ref.go:86", after := #[{ on := 1, ground := Ground.data }], guard := none }) (v := ?v2_3) rfl (by kernel_rfl) (by kernel_rfl) (by kernel_rfl) (fun _ _ _ h => h) (Or.inl ⟨by rfl, ?h2_3⟩) (by assumption) ?r2_3
          case h2_3 =>
            intro W hSW
            try dsimp only at hSW
            go_simp
            try with_reducible rfl
          try simp only [Act.put, List.setIfInBounds_toArray, List.set_cons_zero, List.set_cons_succ]
          refine wpAnyH_take (i := 3) (oi := { dst := some 19, op := Op.load 32 (Operand.tmp 18), type := 32, pos := "ref.go:86", after := #[{ on := 2, ground := Ground.data }], guard := none }) (v := ?v3_4) rfl (by kernel_rfl) (by kernel_rfl) (by kernel_rfl) (fun _ _ _ h => h) (Or.inl ⟨by rfl, ?h3_4⟩) (by assumption) ?r3_4
          case h3_4 =>
            intro W hSW
            try dsimp only at hSW
            have c0 := HC0.out W hSW
            go_simp
            try with_reducible rfl
          try simp only [Act.put, List.setIfInBounds_toArray, List.set_cons_zero, List.set_cons_succ]
          refine wpAnyH_take (i := 4) (oi := { dst := some 20, op := Op.move (Operand.tmp 6), type := 3, pos := "ref.go:86", after := #[], guard := none }) (v := ?v4_5) rfl (by kernel_rfl) (by kernel_rfl) (by kernel_rfl) (fun _ _ _ h => h) (Or.inl ⟨by rfl, ?h4_5⟩) (by assumption) ?r4_5
          case h4_5 =>
            intro W hSW
            try dsimp only at hSW
            go_simp
            try with_reducible rfl
          try simp only [Act.put, List.setIfInBounds_toArray, List.set_cons_zero, List.set_cons_succ]
          refine wpAnyH_take (i := 5) (oi := { dst := some 21, op := Op.indexAddr 32 (Operand.tmp 19) (Operand.tmp 20), type := 0, pos := "ref.go:86", after := #[{ on := 3, ground := Ground.data }, { on := 4, ground := Ground.data }], guard := none }) (v := ?v5_6) rfl (by kernel_rfl) (by kernel_rfl) (by kernel_rfl) (fun _ _ _ h => h) (Or.inl ⟨by rfl, ?h5_6⟩) (by assumption) ?r5_6
          case h5_6 =>
            intro W hSW
            try dsimp only at hSW
            go_simp
            try with_reducible rfl
          try simp only [Act.put, List.setIfInBounds_toArray, List.set_cons_zero, List.set_cons_succ]
          refine wpAnyH_take (i := 6) (oi := { dst := some 22, op := Op.fieldAddr 45 (Operand.tmp 21) 4, type := 0, pos := "ref.go:86", after := #[{ on := 5, ground := Ground.data }], guard := none }) (v := ?v6_7) rfl (by kernel_rfl) (by kernel_rfl) (by kernel_rfl) (fun _ _ _ h => h) (Or.inl ⟨by rfl, ?h6_7⟩) (by assumption) ?r6_7
          case h6_7 =>
            intro W hSW
            try dsimp only at hSW
            go_simp
            try with_reducible rfl
          try simp only [Act.put, List.setIfInBounds_toArray, List.set_cons_zero, List.set_cons_succ]
          refine wpAnyH_take (i := 7) (oi := { dst := some 23, op := Op.load 4 (Operand.tmp 22), type := 4, pos := "ref.go:86", after := #[{ on := 6, ground := Ground.data }], guard := none }) (v := ?v7_8) rfl (by kernel_rfl) (by kernel_rfl) (by kernel_rfl) (fun _ _ _ h => h) (Or.inl ⟨by rfl, ?h7_8⟩) (by assumption) ?r7_8
          case h7_8 =>
            intro W hSW
            try dsimp only at hSW
            have k21 := (hSW.cell (p := ⟨g, j * 23 + 21, none⟩) HGL.out).trans HK21.out
            go_simp
            try with_reducible rfl
          try simp only [Act.put, List.setIfInBounds_toArray, List.set_cons_zero, List.set_cons_succ]
          refine wpAnyH_take (i := 8) (oi := { dst := some 24, op := Op.move (Operand.tmp 23), type := 4, pos := "ref.go:86", after := #[{ on := 7, ground := Ground.data }], guard := none }) (v := ?v8_9) rfl (by kernel_rfl) (by kernel_rfl) (by kernel_rfl) (fun _ _ _ h => h) (Or.inl ⟨by rfl, ?h8_9⟩) (by assumption) ?r8_9
          case h8_9 =>
            intro W hSW
            try dsimp only at hSW
            go_simp
            try with_reducible rfl
          try simp only [Act.put, List.setIfInBounds_toArray, List.set_cons_zero, List.set_cons_succ]
          refine wpAnyH_take (i := 9) (oi := { dst := some 25, op := Op.move (Operand.tmp 0), type := 31, pos := "ref.go:86", after := #[{ on := 8, ground := Ground.guard }], guard := some (8, true) }) (v := ?v9_10) rfl (by kernel_rfl) (by kernel_rfl) (by kernel_rfl) (fun _ _ _ h => h) (Or.inl ⟨by rfl, ?h9_10⟩) (by assumption) ?r9_10
          case h9_10 =>
            intro W hSW
            try dsimp only at hSW
            go_simp
            try with_reducible rfl
          try simp only [Act.put, List.setIfInBounds_toArray, List.set_cons_zero, List.set_cons_succ]
          refine wpAnyH_take (i := 10) (oi := { dst := some 26, op := Op.nilCheck (Operand.tmp 25), type := 0, pos := "ref.go:86", after := #[{ on := 9, ground := Ground.data }, { on := 8, ground := Ground.guard }], guard := some (8, true) }) (v := ?v10_11) rfl (by kernel_rfl) (by kernel_rfl) (by kernel_rfl) (fun _ _ _ h => h) (Or.inl ⟨by rfl, ?h10_11⟩) (by assumption) ?r10_11
          case h10_11 =>
            intro W hSW
            try dsimp only at hSW
            go_simp
            try with_reducible rfl
          try simp only [Act.put, List.setIfInBounds_toArray, List.set_cons_zero, List.set_cons_succ]
          refine wpAnyH_take (i := 11) (oi := { dst := some 27, op := Op.fieldAddr 34 (Operand.tmp 26) 0, type := 0, pos := "ref.go:86", after := #[{ on := 10, ground := Ground.data }, { on := 8, ground := Ground.guard }], guard := some (8, true) }) (v := ?v11_12) rfl (by kernel_rfl) (by kernel_rfl) (by kernel_rfl) (fun _ _ _ h => h) (Or.inl ⟨by rfl, ?h11_12⟩) (by assumption) ?r11_12
          case h11_12 =>
            intro W hSW
            try dsimp only at hSW
            go_simp
            try with_reducible rfl
          try simp only [Act.put, List.setIfInBounds_toArray, List.set_cons_zero, List.set_cons_succ]
          refine wpAnyH_take (i := 12) (oi := { dst := some 28, op := Op.load 32 (Operand.tmp 27), type := 32, pos := "ref.go:86", after := #[{ on := 11, ground := Ground.data }, { on := 8, ground := Ground.guard }], guard := some (8, true) }) (v := ?v12_13) rfl (by kernel_rfl) (by kernel_rfl) (by kernel_rfl) (fun _ _ _ h => h) (Or.inl ⟨by rfl, ?h12_13⟩) (by assumption) ?r12_13
          case h12_13 =>
            intro W hSW
            try dsimp only at hSW
            have c0 := HC0.out W hSW
            go_simp
            try with_reducible rfl
          try simp only [Act.put, List.setIfInBounds_toArray, List.set_cons_zero, List.set_cons_succ]
          refine wpAnyH_take (i := 13) (oi := { dst := some 29, op := Op.move (Operand.tmp 6), type := 3, pos := "ref.go:86", after := #[{ on := 8, ground := Ground.guard }], guard := some (8, true) }) (v := ?v13_14) rfl (by kernel_rfl) (by kernel_rfl) (by kernel_rfl) (fun _ _ _ h => h) (Or.inl ⟨by rfl, ?h13_14⟩) (by assumption) ?r13_14
          case h13_14 =>
            intro W hSW
            try dsimp only at hSW
            go_simp
            try with_reducible rfl
          try simp only [Act.put, List.setIfInBounds_toArray, List.set_cons_zero, List.set_cons_succ]
          refine wpAnyH_take (i := 14) (oi := { dst := some 30, op := Op.indexAddr 32 (Operand.tmp 28) (Operand.tmp 29), type := 0, pos := "ref.go:86", after := #[{ on := 12, ground := Ground.data }, { on := 13, ground := Ground.data }, { on := 8, ground := Ground.guard }], guard := some (8, true) }) (v := ?v14_15) rfl (by kernel_rfl) (by kernel_rfl) (by kernel_rfl) (fun _ _ _ h => h) (Or.inl ⟨by rfl, ?h14_15⟩) (by assumption) ?r14_15
          case h14_15 =>
            intro W hSW
            try dsimp only at hSW
            go_simp
            try with_reducible rfl
          try simp only [Act.put, List.setIfInBounds_toArray, List.set_cons_zero, List.set_cons_succ]
          refine wpAnyH_take (i := 15) (oi := { dst := some 31, op := Op.fieldAddr 45 (Operand.tmp 30) 1, type := 0, pos := "ref.go:86", after := #[{ on := 14, ground := Ground.data }, { on := 8, ground := Ground.guard }], guard := some (8, true) }) (v := ?v15_16) rfl (by kernel_rfl) (by kernel_rfl) (by kernel_rfl) (fun _ _ _ h => h) (Or.inl ⟨by rfl, ?h15_16⟩) (by assumption) ?r15_16
          case h15_16 =>
            intro W hSW
            try dsimp only at hSW
            go_simp
            try with_reducible rfl
          try simp only [Act.put, List.setIfInBounds_toArray, List.set_cons_zero, List.set_cons_succ]
          refine wpAnyH_take (i := 16) (oi := { dst := some 32, op := Op.load 42 (Operand.tmp 31), type := 42, pos := "ref.go:86", after := #[{ on := 15, ground := Ground.data }, { on := 8, ground := Ground.guard }], guard := some (8, true) }) (v := (.agg bx.toArray)) rfl (by kernel_rfl) (by kernel_rfl) (by kernel_rfl) (fun _ _ _ h => h) (yieldsIf_load_mid (by rfl) 42 (.tmp 31) rfl g (j * 23 + 1) rfl bx _ (fun W hW => HRX.out W hW) Try.underlying42 rfl (by rw [HBD.out]; exact size16d)) (by assumption) ?_
          try simp only [Act.put, List.setIfInBounds_toArray, List.set_cons_zero, List.set_cons_succ]
          refine wpAnyH_take (i := 17) (oi := { dst := some 33, op := Op.load 42 (Operand.tmp 3), type := 42, pos := "ref.go:86", after := #[{ on := 8, ground := Ground.guard }], guard := some (8, true) }) (v := (.agg bd.toArray)) rfl (by kernel_rfl) (by kernel_rfl) (by kernel_rfl) (fun _ _ _ h => h) (yieldsIf_load_mid (by rfl) 42 (.tmp 3) rfl w.heap.size 0 rfl bd _ (fun W hW => HRB.out W hW) Try.underlying42 rfl (by rw [HBE.out]; exact size16d)) (by assumption) ?_
          try simp only [Act.put, List.setIfInBounds_toArray, List.set_cons_zero, List.set_cons_succ]
          refine wpAnyH_take (i := 18) (oi := { dst := some 34, op := Op.binOp BinOp.eql 42 (Operand.tmp 32) (Operand.tmp 33) 42, type := 4, pos := "ref.go:86", after := #[{ on := 16, ground := Ground.data }, { on := 17, ground := Ground.data }, { on := 8, ground := Ground.guard }], guard := some (8, true) }) (v := ?v18_19) rfl (by kernel_rfl) (by kernel_rfl) (by kernel_rfl) (fun _ _ _ h => h) (Or.inl ⟨by rfl, ?h18_19⟩) (by assumption) ?r18_19
          case h18_19 =>
            intro W hSW
            try dsimp only at hSW
            go_simp
            try with_reducible rfl
          try simp only [Act.put, List.setIfInBounds_toArray, List.set_cons_zero, List.set_cons_succ]
          refine wpAnyH_take (i := 19) (oi := { dst := some 35, op := Op.pick (Operand.tmp 24) (Operand.tmp 34) (Operand.const (Value.bool false)), type := 4, pos := "ref.go:86", after := #[{ on := 8, ground := Ground.data }, { on := 18, ground := Ground.data }], guard := none }) (v := ?v19_20) rfl (by kernel_rfl) (by kernel_rfl) (by kernel_rfl) (fun _ _ _ h => h) (Or.inl ⟨by rfl, ?h19_20⟩) (by assumption) ?r19_20
          case h19_20 =>
            intro W hSW
            try dsimp only at hSW
            go_simp
            try with_reducible rfl
          try simp only [Act.put, List.setIfInBounds_toArray, List.set_cons_zero, List.set_cons_succ]
          refine wpAnyH_done (by kernel_rfl) ?_ _
          have HBW := Lib.hid hv0
          clear hHeld hv0
          go_wp2_with fail
          go_roundw
          case rel => exact ⟨j + 1, m, A3, c3, by omega, by go_num, rfl, Lib.hid (by rw [HC1.out]; exact HM.out), Lib.hid (by rw [HC1.out]; exact own_below HO.out HBW.out), Lib.hid (HBX.out.trans (HBW.out.mono HBX.out.size))⟩
          case measure => simp [intOf]; omega
        | true =>
          have HC1 : Hid (Chk.lostIds (l.take (j + 1)) d = Chk.lostIds (l.take j) d ++ [v]) := Lib.hid (by rw [HCT.out]; simp)
          go_upto_region 5 with fail
          clear c0 k21
          have hv0 : Below wr.heap.size wr wr.drew := (Below.refl _ _).drew
          refine wp_region_held_drew (S := fun W => Below wr.heap.size wr W) (by kernel_rfl) (hv0) (fun hHeld => ?_)
          refine wpAnyH_take (i := 0) (oi := { dst := some 16, op := Op.move (Operand.tmp 0), type := 31, pos := "ref.go:86", after := #[], guard := none }) (v := ?v0_1001) rfl (by kernel_rfl) (by kernel_rfl) (by kernel_rfl) (fun _ _ _ h => h) (Or.inl ⟨by rfl, ?h0_1001⟩) (by assumption) ?r0_1001
          case h0_1001 =>
            intro W hSW
            try dsimp only at hSW
            go_simp
            try with_reducible rfl
          try simp only [Act.put, List.setIfInBounds_toArray, List.set_cons_zero, List.set_cons_succ]
          refine wpAnyH_take (i := 1) (oi := { dst := some 17, op := Op.nilCheck (Operand.tmp 16), type := 0, pos := "ref.go:86", after := #[{ on := 0, ground := Ground.data }], guard := none }) (v := ?v1_1002) rfl (by kernel_rfl) (by kernel_rfl) (by kernel_rfl) (fun _ _ _ h => h) (Or.inl ⟨by rfl, ?h1_1002⟩) (by assumption) ?r1_1002
          case h1_1002 =>
            intro W hSW
            try dsimp only at hSW
            go_simp
            try with_reducible rfl
          try simp only [Act.put, List.setIfInBounds_toArray, List.set_cons_zero, List.set_cons_succ]
          refine wpAnyH_take (i := 2) (oi := { dst := some 18, op := Op.fieldAddr 34 (Operand.tmp 17) 0, type := 0, pos := "ref.go:86", after := #[{ on := 1, ground := Ground.data }], guard := none }) (v := ?v2_1003) rfl (by kernel_rfl) (by kernel_rfl) (by kernel_rfl) (fun _ _ _ h => h) (Or.inl ⟨by rfl, ?h2_1003⟩) (by assumption) ?r2_1003
          case h2_1003 =>
            intro W hSW
            try dsimp only at hSW
            go_simp
            try with_reducible rfl
          try simp only [Act.put, List.setIfInBounds_toArray, List.set_cons_zero, List.set_cons_succ]
          refine wpAnyH_take (i := 3) (oi := { dst := some 19, op := Op.load 32 (Operand.tmp 18), type := 32, pos := "ref.go:86", after := #[{ on := 2, ground := Ground.data }], guard := none }) (v := ?v3_1004) rfl (by kernel_rfl) (by kernel_rfl) (by kernel_rfl) (fun _ _ _ h => h) (Or.inl ⟨by rfl, ?h3_1004⟩) (by assumption) ?r3_1004
          case h3_1004 =>
            intro W hSW
            try dsimp only at hSW
            have c0 := HC0.out W hSW
            go_simp
            try with_reducible rfl
          try simp only [Act.put, List.setIfInBounds_toArray, List.set_cons_zero, List.set_cons_succ]
          refine wpAnyH_take (i := 4) (oi := { dst := some 20, op := Op.move (Operand.tmp 6), type := 3, pos := "ref.go:86", after := #[], guard := none }) (v := ?v4_1005) rfl (by kernel_rfl) (by kernel_rfl) (by kernel_rfl) (fun _ _ _ h => h) (Or.inl ⟨by rfl, ?h4_1005⟩) (by assumption) ?r4_1005
          case h4_1005 =>
            intro W hSW
            try dsimp only at hSW
            go_simp
            try with_reducible rfl
          try simp only [Act.put, List.setIfInBounds_toArray, List.set_cons_zero, List.set_cons_succ]
          refine wpAnyH_take (i := 5) (oi := { dst := some 21, op := Op.indexAddr 32 (Operand.tmp 19) (Operand.tmp 20), type := 0, pos := "ref.go:86", after := #[{ on := 3, ground := Ground.data }, { on := 4, ground := Ground.data }], guard := none }) (v := ?v5_1006) rfl (by kernel_rfl) (by kernel_rfl) (by kernel_rfl) (fun _ _ _ h => h) (Or.inl ⟨by rfl, ?h5_1006⟩) (by assumption) ?r5_1006
          case h5_1006 =>
            intro W hSW
            try dsimp only at hSW
            go_simp
            try with_reducible rfl
          try simp only [Act.put, List.setIfInBounds_toArray, List.set_cons_zero, List.set_cons_succ]
          refine wpAnyH_take (i := 6) (oi := { dst := some 22, op := Op.fieldAddr 45 (Operand.tmp 21) 4, type := 0, pos := "ref.go:86", after := #[{ on := 5, ground := Ground.data }], guard := none }) (v := ?v6_1007) rfl (by kernel_rfl) (by kernel_rfl) (by kernel_rfl) (fun _ _ _ h => h) (Or.inl ⟨by rfl, ?h6_1007⟩) (by assumption) ?r6_1007
          case h6_1007 =>
            intro W hSW
            try dsimp only at hSW
            go_simp
            try with_reducible rfl
          try simp only [Act.put, List.setIfInBounds_toArray, List.set_cons_zero, List.set_cons_succ]
          refine wpAnyH_take (i := 7) (oi := { dst := some 23, op := Op.load 4 (Operand.tmp 22), type := 4, pos := "ref.go:86", after := #[{ on := 6, ground := Ground.data }], guard := none }) (v := ?v7_1008) rfl (by kernel_rfl) (by kernel_rfl) (by kernel_rfl) (fun _ _ _ h => h) (Or.inl ⟨by rfl, ?h7_1008⟩) (by assumption) ?r7_1008
          case h7_1008 =>
            intro W hSW
            try dsimp only at hSW
            have k21 := (hSW.cell (p := ⟨g, j * 23 + 21, none⟩) HGL.out).trans HK21.out
            go_simp
            try with_reducible rfl
          try simp only [Act.put, List.setIfInBounds_toArray, List.set_cons_zero, List.set_cons_succ]
          refine wpAnyH_take (i := 8) (oi := { dst := some 24, op := Op.move (Operand.tmp 23), type := 4, pos := "ref.go:86", after := #[{ on := 7, ground := Ground.data }], guard := none }) (v := ?v8_1009) rfl (by kernel_rfl) (by kernel_rfl) (by kernel_rfl) (fun _ _ _ h => h) (Or.inl ⟨by rfl, ?h8_1009⟩) (by assumption) ?r8_1009
          case h8_1009 =>
            intro W hSW
            try dsimp only at hSW
            go_simp
            try with_reducible rfl
          try simp only [Act.put, List.setIfInBounds_toArray, List.set_cons_zero, List.set_cons_succ]
          refine wpAnyH_take (i := 9) (oi := { dst := some 25, op := Op.move (Operand.tmp 0), type := 31, pos := "ref.go:86", after := #[{ on := 8, ground := Ground.guard }], guard := some (8, true) }) (v := ?v9_1010) rfl (by kernel_rfl) (by kernel_rfl) (by kernel_rfl) (fun _ _ _ h => h) (Or.inl ⟨by rfl, ?h9_1010⟩) (by assumption) ?r9_1010
          case h9_1010 =>
            intro W hSW
            try dsimp only at hSW
            go_simp
            try with_reducible rfl
          try simp only [Act.put, List.setIfInBounds_toArray, List.set_cons_zero, List.set_cons_succ]
          refine wpAnyH_take (i := 10) (oi := { dst := some 26, op := Op.nilCheck (Operand.tmp 25), type := 0, pos := "ref.go:86", after := #[{ on := 9, ground := Ground.data }, { on := 8, ground := Ground.guard }], guard := some (8, true) }) (v := ?v10_1011) rfl (by kernel_rfl) (by kernel_rfl) (by kernel_rfl) (fun _ _ _ h => h) (Or.inl ⟨by rfl, ?h10_1011⟩) (by assumption) ?r10_1011
          case h10_1011 =>
            intro W hSW
            try dsimp only at hSW
            go_simp
            try with_reducible rfl
          try simp only [Act.put, List.setIfInBounds_toArray, List.set_cons_zero, List.set_cons_succ]
          refine wpAnyH_take (i := 11) (oi := { dst := some 27, op := Op.fieldAddr 34 (Operand.tmp 26) 0, type := 0, pos := "ref.go:86", after := #[{ on := 10, ground := Ground.data }, { on := 8, ground := Ground.guard }], guard := some (8, true) }) (v := ?v11_1012) rfl (by kernel_rfl) (by kernel_rfl) (by kernel_rfl) (fun _ _ _ h => h) (Or.inl ⟨by rfl, ?h11_1012⟩) (by assumption) ?r11_1012
          case h11_1012 =>
            intro W hSW
            try dsimp only at hSW
            go_simp
            try with_reducible rfl
          try simp only [Act.put, List.setIfInBounds_toArray, List.set_cons_zero, List.set_cons_succ]
          refine wpAnyH_take (i := 12) (oi := { dst := some 28, op := Op.load 32 (Operand.tmp 27), type := 32, pos := "ref.go:86", after := #[{ on := 11, ground := Ground.data }, { on := 8, ground := Ground.guard }], guard := some (8, true) }) (v := ?v12_1013) rfl (by kernel_rfl) (by kernel_rfl) (by kernel_rfl) (fun _ _ _ h => h) (Or.inl ⟨by rfl, ?h12_1013⟩) (by assumption) ?r12_1013
          case h12_1013 =>
            intro W hSW
            try dsimp only at hSW
            have c0 := HC0.out W hSW
            go_simp
            try with_reducible rfl
          try simp only [Act.put, List.setIfInBounds_toArray, List.set_cons_zero, List.set_cons_succ]
          refine wpAnyH_take (i := 13) (oi := { dst := some 29, op := Op.move (Operand.tmp 6), type := 3, pos := "ref.go:86", after := #[{ on := 8, ground := Ground.guard }], guard := some (8, true) }) (v := ?v13_1014) rfl (by kernel_rfl) (by kernel_rfl) (by kernel_rfl) (fun _ _ _ h => h) (Or.inl ⟨by rfl, ?h13_1014⟩) (by assumption) ?r13_1014
          case h13_1014 =>
            intro W hSW
            try dsimp only at hSW
            go_simp
            try with_reducible rfl
          try simp only [Act.put, List.setIfInBounds_toArray, List.set_cons_zero, List.set_cons_succ]
          refine wpAnyH_take (i := 14) (oi := { dst := some 30, op := Op.indexAddr 32 (Operand.tmp 28) (Operand.tmp 29), type := 0, pos := "ref.go:86", after := #[{ on := 12, ground := Ground.data }, { on := 13, ground := Ground.data }, { on := 8, ground := Ground.guard }], guard := some (8, true) }) (v := ?v14_1015) rfl (by kernel_rfl) (by kernel_rfl) (by kernel_rfl) (fun _ _ _ h => h) (Or.inl ⟨by rfl, ?h14_1015⟩) (by assumption) ?r14_1015
          case h14_1015 =>
            intro W hSW
            try dsimp only at hSW
            go_simp
            try with_reducible rfl
          try simp only [Act.put, List.setIfInBounds_toArray, List.set_cons_zero, List.set_cons_succ]
          refine wpAnyH_take (i := 15) (oi := { dst := some 31, op := Op.fieldAddr 45 (Operand.tmp 30) 1, type := 0, pos := "ref.go:86", after := #[{ on := 14, ground := Ground.data }, { on := 8, ground := Ground.guard }], guard := some (8, true) }) (v := ?v15_1016) rfl (by kernel_rfl) (by kernel_rfl) (by kernel_rfl) (fun _ _ _ h => h) (Or.inl ⟨by rfl, ?h15_1016⟩) (by assumption) ?r15_1016
          case h15_1016 =>
            intro W hSW
            try dsimp only at hSW
            go_simp
            try with_reducible rfl
          try simp only [Act.put, List.setIfInBounds_toArray, List.set_cons_zero, List.set_cons_succ]
          refine wpAnyH_take (i := 16) (oi := { dst := some 32, op := Op.load 42 (Operand.tmp 31), type := 42, pos := "ref.go:86", after := #[{ on := 15, ground := Ground.data }, { on := 8, ground := Ground.guard }], guard := some (8, true) }) (v := (.agg bx.toArray)) rfl (by kernel_rfl) (by kernel_rfl) (by kernel_rfl) (fun _ _ _ h => h) (yieldsIf_load_mid (by rfl) 42 (.tmp 31) rfl g (j * 23 + 1) rfl bx _ (fun W hW => HRX.out W hW) Try.underlying42 rfl (by rw [HBD.out]; exact size16d)) (by assumption) ?_
          try simp only [Act.put, List.setIfInBounds_toArray, List.set_cons_zero, List.set_cons_succ]
          refine wpAnyH_take (i := 17) (oi := { dst := some 33, op := Op.load 42 (Operand.tmp 3), type := 42, pos := "ref.go:86", after := #[{ on := 8, ground := Ground.guard }], guard := some (8, true) }) (v := (.agg bd.toArray)) rfl (by kernel_rfl) (by kernel_rfl) (by kernel_rfl) (fun _ _ _ h => h) (yieldsIf_load_mid (by rfl) 42 (.tmp 3) rfl w.heap.size 0 rfl bd _ (fun W hW => HRB.out W hW) Try.underlying42 rfl (by rw [HBE.out]; exact size16d)) (by assumption) ?_
          try simp only [Act.put, List.setIfInBounds_toArray, List.set_cons_zero, List.set_cons_succ]
          refine wpAnyH_take (i := 18) (oi := { dst := some 34, op := Op.binOp BinOp.eql 42 (Operand.tmp 32) (Operand.tmp 33) 42, type := 4, pos := "ref.go:86", after := #[{ on := 16, ground := Ground.data }, { on := 17, ground := Ground.data }, { on := 8, ground := Ground.guard }], guard := some (8, true) }) (v := ?v18_1019) rfl (by kernel_rfl) (by kernel_rfl) (by kernel_rfl) (fun _ _ _ h => h) (Or.inl ⟨by rfl, ?h18_1019⟩) (by assumption) ?r18_1019
          case h18_1019 =>
            intro W hSW
            try dsimp only at hSW
            go_simp
            try with_reducible rfl
          try simp only [Act.put, List.setIfInBounds_toArray, List.set_cons_zero, List.set_cons_succ]
          refine wpAnyH_take (i := 19) (oi := { dst := some 35, op := Op.pick (Operand.tmp 24) (Operand.tmp 34) (Operand.const (Value.bool false)), type := 4, pos := "ref.go:86", after := #[{ on := 8, ground := Ground.data }, { on := 18, ground := Ground.data }], guard := none }) (v := ?v19_1020) rfl (by kernel_rfl) (by kernel_rfl) (by kernel_rfl) (fun _ _ _ h => h) (Or.inl ⟨by rfl, ?h19_1020⟩) (by assumption) ?r19_1020
          case h19_1020 =>
            intro W hSW
            try dsimp only at hSW
            go_simp
            try with_reducible rfl
          try simp only [Act.put, List.setIfInBounds_toArray, List.set_cons_zero, List.set_cons_succ]
          refine wpAnyH_done (by kernel_rfl) ?_ _
          have HBW := Lib.hid hv0
          have HOD := Lib.hid ((own_below HO.out hv0))
          have c0 := HC0.out _ hv0
          have k0 := (hv0.cell (p := ⟨g, j * 23, none⟩) HGL.out).trans HK0.out
          clear hHeld hv0
          go_wp2_with (at_builtin; refine wpList_app1 rfl (.tmp 36) (.tmp 45) 52 rfl w0.heap.size 3 _ 8 intsT A3 m c3 (ivs (Chk.lostIds (l.take j) d)) (.int .i64 v) rfl rfl HOD.out (HBX.out.trans (HBW.out.mono HBX.out.size)) rfl (by have := HML.out; omega) (Nat.le_refl _) (Nat.le_trans HBX.out.size HBW.out.size) ?_; intro g4 c4 w4 own4 hb4 hg4; rw [ivs_snoc _ v rfl, ← HC1.out] at own4; have HO4 := Lib.hid own4; have HB4 := Lib.hid hb4; clear own4 hb4 hg4)
          go_roundw
          case rel => exact ⟨j + 1, m + 1, some ⟨g4, 0, none⟩, c4, by omega, by go_num, rfl, Lib.hid (by rw [HC1.out, List.length_append, ← HM.out]; rfl), HO4, HB4⟩
          case measure => simp [intOf]; omega
    · obtain rfl : j = t.n := by omega
      have HE : Hid (Chk.lostIds (l.take t.n) d = Chk.lostIds l d) := Lib.hid (by rw [List.take_of_length_le (by rw [HL.out]; exact Nat.le_refl _)])
      have c0 := HT.out.rd HB.out
      go_wp2_with fail
      go_ret
      have hm := HM.out
      have ho := HO.out
      rw [HE.out] at hm ho
      subst hm
      exact ⟨A3, c3, rfl, own_base ho (by have := HS0.out; omega), HB.out⟩
end Go.Proofs.Ytcicfneekmbamaa
