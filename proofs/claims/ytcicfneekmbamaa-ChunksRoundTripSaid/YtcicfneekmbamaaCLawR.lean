/- The law ChunksRoundTrip. Conditions: none beside the argument's form. -/
import Derived.Test.YtcicfneekmbamaaCLawKit
import Derived.Test.YtcicfneekmbamaaChkSJ
namespace Go.Proofs.Ytcicfneekmbamaa
set_option linter.unusedVariables false
set_option linter.unusedSimpArgs false
open Go.RowKit
theorem encT_len {l : List Chk.Ck} (h : Chk.Inv l) : (Chk.encT l).length ≤ 1099511627776 := by
  have h1 := encF_le l (fun c hc => h.ok c hc) l.length
  rw [List.take_length] at h1
  have h2 := h.len
  have h3 := Wire.enc_length_le (l.length : Int)
  unfold Chk.encT
  rw [List.length_append]; omega
set_option maxRecDepth 100000 in
set_option maxHeartbeats 6400000 in
theorem lawRound (A : Option Addr) (n c : Nat) (ops : List Chk.Op) (hl : ops.length = n) (hnc : n ≤ c) (hc : c ≤ 140737488355328) (hok : ∀ o ∈ ops, OpOk o) (w : World) (hr : Rd w w.heap.size 9 A n (ops.flatMap opL)) :
    Calls Try.prog 10 #[.slice A n c] w fun e w' => e = .returned (.bool true) ∧ Below w.heap.size w w' := by
  have HSN := Lib.hid sanity_any
  by_cases hn : 120 < n
  · have HBU := Lib.hid (build_long A n c w hn)
    clear hr hl hok hnc hc hn
    go_enter Try.func10, Try.ntmps10
    go_wp2_with (first
      | (go_at_call 11; refine HBU.out.mono ?_; rintro e w1 ⟨rfl, b1⟩)
      | (go_at_call 12; refine (HSN.out _).mono ?_; rintro e w2 ⟨rfl, b2⟩))
    go_ret
    exact ⟨rfl, b1.trans (b2.mono b1.size)⟩
  have ho0 : OpsAt w A n ops := ⟨hr, hl, fun o ho => (hok o ho).2.2.2.2.2⟩
  have HO : Hid (OpsAt w A n ops) := Lib.hid ho0
  have HBU := Lib.hid (build_any A n c ops w (by omega) ho0)
  have hn1 : n ≤ 120 := by omega
  obtain ⟨l, hll⟩ : ∃ l, Chk.run [] ops = l := ⟨_, rfl⟩
  rw [hll] at HBU
  have HLL := Lib.hid hll
  clear hr hl hok hnc hc hn ho0 hll
  go_enter Try.func10, Try.ntmps10
  go_upto_region 4 with (go_at_call 11; refine HBU.out.mono ?_; rintro e w1 ⟨a, rfl, htab⟩; have HT1 := Lib.hid htab; clear htab)
  have hp1 := HT1.out.pair
  obtain ⟨r, hr⟩ : ∃ r, w1.heap.size = r := ⟨_, rfl⟩
  rw [hr] at hp1
  have HP1 := Lib.hid hp1
  clear hp1
  go_upto_region 5 with fail
  obtain ⟨w2, hw2⟩ : ∃ x, w1.alloc (.cells #[.slice none 0 0] 34) = x := ⟨_, rfl⟩
  try rw [hr] at ⊢
  rw [hw2] at HP1
  try rw [hw2] at ⊢
  clear hw2 hr HT1
  go_wp2_with fail
  go_loopw [23] (fun u wx => ∃ (wr : World) (j : Nat), wr = wx ∧ j ≤ n ∧ u = .int .i64 (j : Int) ∧ Hid (Pair w wr a l r (Chk.run [] (ops.take j)) (fun _ => False))) (fun u _ => n - (intOf u).toNat)
  case atStart => exact ⟨_, 0, rfl, Nat.zero_le _, rfl, HP1⟩
  case round =>
    obtain ⟨wr, j, rfl, hj, rfl, HTJ⟩ := hrel
    by_cases hlt : j < n
    · have hjl : j < ops.length := by rw [HO.out.len]; exact hlt
      have hbr := HTJ.out.b
      obtain ⟨b, off, rfl, hbb, hrg⟩ := HO.out.rd.elem (f := opL) (fun _ _ => rfl) hjl hlt
      have hpr := HO.out.pr ops[j] (List.getElem_mem hjl)
      have hst := run_take hjl []
      obtain ⟨o, ho⟩ : ∃ o, ops[j] = o := ⟨_, rfl⟩
      rw [ho] at hrg hpr hst
      have hrw : wr.rangeAt b (off + j * 9) (opL o) := fun q u hq => (hbr.cell (p := ⟨b, off + j * 9 + q, none⟩) hbb).trans (hrg q u hq)
      have HDO := Lib.hid (fun (W : World) (hW : Below wr.heap.size wr W) => (HTJ.out.below hW).rdo_ o hpr)
      rw [← hst] at HDO
      obtain ⟨os, hos⟩ : ∃ os, opL o = os := ⟨_, rfl⟩
      have HOV : Hid (opV o = .agg os.toArray) := Lib.hid (by rw [← hos]; rfl)
      rw [HOV.out] at HDO
      rw [hos] at hrw
      have HLN := Lib.hid (show os.length = 9 by rw [← hos]; rfl)
      have HON := Lib.hid (show os.all (·.oneCell') = true by rw [← hos]; rfl)
      have e1 : (0 : Int) ≤ (j : Int) := by omega
      have e2 : (j : Int) < (n : Int) := by omega
      clear hjl hbr hbb hrg hpr hst ho hos
      go_upto_region 8 with (first
        | (refine wpList_load_mid rfl _ (.tmp 25) rfl b (off + j * 9) rfl os _ hrw Try.underlying37 rfl (by rw [HLN.out]; exact sizeOp) ?_)
        | (refine wpList_allocRow rfl _ rfl _ infoOp ?_; intro w13 rz3 b13 z3; clear z3)
        | (refine wpList_storeRow rfl _ (.tmp 7) (.tmp 26) rfl (l' := os) rz3 rfl rfl (by rw [HLN.out]; exact sizeOp) (by rw [HLN.out]; rfl) HON.out ?_; intro w14 rz4 g4 z4; clear z4))
      have hb4 : Below wr.heap.size wr w14 := b13.grown g4 b13.size (fun i hi => by have := Option.some.inj hi; omega)
      obtain ⟨b6, hb6⟩ : ∃ y, wr.heap.size = y := ⟨_, rfl⟩
      rw [hb6] at rz4 ⊢
      have hr4 : w14.rangeAt b6 0 os := fun q u hu => by rw [Nat.zero_add, rz4.cell]; exact hu
      have HD4 := Lib.hid (HDO.out w14 hb4)
      clear rz3 b13 g4 hrw hb4 hb6 rz4
      try simp only [Act.put, List.setIfInBounds_toArray, List.set_cons_zero, List.set_cons_succ]
      go_wp2_with (first
        | (refine wpList_load_mid rfl _ (.tmp 7) rfl b6 0 rfl os _ hr4 Try.underlying37 rfl (by rw [HLN.out]; exact sizeOp) ?_)
        | (go_at_call 13; refine HD4.out.mono ?_; rintro e w15 ⟨rfl, h5, s5⟩; have HT5 := Lib.hid h5; clear h5 s5))
      go_roundw
      case rel => exact ⟨_, j + 1, rfl, by omega, by go_num, HT5⟩
      case measure => simp [intOf]; omega
    · obtain rfl : j = n := by omega
      have hE : Chk.run [] (ops.take j) = l := by rw [List.take_of_length_le (by rw [HO.out.len]; exact Nat.le_refl _)]; exact HLL.out
      rw [hE] at HTJ
      clear hE
      have hinv := HTJ.out.left.inv
      obtain ⟨X, hX⟩ : ∃ X, Chk.encT l = X := ⟨_, rfl⟩
      obtain ⟨nX, hnX⟩ : ∃ nX, X.length = nX := ⟨_, rfl⟩
      obtain ⟨sX, hsX⟩ : ∃ sX : ByteArray, ⟨X.toArray⟩ = sX := ⟨_, rfl⟩
      have hXL := encT_len hinv
      rw [hX, hnX] at hXL
      have HX := Lib.hid (And.intro hX (And.intro hnX hXL))
      have HDT : Hid (Chk.decT X = .inl l) := Lib.hid (by rw [← hX]; exact Chk.decT_enc hinv)
      have HCV : Hid (∀ (W : World) (A : Option Addr) (c : Nat), W.ownsRow 0 5 1 (.slice A nX c) nX (bvs X) → (convert 70 9 (.slice A nX c)).run Try.prog W = .ok (.string sX) W) := Lib.hid (fun W A c h => by
        have := run_toS (P := Try.prog) W 70 9 5 Try.underlying70 Try.underlying5 Try.underlying9 A nX c W.heap.size X (Rd.of_own h)
        rwa [hsX] at this)
      clear hinv hX hnX hsX hXL
      go_upto_region 11 with (go_at_call 36; refine ((HTJ.out.left).encode_ X HX.out.1).mono ?_; rintro e w3 ⟨A3, c3, rfl, own3, b3⟩; rw [HX.out.2.1] at own3 ⊢; have HO3 := Lib.hid (And.intro own3 b3); clear own3 b3)
      have HDC := Lib.hid (pdecode_any X A3 nX c3 HX.out.2.1 HX.out.2.2 (own_cap HO3.out.1).1 (own_cap HO3.out.1).2 w3 (Rd.of_own HO3.out.1))
      rw [HDT.out] at HDC
      have HDC2 : Hid (Calls Try.prog 37 #[.slice A3 nX c3] w3 fun e w' => ∃ au, e = .returned (.tuple #[.pointer (some ⟨au, 0, none⟩), .int .i64 0]) ∧ TabNew w3 w' au l) := Lib.hid (HDC.out.mono fun e w' h => by
        rcases h.2 with ⟨l2, au, h1, h2, h3⟩ | ⟨er, h1, _⟩
        · obtain rfl := Sum.inl.inj h1; exact ⟨au, h2, h3⟩
        · cases h1)
      clear HDC
      go_upto_region 12 with (go_at_call 37; refine HDC2.out.mono ?_; rintro e w4 ⟨au, rfl, h4⟩; have HT4 := Lib.hid h4; clear h4)
      have hb34 : Below w3.heap.size w3 w4 := HT4.out.g.b
      have HP4 := Lib.hid ((HTJ.out.below HO3.out.2).below hb34)
      have HO4 := Lib.hid (own_below HO3.out.1 hb34)
      have HSM := Lib.hid (fun W (hW : Below w4.heap.size w4 W) => show Calls Try.prog 29 #[.pointer (some ⟨au, 0, none⟩), .pointer (some ⟨r, 0, none⟩)] W fun e w' => e = .returned (.bool true) ∧ Below W.heap.size W w' from by
        obtain ⟨F, S, t, hr⟩ := (HP4.out.below hW).right
        exact same_any (HT4.out.g.below hW) hr)
      have HER := Lib.hid (fun W (hW : Below w4.heap.size w4 W) => show Calls Try.prog 39 #[.pointer (some ⟨r, 0, none⟩)] W (ChkEncRes W X) from by
        obtain ⟨F, S, t, hr⟩ := (HP4.out.below hW).right
        rw [← HX.out.1]; exact rencode_any hr)
      have HEU := Lib.hid (fun W (hW : Below w4.heap.size w4 W) => (HT4.out.g.below hW).encode_ X HX.out.1)
      have HB4 := Lib.hid HP4.out.b
      clear hb34 HTJ HO3 HT4 HDC2 HP4 HDT
      have hv0 : Below w4.heap.size w4 w4.drew := (Below.refl _ _).drew
      refine wp_region_held_drew (S := fun W => Below w4.heap.size w4 W) (by kernel_rfl) (hv0) (fun hHeld => ?_)
      refine wpAnyH_ready (rs := [0]) (by kernel_rfl) (by simp) ?_
      refine AllReadyH.cons (o := { dst := some 38, op := Op.call { callee := Callee.value (Operand.func 12), args := #[], argTypes := #[] }, type := 4, pos := "law.go:219", after := #[], guard := none }) rfl (fun K hK => ?_) AllReadyH.nil
      go_simp
      refine (HSN.out _).mono ?_
      rintro e w40 ⟨rfl, b40⟩
      have hv40 : Below w4.heap.size w4 w40 := (hv0).trans (b40.mono (hv0).size)
      clear b40
      refine hK.out _ _ (hv40) (fun hHeld => ?_)
      clear hK K
      try simp only [Act.put, List.setIfInBounds_toArray, List.set_cons_zero, List.set_cons_succ]
      refine wpAnyH_take (i := 1) (oi := { dst := some 39, op := Op.move (Operand.tmp 38), type := 4, pos := "law.go:219", after := #[{ on := 0, ground := Ground.data }, { on := 0, ground := Ground.chain }], guard := none }) (v := ?v1_1) rfl (by kernel_rfl) (by kernel_rfl) (by kernel_rfl) (fun _ _ _ h => h) (Or.inl ⟨by rfl, ?h1_1⟩) (by assumption) ?r1_1
      case h1_1 =>
        intro W hSW
        try dsimp only at hSW
        go_simp
        try with_reducible rfl
      try simp only [Act.put, List.setIfInBounds_toArray, List.set_cons_zero, List.set_cons_succ]
      refine wpAnyH_take (i := 2) (oi := { dst := some 40, op := Op.move (Operand.tmp 8), type := 70, pos := "law.go:219", after := #[{ on := 1, ground := Ground.guard }], guard := some (1, true) }) (v := ?v2_2) rfl (by kernel_rfl) (by kernel_rfl) (by kernel_rfl) (fun _ _ _ h => h) (Or.inl ⟨by rfl, ?h2_2⟩) (by assumption) ?r2_2
      case h2_2 =>
        intro W hSW
        try dsimp only at hSW
        go_simp
        try with_reducible rfl
      try simp only [Act.put, List.setIfInBounds_toArray, List.set_cons_zero, List.set_cons_succ]
      refine wpAnyH_take (i := 3) (oi := { dst := some 41, op := Op.convert 70 9 (Operand.tmp 40), type := 9, pos := "law.go:219", after := #[{ on := 2, ground := Ground.data }, { on := 1, ground := Ground.guard }], guard := some (1, true) }) (v := ?v3_3) rfl (by kernel_rfl) (by kernel_rfl) (by kernel_rfl) (fun _ _ _ h => h) (Or.inl ⟨by rfl, ?h3_3⟩) (by assumption) ?r3_3
      case h3_3 =>
        intro W hSW
        try dsimp only at hSW
        have cv := HCV.out W A3 c3 (own_base (own_below HO4.out hSW) (Nat.zero_le _))
        go_simp
        try with_reducible rfl
      try simp only [Act.put, List.setIfInBounds_toArray, List.set_cons_zero, List.set_cons_succ]
      refine wpAnyH_take (i := 4) (oi := { dst := some 42, op := Op.move (Operand.tmp 5), type := 31, pos := "law.go:219", after := #[{ on := 1, ground := Ground.guard }], guard := some (1, true) }) (v := ?v4_4) rfl (by kernel_rfl) (by kernel_rfl) (by kernel_rfl) (fun _ _ _ h => h) (Or.inl ⟨by rfl, ?h4_4⟩) (by assumption) ?r4_4
      case h4_4 =>
        intro W hSW
        try dsimp only at hSW
        go_simp
        try with_reducible rfl
      try simp only [Act.put, List.setIfInBounds_toArray, List.set_cons_zero, List.set_cons_succ]
      refine wpAnyH_ready (rs := [5]) (by kernel_rfl) (by simp) ?_
      refine AllReadyH.cons (o := { dst := some 43, op := Op.call { callee := Callee.value (Operand.func 39), args := #[Operand.tmp 42], argTypes := #[31] }, type := 70, pos := "law.go:219", after := #[{ on := 4, ground := Ground.data }, { on := 1, ground := Ground.chain }, { on := 1, ground := Ground.guard }], guard := some (1, true) }) rfl (fun K hK => ?_) AllReadyH.nil
      go_simp
      refine (HER.out _ hv40).mono ?_
      rintro e w41 ⟨Ap, cp, rfl, ownp, b41⟩
      rw [HX.out.2.1] at ownp ⊢
      have hv41 : Below w4.heap.size w4 w41 := (hv40).trans (b41.mono (hv40).size)
      have HOp := Lib.hid ownp
      clear b41 ownp
      refine hK.out _ _ (hv41) (fun hHeld => ?_)
      clear hK K
      try simp only [Act.put, List.setIfInBounds_toArray, List.set_cons_zero, List.set_cons_succ]
      refine wpAnyH_ready (rs := [6]) (by kernel_rfl) (by simp) ?_
      refine AllReadyH.cons (o := { dst := some 44, op := Op.convert 70 9 (Operand.tmp 43), type := 9, pos := "law.go:219", after := #[{ on := 5, ground := Ground.data }, { on := 1, ground := Ground.guard }], guard := some (1, true) }) rfl (fun K hK => ?_) AllReadyH.nil
      rw [if_pos (by rfl)]
      have cv := HCV.out w41 Ap cp (own_base HOp.out (Nat.zero_le _))
      go_simp
      clear cv
      refine hK.out _ _ (hv41) (fun hHeld => ?_)
      clear hK K
      try simp only [Act.put, List.setIfInBounds_toArray, List.set_cons_zero, List.set_cons_succ]
      refine wpAnyH_take (i := 7) (oi := { dst := some 45, op := Op.binOp BinOp.eql 9 (Operand.tmp 41) (Operand.tmp 44) 9, type := 4, pos := "law.go:219", after := #[{ on := 3, ground := Ground.data }, { on := 6, ground := Ground.data }, { on := 1, ground := Ground.guard }], guard := some (1, true) }) (v := ?v7_5) rfl (by kernel_rfl) (by kernel_rfl) (by kernel_rfl) (fun _ _ _ h => h) (Or.inl ⟨by rfl, ?h7_5⟩) (by assumption) ?r7_5
      case h7_5 =>
        intro W hSW
        try dsimp only at hSW
        go_simp
        try with_reducible rfl
      try simp only [Act.put, List.setIfInBounds_toArray, List.set_cons_zero, List.set_cons_succ]
      refine wpAnyH_take (i := 8) (oi := { dst := some 46, op := Op.pick (Operand.tmp 39) (Operand.tmp 45) (Operand.const (Value.bool false)), type := 4, pos := "law.go:219", after := #[{ on := 1, ground := Ground.data }, { on := 7, ground := Ground.data }], guard := none }) (v := ?v8_6) rfl (by kernel_rfl) (by kernel_rfl) (by kernel_rfl) (fun _ _ _ h => h) (Or.inl ⟨by rfl, ?h8_6⟩) (by assumption) ?r8_6
      case h8_6 =>
        intro W hSW
        try dsimp only at hSW
        go_simp
        try with_reducible rfl
      try simp only [Act.put, List.setIfInBounds_toArray, List.set_cons_zero, List.set_cons_succ]
      refine wpAnyH_take (i := 9) (oi := { dst := some 47, op := Op.move (Operand.tmp 46), type := 4, pos := "law.go:219", after := #[{ on := 8, ground := Ground.data }, { on := 5, ground := Ground.chain }], guard := none }) (v := ?v9_7) rfl (by kernel_rfl) (by kernel_rfl) (by kernel_rfl) (fun _ _ _ h => h) (Or.inl ⟨by rfl, ?h9_7⟩) (by assumption) ?r9_7
      case h9_7 =>
        intro W hSW
        try dsimp only at hSW
        go_simp
        try with_reducible rfl
      try simp only [Act.put, List.setIfInBounds_toArray, List.set_cons_zero, List.set_cons_succ]
      refine wpAnyH_take (i := 10) (oi := { dst := some 48, op := Op.move (Operand.tmp 10), type := 38, pos := "law.go:219", after := #[{ on := 9, ground := Ground.guard }], guard := some (9, true) }) (v := ?v10_8) rfl (by kernel_rfl) (by kernel_rfl) (by kernel_rfl) (fun _ _ _ h => h) (Or.inl ⟨by rfl, ?h10_8⟩) (by assumption) ?r10_8
      case h10_8 =>
        intro W hSW
        try dsimp only at hSW
        go_simp
        try with_reducible rfl
      try simp only [Act.put, List.setIfInBounds_toArray, List.set_cons_zero, List.set_cons_succ]
      refine wpAnyH_take (i := 11) (oi := { dst := some 49, op := Op.binOp BinOp.eql 38 (Operand.tmp 48) (Operand.const (Value.int IntKind.i64 0)) 38, type := 4, pos := "law.go:219", after := #[{ on := 10, ground := Ground.data }, { on := 9, ground := Ground.guard }], guard := some (9, true) }) (v := ?v11_9) rfl (by kernel_rfl) (by kernel_rfl) (by kernel_rfl) (fun _ _ _ h => h) (Or.inl ⟨by rfl, ?h11_9⟩) (by assumption) ?r11_9
      case h11_9 =>
        intro W hSW
        try dsimp only at hSW
        go_simp
        try with_reducible rfl
      try simp only [Act.put, List.setIfInBounds_toArray, List.set_cons_zero, List.set_cons_succ]
      refine wpAnyH_take (i := 12) (oi := { dst := some 50, op := Op.pick (Operand.tmp 47) (Operand.tmp 49) (Operand.const (Value.bool false)), type := 4, pos := "law.go:219", after := #[{ on := 9, ground := Ground.data }, { on := 11, ground := Ground.data }], guard := none }) (v := ?v12_10) rfl (by kernel_rfl) (by kernel_rfl) (by kernel_rfl) (fun _ _ _ h => h) (Or.inl ⟨by rfl, ?h12_10⟩) (by assumption) ?r12_10
      case h12_10 =>
        intro W hSW
        try dsimp only at hSW
        go_simp
        try with_reducible rfl
      try simp only [Act.put, List.setIfInBounds_toArray, List.set_cons_zero, List.set_cons_succ]
      refine wpAnyH_take (i := 13) (oi := { dst := some 51, op := Op.move (Operand.tmp 50), type := 4, pos := "law.go:219", after := #[{ on := 12, ground := Ground.data }, { on := 9, ground := Ground.chain }], guard := none }) (v := ?v13_11) rfl (by kernel_rfl) (by kernel_rfl) (by kernel_rfl) (fun _ _ _ h => h) (Or.inl ⟨by rfl, ?h13_11⟩) (by assumption) ?r13_11
      case h13_11 =>
        intro W hSW
        try dsimp only at hSW
        go_simp
        try with_reducible rfl
      try simp only [Act.put, List.setIfInBounds_toArray, List.set_cons_zero, List.set_cons_succ]
      refine wpAnyH_take (i := 14) (oi := { dst := some 52, op := Op.move (Operand.tmp 9), type := 27, pos := "law.go:219", after := #[{ on := 13, ground := Ground.guard }], guard := some (13, true) }) (v := ?v14_12) rfl (by kernel_rfl) (by kernel_rfl) (by kernel_rfl) (fun _ _ _ h => h) (Or.inl ⟨by rfl, ?h14_12⟩) (by assumption) ?r14_12
      case h14_12 =>
        intro W hSW
        try dsimp only at hSW
        go_simp
        try with_reducible rfl
      try simp only [Act.put, List.setIfInBounds_toArray, List.set_cons_zero, List.set_cons_succ]
      refine wpAnyH_take (i := 15) (oi := { dst := some 53, op := Op.move (Operand.tmp 5), type := 31, pos := "law.go:219", after := #[{ on := 13, ground := Ground.guard }], guard := some (13, true) }) (v := ?v15_13) rfl (by kernel_rfl) (by kernel_rfl) (by kernel_rfl) (fun _ _ _ h => h) (Or.inl ⟨by rfl, ?h15_13⟩) (by assumption) ?r15_13
      case h15_13 =>
        intro W hSW
        try dsimp only at hSW
        go_simp
        try with_reducible rfl
      try simp only [Act.put, List.setIfInBounds_toArray, List.set_cons_zero, List.set_cons_succ]
      refine wpAnyH_ready (rs := [16]) (by kernel_rfl) (by simp) ?_
      refine AllReadyH.cons (o := { dst := some 54, op := Op.call { callee := Callee.value (Operand.func 29), args := #[Operand.tmp 52, Operand.tmp 53], argTypes := #[27, 31] }, type := 4, pos := "law.go:219", after := #[{ on := 14, ground := Ground.data }, { on := 15, ground := Ground.data }, { on := 13, ground := Ground.chain }, { on := 13, ground := Ground.guard }], guard := some (13, true) }) rfl (fun K hK => ?_) AllReadyH.nil
      go_simp
      refine (HSM.out _ hv41).mono ?_
      rintro e w43 ⟨rfl, b43⟩
      have hv43 : Below w4.heap.size w4 w43 := (hv41).trans (b43.mono (hv41).size)
      clear b43
      refine hK.out _ _ (hv43) (fun hHeld => ?_)
      clear hK K
      try simp only [Act.put, List.setIfInBounds_toArray, List.set_cons_zero, List.set_cons_succ]
      refine wpAnyH_take (i := 17) (oi := { dst := some 55, op := Op.pick (Operand.tmp 51) (Operand.tmp 54) (Operand.const (Value.bool false)), type := 4, pos := "law.go:219", after := #[{ on := 13, ground := Ground.data }, { on := 16, ground := Ground.data }], guard := none }) (v := ?v17_14) rfl (by kernel_rfl) (by kernel_rfl) (by kernel_rfl) (fun _ _ _ h => h) (Or.inl ⟨by rfl, ?h17_14⟩) (by assumption) ?r17_14
      case h17_14 =>
        intro W hSW
        try dsimp only at hSW
        go_simp
        try with_reducible rfl
      try simp only [Act.put, List.setIfInBounds_toArray, List.set_cons_zero, List.set_cons_succ]
      refine wpAnyH_take (i := 18) (oi := { dst := some 56, op := Op.move (Operand.tmp 55), type := 4, pos := "law.go:219", after := #[{ on := 17, ground := Ground.data }, { on := 16, ground := Ground.chain }], guard := none }) (v := ?v18_15) rfl (by kernel_rfl) (by kernel_rfl) (by kernel_rfl) (fun _ _ _ h => h) (Or.inl ⟨by rfl, ?h18_15⟩) (by assumption) ?r18_15
      case h18_15 =>
        intro W hSW
        try dsimp only at hSW
        go_simp
        try with_reducible rfl
      try simp only [Act.put, List.setIfInBounds_toArray, List.set_cons_zero, List.set_cons_succ]
      refine wpAnyH_take (i := 19) (oi := { dst := some 57, op := Op.move (Operand.tmp 9), type := 27, pos := "law.go:219", after := #[{ on := 18, ground := Ground.guard }], guard := some (18, true) }) (v := ?v19_16) rfl (by kernel_rfl) (by kernel_rfl) (by kernel_rfl) (fun _ _ _ h => h) (Or.inl ⟨by rfl, ?h19_16⟩) (by assumption) ?r19_16
      case h19_16 =>
        intro W hSW
        try dsimp only at hSW
        go_simp
        try with_reducible rfl
      try simp only [Act.put, List.setIfInBounds_toArray, List.set_cons_zero, List.set_cons_succ]
      refine wpAnyH_take (i := 22) (oi := { dst := some 60, op := Op.move (Operand.tmp 8), type := 70, pos := "law.go:219", after := #[{ on := 18, ground := Ground.guard }], guard := some (18, true) }) (v := ?v22_17) rfl (by kernel_rfl) (by kernel_rfl) (by kernel_rfl) (fun _ _ _ h => h) (Or.inl ⟨by rfl, ?h22_17⟩) (by assumption) ?r22_17
      case h22_17 =>
        intro W hSW
        try dsimp only at hSW
        go_simp
        try with_reducible rfl
      try simp only [Act.put, List.setIfInBounds_toArray, List.set_cons_zero, List.set_cons_succ]
      refine wpAnyH_take (i := 23) (oi := { dst := some 61, op := Op.convert 70 9 (Operand.tmp 60), type := 9, pos := "law.go:219", after := #[{ on := 22, ground := Ground.data }, { on := 18, ground := Ground.guard }], guard := some (18, true) }) (v := ?v23_18) rfl (by kernel_rfl) (by kernel_rfl) (by kernel_rfl) (fun _ _ _ h => h) (Or.inl ⟨by rfl, ?h23_18⟩) (by assumption) ?r23_18
      case h23_18 =>
        intro W hSW
        try dsimp only at hSW
        have cv := HCV.out W A3 c3 (own_base (own_below HO4.out hSW) (Nat.zero_le _))
        go_simp
        try with_reducible rfl
      try simp only [Act.put, List.setIfInBounds_toArray, List.set_cons_zero, List.set_cons_succ]
      refine wpAnyH_ready (rs := [20]) (by kernel_rfl) (by simp) ?_
      refine AllReadyH.cons (o := { dst := some 58, op := Op.call { callee := Callee.value (Operand.func 36), args := #[Operand.tmp 57], argTypes := #[27] }, type := 70, pos := "law.go:219", after := #[{ on := 19, ground := Ground.data }, { on := 18, ground := Ground.chain }, { on := 18, ground := Ground.guard }], guard := some (18, true) }) rfl (fun K hK => ?_) AllReadyH.nil
      go_simp
      refine (HEU.out _ hv43).mono ?_
      rintro e w44 ⟨Aq, cq, rfl, ownq, b44⟩
      rw [HX.out.2.1] at ownq ⊢
      have hv44 : Below w4.heap.size w4 w44 := (hv43).trans (b44.mono (hv43).size)
      have HOq := Lib.hid ownq
      clear b44 ownq
      refine hK.out _ _ (hv44) (fun hHeld => ?_)
      clear hK K
      try simp only [Act.put, List.setIfInBounds_toArray, List.set_cons_zero, List.set_cons_succ]
      refine wpAnyH_ready (rs := [21]) (by kernel_rfl) (by simp) ?_
      refine AllReadyH.cons (o := { dst := some 59, op := Op.convert 70 9 (Operand.tmp 58), type := 9, pos := "law.go:219", after := #[{ on := 20, ground := Ground.data }, { on := 18, ground := Ground.guard }], guard := some (18, true) }) rfl (fun K hK => ?_) AllReadyH.nil
      rw [if_pos (by rfl)]
      have cv := HCV.out w44 Aq cq (own_base HOq.out (Nat.zero_le _))
      go_simp
      clear cv
      refine hK.out _ _ (hv44) (fun hHeld => ?_)
      clear hK K
      try simp only [Act.put, List.setIfInBounds_toArray, List.set_cons_zero, List.set_cons_succ]
      refine wpAnyH_take (i := 24) (oi := { dst := some 62, op := Op.binOp BinOp.eql 9 (Operand.tmp 59) (Operand.tmp 61) 9, type := 4, pos := "law.go:219", after := #[{ on := 21, ground := Ground.data }, { on := 23, ground := Ground.data }, { on := 18, ground := Ground.guard }], guard := some (18, true) }) (v := ?v24_19) rfl (by kernel_rfl) (by kernel_rfl) (by kernel_rfl) (fun _ _ _ h => h) (Or.inl ⟨by rfl, ?h24_19⟩) (by assumption) ?r24_19
      case h24_19 =>
        intro W hSW
        try dsimp only at hSW
        go_simp
        try with_reducible rfl
      try simp only [Act.put, List.setIfInBounds_toArray, List.set_cons_zero, List.set_cons_succ]
      refine wpAnyH_take (i := 25) (oi := { dst := some 63, op := Op.pick (Operand.tmp 56) (Operand.tmp 62) (Operand.const (Value.bool false)), type := 4, pos := "law.go:219", after := #[{ on := 18, ground := Ground.data }, { on := 24, ground := Ground.data }], guard := none }) (v := ?v25_20) rfl (by kernel_rfl) (by kernel_rfl) (by kernel_rfl) (fun _ _ _ h => h) (Or.inl ⟨by rfl, ?h25_20⟩) (by assumption) ?r25_20
      case h25_20 =>
        intro W hSW
        try dsimp only at hSW
        go_simp
        try with_reducible rfl
      try simp only [Act.put, List.setIfInBounds_toArray, List.set_cons_zero, List.set_cons_succ]
      refine wpAnyH_take (i := 26) (oi := { dst := some 2, op := Op.assign (Operand.tmp 63), type := 4, pos := "law.go:219", after := #[{ on := 25, ground := Ground.data }, { on := 20, ground := Ground.chain }, { on := 0, ground := Ground.phase }, { on := 1, ground := Ground.phase }, { on := 2, ground := Ground.phase }, { on := 3, ground := Ground.phase }, { on := 4, ground := Ground.phase }, { on := 5, ground := Ground.phase }, { on := 6, ground := Ground.phase }, { on := 7, ground := Ground.phase }, { on := 8, ground := Ground.phase }, { on := 9, ground := Ground.phase }, { on := 10, ground := Ground.phase }, { on := 11, ground := Ground.phase }, { on := 12, ground := Ground.phase }, { on := 13, ground := Ground.phase }, { on := 14, ground := Ground.phase }, { on := 15, ground := Ground.phase }, { on := 16, ground := Ground.phase }, { on := 17, ground := Ground.phase }, { on := 18, ground := Ground.phase }, { on := 19, ground := Ground.phase }, { on := 20, ground := Ground.phase }, { on := 21, ground := Ground.phase }, { on := 22, ground := Ground.phase }, { on := 23, ground := Ground.phase }, { on := 24, ground := Ground.phase }, { on := 25, ground := Ground.phase }], guard := none }) (v := ?v26_21) rfl (by kernel_rfl) (by kernel_rfl) (by kernel_rfl) (fun _ _ _ h => h) (Or.inl ⟨by rfl, ?h26_21⟩) (by assumption) ?r26_21
      case h26_21 =>
        intro W hSW
        try dsimp only at hSW
        go_simp
        try with_reducible rfl
      try simp only [Act.put, List.setIfInBounds_toArray, List.set_cons_zero, List.set_cons_succ]
      refine wpAnyH_done (by kernel_rfl) ?_ _
      have HBW := Lib.hid hv44
      go_wp2_with fail
      go_ret
      exact ⟨rfl, HB4.out.trans (HBW.out.mono HB4.out.size)⟩

end Go.Proofs.Ytcicfneekmbamaa
