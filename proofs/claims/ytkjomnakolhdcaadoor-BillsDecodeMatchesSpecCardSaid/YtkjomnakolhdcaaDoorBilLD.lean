/- The walk of BillsDecodeMatchesSpec: it returns true. Conditions: what the argument is, the tables of SHA-256. -/
import Derived.Test.YtkjomnakolhdcaaDoorBilDe
import Derived.Test.YtkjomnakolhdcaaDoorBilVA
import Derived.Test.YtkjomnakolhdcaaDoorBilQT
namespace Go.Proofs.YtkjomnakolhdcaaDoor
set_option linter.unusedVariables false
set_option linter.unusedSimpArgs false
open Go.RowKit
theorem rdecRes_err {w w' : World} {er : Int} {e : Ending} (h : RDecRes w (.inr er) e w') : Below w.heap.size w w' ∧ (er != 0) = true ∧ e = .returned (.tuple #[.pointer none, .int .i64 er]) := by
  obtain ⟨b, ⟨l, bl, col, m, h1, _⟩ | ⟨e', h1, h2, h3⟩⟩ := h
  · cases h1
  · cases h1; exact ⟨b, by rw [bne_iff_ne]; exact h2, h3⟩
theorem decRes_err {w w' : World} {er : Int} {e : Ending} (h : DecRes w (.inr er) e w') : Below w.heap.size w w' ∧ (er != 0) = true ∧ e = .returned (.tuple #[.pointer none, .int .i64 er]) := by
  obtain ⟨b, ⟨l, bl, col, m, h1, _⟩ | ⟨e', h1, h2, h3⟩⟩ := h
  · cases h1
  · cases h1; exact ⟨b, by rw [bne_iff_ne]; exact h2, h3⟩
set_option maxRecDepth 100000 in
set_option maxHeartbeats 3200000 in
theorem lawDec (A : Option Addr) (n c : Nat) (b : List UInt8) (hb : b.length = n) (hnc : n ≤ c) (hcc : c ≤ 140737488355328) (w : World) (rd : Rd w w.heap.size 1 A n (bvs b)) (hT : Tabs w) :
    Calls Tryd.prog 8 #[.slice A n c] w fun e w' => e = .returned (.bool true) ∧ Below w.heap.size w w' := by
  have HS := Lib.hid (sanity_any w hT (RG.of hT))
  by_cases hn : 1500 < n
  · have hn' : (1500 : Int) < (n : Int) := by omega
    clear hn rd hT hb hnc hcc
    go_enter Tryd.func8, Tryd.ntmps8
    go_wp2_with (go_at_call 9; refine HS.out.mono ?_; rintro e w1 ⟨rfl, b1⟩)
    go_ret
    exact ⟨rfl, b1⟩
  · have hn' : ¬ ((1500 : Int) < (n : Int)) := by omega
    have hcm : c ≤ maxLen := by unfold maxLen; omega
    have hts := And.intro hT.k.lt (And.intro hT.s.lt (show 1 < w.heap.size by have h := hT.k.lt; have h2 : 2 < w.heap.size := h; omega))
    have HPD := Lib.hid (fun W (hW : Below w.heap.size w W) => pdecode_any b A n c hb (by omega) hnc hcm W ((rd.below hW).more hW.size) (by have := hW.size; have := hts; omega))
    have HRD := Lib.hid (fun W (hW : Below w.heap.size w W) => rdecode_any b A n c hb (by omega) hnc hcm W ((rd.below hW).more hW.size) (by have := hW.size; have := hts; omega))
    have HDO := Lib.hid (fun l (h : Bil.dec b = .inl l) => Bil.dec_ok h)
    have HRB := Lib.hid (fun W (hW : Below w.heap.size w W) => rd.below hW)
    obtain ⟨R, hR'⟩ : ∃ R, Bil.dec b = R := ⟨_, rfl⟩
    rw [hR'] at HPD HRD HDO
    clear hn rd hT hb hnc hcc hcm hts hR'
    cases R with
    | inr er =>
      have hne : (er != er) = false := by simp
      go_enter Tryd.func8, Tryd.ntmps8
      go_wp2_with (first
        | (go_at_call 9; refine HS.out.mono ?_; rintro e w1 ⟨rfl, b1⟩; have HB1 := Lib.hid b1; clear b1)
        | (go_at_call 27; refine (HPD.out w1 HB1.out).mono ?_; intro e w2 hh; obtain ⟨b2, hne0, rfl⟩ := decRes_err hh; have HB2 := Lib.hid (HB1.out.trans (b2.mono HB1.out.size)); clear b2 hh)
        | (go_at_call 28; refine (HRD.out w2 HB2.out).mono ?_; intro e w3 hh; obtain ⟨b3, hne1, rfl⟩ := rdecRes_err hh; have HB3 := Lib.hid (HB2.out.trans (b3.mono HB2.out.size)); clear b3 hh))
      go_ret
      exact ⟨rfl, HB3.out⟩
    | inl l =>
    go_enter Tryd.func8, Tryd.ntmps8
    go_upto_region 10 with (first
      | (go_at_call 9; refine HS.out.mono ?_; rintro e w1 ⟨rfl, b1⟩; have HB1 := Lib.hid b1; clear b1)
      | (go_at_call 27; refine (HPD.out w1 HB1.out).mono ?_; rintro e w2 ⟨b2, hh⟩; (obtain ⟨b_l, cl, ml, rfl, hl⟩ : ∃ bl cl ml, e = .returned (.tuple #[.pointer (some ⟨bl, 0, none⟩), .int .i64 0]) ∧ Hid (LAt w2 bl cl ml l) := hh.elim (fun ⟨l', bl, col, m, h1, h2, h3, h4⟩ => by cases h1; exact ⟨bl, col, m, h2, Lib.hid h3⟩) (fun ⟨e', h1, h2, h3⟩ => by cases h1)); have HB2 := Lib.hid (HB1.out.trans (b2.mono HB1.out.size)); clear b2 hh)
      | (go_at_call 28; refine (HRD.out w2 HB2.out).mono ?_; rintro e w3 ⟨b3, hh⟩; (obtain ⟨bt, ct, mt, rfl, ht⟩ : ∃ bl cl ml, e = .returned (.tuple #[.pointer (some ⟨bl, 0, none⟩), .int .i64 0]) ∧ Hid (RAt w3 bl cl ml l) := hh.elim (fun ⟨l', bl, col, m, h1, h2, h3, h4⟩ => by cases h1; exact ⟨bl, col, m, h2, Lib.hid h3⟩) (fun ⟨e', h1, h2, h3⟩ => by cases h1)); have HL3 := Lib.hid (hl.out.below b3); have HB3 := Lib.hid (HB2.out.trans (b3.mono HB2.out.size)); clear b3 hh))
    have hdo := HDO.out l rfl
    have HAL := Lib.hid (fun W (hW : Below w3.heap.size w3 W) => alike_any b_l cl ml bt ct mt l W (HL3.out.below hW) (ht.out.below hW) hdo.ok hdo.p hdo.q hdo.ke)
    have HEL := Lib.hid (fun W (hW : Below w3.heap.size w3 W) => encode_any b_l cl ml l W (HL3.out.below hW) hdo.p hdo.q hdo.ke)
    have HRB3 := Lib.hid (fun W (hW : Below w3.heap.size w3 W) => HRB.out W (HB3.out.trans (hW.mono HB3.out.size)))
    rw [hdo.en] at HEL
    clear hdo HRB HDO HPD HRD HS
    go_wp2_with fail
    have hv0 : Below w3.heap.size w3 w3.drew := (Below.refl _ _).drew
    refine wp_region_held_drew (S := fun W => Below w3.heap.size w3 W) (by kernel_rfl) (hv0) (fun hHeld => ?_)
    obtain ⟨wd, hwd⟩ : ∃ x, w3.drew = x := ⟨_, rfl⟩
    rw [hwd] at hv0 hHeld  ⊢
    clear hwd
    refine wpAnyH_take (i := 0) (oi := { dst := some 34, op := Op.move (Operand.tmp 4), type := 25, pos := "law.go:239", after := #[], guard := none }) (v := ?v0_1) rfl (by kernel_rfl) (by kernel_rfl) (by kernel_rfl) (fun _ _ _ h => h) (Or.inl ⟨by rfl, ?h0_1⟩) (by assumption) ?r0_1
    case h0_1 =>
      intro W hSW
      try dsimp only at hSW
      go_simp
      try with_reducible rfl
    try simp only [Act.put, List.setIfInBounds_toArray, List.set_cons_zero, List.set_cons_succ]
    refine wpAnyH_take (i := 1) (oi := { dst := some 35, op := Op.move (Operand.tmp 6), type := 40, pos := "law.go:239", after := #[], guard := none }) (v := ?v1_2) rfl (by kernel_rfl) (by kernel_rfl) (by kernel_rfl) (fun _ _ _ h => h) (Or.inl ⟨by rfl, ?h1_2⟩) (by assumption) ?r1_2
    case h1_2 =>
      intro W hSW
      try dsimp only at hSW
      go_simp
      try with_reducible rfl
    try simp only [Act.put, List.setIfInBounds_toArray, List.set_cons_zero, List.set_cons_succ]
    refine wpAnyH_ready (rs := [2]) (by kernel_rfl) (by simp) ?_
    refine AllReadyH.cons (o := { dst := some 36, op := Op.call { callee := Callee.value (Operand.func 22), args := #[Operand.tmp 34, Operand.tmp 35], argTypes := #[25, 40] }, type := 4, pos := "law.go:239", after := #[{ on := 0, ground := Ground.data }, { on := 1, ground := Ground.data }], guard := none }) rfl (fun K hK => ?_) AllReadyH.nil
    go_simp
    refine (HAL.out _ hv0).mono ?_
    rintro e w60 ⟨rfl, b60⟩
    have hv60 : Below w3.heap.size w3 w60 := hv0.trans (b60.mono hv0.size)
    have hcvb := run_toS w60 58 9 5 Tryd.underlying58 Tryd.underlying5 Tryd.underlying9 A n c _ b (HRB3.out w60 hv60)
    clear b60
    refine hK.out _ _ (hv60) (fun hHeld => ?_)
    clear hK K
    try simp only [Act.put, List.setIfInBounds_toArray, List.set_cons_zero, List.set_cons_succ]
    refine wpAnyH_take (i := 3) (oi := { dst := some 37, op := Op.move (Operand.tmp 36), type := 4, pos := "law.go:239", after := #[{ on := 2, ground := Ground.data }, { on := 2, ground := Ground.chain }], guard := none }) (v := ?v3_3) rfl (by kernel_rfl) (by kernel_rfl) (by kernel_rfl) (fun _ _ _ h => h) (Or.inl ⟨by rfl, ?h3_3⟩) (by assumption) ?r3_3
    case h3_3 =>
      intro W hSW
      try dsimp only at hSW
      go_simp
      try with_reducible rfl
    try simp only [Act.put, List.setIfInBounds_toArray, List.set_cons_zero, List.set_cons_succ]
    refine wpAnyH_take (i := 4) (oi := { dst := some 38, op := Op.move (Operand.tmp 4), type := 25, pos := "law.go:239", after := #[{ on := 3, ground := Ground.guard }], guard := some (3, true) }) (v := ?v4_4) rfl (by kernel_rfl) (by kernel_rfl) (by kernel_rfl) (fun _ _ _ h => h) (Or.inl ⟨by rfl, ?h4_4⟩) (by assumption) ?r4_4
    case h4_4 =>
      intro W hSW
      try dsimp only at hSW
      go_simp
      try with_reducible rfl
    try simp only [Act.put, List.setIfInBounds_toArray, List.set_cons_zero, List.set_cons_succ]
    refine wpAnyH_take (i := 7) (oi := { dst := some 41, op := Op.move (Operand.tmp 0), type := 58, pos := "law.go:239", after := #[{ on := 3, ground := Ground.guard }], guard := some (3, true) }) (v := ?v7_5) rfl (by kernel_rfl) (by kernel_rfl) (by kernel_rfl) (fun _ _ _ h => h) (Or.inl ⟨by rfl, ?h7_5⟩) (by assumption) ?r7_5
    case h7_5 =>
      intro W hSW
      try dsimp only at hSW
      go_simp
      try with_reducible rfl
    try simp only [Act.put, List.setIfInBounds_toArray, List.set_cons_zero, List.set_cons_succ]
    refine wpAnyH_ready (rs := [5, 8]) (by kernel_rfl) (by simp) ?_
    refine AllReadyH.cons (o := { dst := some 39, op := Op.call { callee := Callee.value (Operand.func 26), args := #[Operand.tmp 38], argTypes := #[25] }, type := 58, pos := "law.go:239", after := #[{ on := 4, ground := Ground.data }, { on := 3, ground := Ground.chain }, { on := 3, ground := Ground.guard }], guard := some (3, true) }) rfl (fun K hK => ?_) ?_
    · skip
      go_simp
      refine (HEL.out _ hv60).mono ?_
      rintro e w61 ⟨A1_, n1, c1_, rfl, hn1, rd1, b61⟩
      have hv61 : Below w3.heap.size w3 w61 := hv60.trans (b61.mono hv60.size)
      have hcv1 := run_toS w61 58 9 5 Tryd.underlying58 Tryd.underlying5 Tryd.underlying9 A1_ n1 c1_ _ b rd1
      have hcvb2 := run_toS w61 58 9 5 Tryd.underlying58 Tryd.underlying5 Tryd.underlying9 A n c _ b (HRB3.out w61 hv61)
      clear b61 hn1
      refine hK.out _ _ (hv61) (fun hHeld => ?_)
      clear hK K
      try simp only [Act.put, List.setIfInBounds_toArray, List.set_cons_zero, List.set_cons_succ]
      refine wpAnyH_ready (rs := [6, 8]) (by kernel_rfl) (by simp) ?_
      refine AllReadyH.cons (o := { dst := some 40, op := Op.convert 58 9 (Operand.tmp 39), type := 9, pos := "law.go:239", after := #[{ on := 5, ground := Ground.data }, { on := 3, ground := Ground.guard }], guard := some (3, true) }) rfl (fun K hK => ?_) ?_
      · skip
        go_simp
        refine hK.out _ _ (hv61) (fun hHeld => ?_)
        clear hK K
        try simp only [Act.put, List.setIfInBounds_toArray, List.set_cons_zero, List.set_cons_succ]
        refine wpAnyH_ready (rs := [8]) (by kernel_rfl) (by simp) ?_
        refine AllReadyH.cons (o := { dst := some 42, op := Op.convert 58 9 (Operand.tmp 41), type := 9, pos := "law.go:239", after := #[{ on := 7, ground := Ground.data }, { on := 3, ground := Ground.guard }], guard := some (3, true) }) rfl (fun K hK => ?_) AllReadyH.nil
        go_simp
        refine hK.out _ _ (hv61) (fun hHeld => ?_)
        clear hK K
        try simp only [Act.put, List.setIfInBounds_toArray, List.set_cons_zero, List.set_cons_succ]
        refine wpAnyH_take (i := 9) (oi := { dst := some 43, op := Op.binOp BinOp.eql 9 (Operand.tmp 40) (Operand.tmp 42) 9, type := 4, pos := "law.go:239", after := #[{ on := 6, ground := Ground.data }, { on := 8, ground := Ground.data }, { on := 3, ground := Ground.guard }], guard := some (3, true) }) (v := ?v9_6) rfl (by kernel_rfl) (by kernel_rfl) (by kernel_rfl) (fun _ _ _ h => h) (Or.inl ⟨by rfl, ?h9_6⟩) (by assumption) ?r9_6
        case h9_6 =>
          intro W hSW
          try dsimp only at hSW
          go_simp
          try with_reducible rfl
        try simp only [Act.put, List.setIfInBounds_toArray, List.set_cons_zero, List.set_cons_succ]
        refine wpAnyH_take (i := 10) (oi := { dst := some 44, op := Op.pick (Operand.tmp 37) (Operand.tmp 43) (Operand.const (Value.bool false)), type := 4, pos := "law.go:239", after := #[{ on := 3, ground := Ground.data }, { on := 9, ground := Ground.data }], guard := none }) (v := ?v10_7) rfl (by kernel_rfl) (by kernel_rfl) (by kernel_rfl) (fun _ _ _ h => h) (Or.inl ⟨by rfl, ?h10_7⟩) (by assumption) ?r10_7
        case h10_7 =>
          intro W hSW
          try dsimp only at hSW
          go_simp
          try with_reducible rfl
        try simp only [Act.put, List.setIfInBounds_toArray, List.set_cons_zero, List.set_cons_succ]
        refine wpAnyH_take (i := 11) (oi := { dst := some 2, op := Op.assign (Operand.tmp 44), type := 4, pos := "law.go:239", after := #[{ on := 10, ground := Ground.data }, { on := 5, ground := Ground.chain }, { on := 0, ground := Ground.phase }, { on := 1, ground := Ground.phase }, { on := 2, ground := Ground.phase }, { on := 3, ground := Ground.phase }, { on := 4, ground := Ground.phase }, { on := 5, ground := Ground.phase }, { on := 6, ground := Ground.phase }, { on := 7, ground := Ground.phase }, { on := 8, ground := Ground.phase }, { on := 9, ground := Ground.phase }, { on := 10, ground := Ground.phase }], guard := none }) (v := ?v11_8) rfl (by kernel_rfl) (by kernel_rfl) (by kernel_rfl) (fun _ _ _ h => h) (Or.inl ⟨by rfl, ?h11_8⟩) (by assumption) ?r11_8
        case h11_8 =>
          intro W hSW
          try dsimp only at hSW
          go_simp
          try with_reducible rfl
        try simp only [Act.put, List.setIfInBounds_toArray, List.set_cons_zero, List.set_cons_succ]
        refine wpAnyH_done (by kernel_rfl) ?_ _
        have HVF := Lib.hid hv61
        clear hv61
        go_wp2_with fail
        go_ret
        exact ⟨by first | rfl | simp, HB3.out.trans (HVF.out.mono HB3.out.size)⟩
      · skip
        refine AllReadyH.cons (o := { dst := some 42, op := Op.convert 58 9 (Operand.tmp 41), type := 9, pos := "law.go:239", after := #[{ on := 7, ground := Ground.data }, { on := 3, ground := Ground.guard }], guard := some (3, true) }) rfl (fun K hK => ?_) AllReadyH.nil
        go_simp
        refine hK.out _ _ (hv61) (fun hHeld => ?_)
        clear hK K
        try simp only [Act.put, List.setIfInBounds_toArray, List.set_cons_zero, List.set_cons_succ]
        refine wpAnyH_ready (rs := [6]) (by kernel_rfl) (by simp) ?_
        refine AllReadyH.cons (o := { dst := some 40, op := Op.convert 58 9 (Operand.tmp 39), type := 9, pos := "law.go:239", after := #[{ on := 5, ground := Ground.data }, { on := 3, ground := Ground.guard }], guard := some (3, true) }) rfl (fun K hK => ?_) AllReadyH.nil
        go_simp
        refine hK.out _ _ (hv61) (fun hHeld => ?_)
        clear hK K
        try simp only [Act.put, List.setIfInBounds_toArray, List.set_cons_zero, List.set_cons_succ]
        refine wpAnyH_take (i := 9) (oi := { dst := some 43, op := Op.binOp BinOp.eql 9 (Operand.tmp 40) (Operand.tmp 42) 9, type := 4, pos := "law.go:239", after := #[{ on := 6, ground := Ground.data }, { on := 8, ground := Ground.data }, { on := 3, ground := Ground.guard }], guard := some (3, true) }) (v := ?v9_9) rfl (by kernel_rfl) (by kernel_rfl) (by kernel_rfl) (fun _ _ _ h => h) (Or.inl ⟨by rfl, ?h9_9⟩) (by assumption) ?r9_9
        case h9_9 =>
          intro W hSW
          try dsimp only at hSW
          go_simp
          try with_reducible rfl
        try simp only [Act.put, List.setIfInBounds_toArray, List.set_cons_zero, List.set_cons_succ]
        refine wpAnyH_take (i := 10) (oi := { dst := some 44, op := Op.pick (Operand.tmp 37) (Operand.tmp 43) (Operand.const (Value.bool false)), type := 4, pos := "law.go:239", after := #[{ on := 3, ground := Ground.data }, { on := 9, ground := Ground.data }], guard := none }) (v := ?v10_10) rfl (by kernel_rfl) (by kernel_rfl) (by kernel_rfl) (fun _ _ _ h => h) (Or.inl ⟨by rfl, ?h10_10⟩) (by assumption) ?r10_10
        case h10_10 =>
          intro W hSW
          try dsimp only at hSW
          go_simp
          try with_reducible rfl
        try simp only [Act.put, List.setIfInBounds_toArray, List.set_cons_zero, List.set_cons_succ]
        refine wpAnyH_take (i := 11) (oi := { dst := some 2, op := Op.assign (Operand.tmp 44), type := 4, pos := "law.go:239", after := #[{ on := 10, ground := Ground.data }, { on := 5, ground := Ground.chain }, { on := 0, ground := Ground.phase }, { on := 1, ground := Ground.phase }, { on := 2, ground := Ground.phase }, { on := 3, ground := Ground.phase }, { on := 4, ground := Ground.phase }, { on := 5, ground := Ground.phase }, { on := 6, ground := Ground.phase }, { on := 7, ground := Ground.phase }, { on := 8, ground := Ground.phase }, { on := 9, ground := Ground.phase }, { on := 10, ground := Ground.phase }], guard := none }) (v := ?v11_11) rfl (by kernel_rfl) (by kernel_rfl) (by kernel_rfl) (fun _ _ _ h => h) (Or.inl ⟨by rfl, ?h11_11⟩) (by assumption) ?r11_11
        case h11_11 =>
          intro W hSW
          try dsimp only at hSW
          go_simp
          try with_reducible rfl
        try simp only [Act.put, List.setIfInBounds_toArray, List.set_cons_zero, List.set_cons_succ]
        refine wpAnyH_done (by kernel_rfl) ?_ _
        have HVF := Lib.hid hv61
        clear hv61
        go_wp2_with fail
        go_ret
        exact ⟨by first | rfl | simp, HB3.out.trans (HVF.out.mono HB3.out.size)⟩
    · skip
      refine AllReadyH.cons (o := { dst := some 42, op := Op.convert 58 9 (Operand.tmp 41), type := 9, pos := "law.go:239", after := #[{ on := 7, ground := Ground.data }, { on := 3, ground := Ground.guard }], guard := some (3, true) }) rfl (fun K hK => ?_) AllReadyH.nil
      go_simp
      refine hK.out _ _ (hv60) (fun hHeld => ?_)
      clear hK K
      try simp only [Act.put, List.setIfInBounds_toArray, List.set_cons_zero, List.set_cons_succ]
      refine wpAnyH_ready (rs := [5]) (by kernel_rfl) (by simp) ?_
      refine AllReadyH.cons (o := { dst := some 39, op := Op.call { callee := Callee.value (Operand.func 26), args := #[Operand.tmp 38], argTypes := #[25] }, type := 58, pos := "law.go:239", after := #[{ on := 4, ground := Ground.data }, { on := 3, ground := Ground.chain }, { on := 3, ground := Ground.guard }], guard := some (3, true) }) rfl (fun K hK => ?_) AllReadyH.nil
      go_simp
      refine (HEL.out _ hv60).mono ?_
      rintro e w62 ⟨A1_, n1, c1_, rfl, hn1, rd1, b62⟩
      have hv62 : Below w3.heap.size w3 w62 := hv60.trans (b62.mono hv60.size)
      have hcv1 := run_toS w62 58 9 5 Tryd.underlying58 Tryd.underlying5 Tryd.underlying9 A1_ n1 c1_ _ b rd1
      have hcvb2 := run_toS w62 58 9 5 Tryd.underlying58 Tryd.underlying5 Tryd.underlying9 A n c _ b (HRB3.out w62 hv62)
      clear b62 hn1
      refine hK.out _ _ (hv62) (fun hHeld => ?_)
      clear hK K
      try simp only [Act.put, List.setIfInBounds_toArray, List.set_cons_zero, List.set_cons_succ]
      refine wpAnyH_ready (rs := [6]) (by kernel_rfl) (by simp) ?_
      refine AllReadyH.cons (o := { dst := some 40, op := Op.convert 58 9 (Operand.tmp 39), type := 9, pos := "law.go:239", after := #[{ on := 5, ground := Ground.data }, { on := 3, ground := Ground.guard }], guard := some (3, true) }) rfl (fun K hK => ?_) AllReadyH.nil
      go_simp
      refine hK.out _ _ (hv62) (fun hHeld => ?_)
      clear hK K
      try simp only [Act.put, List.setIfInBounds_toArray, List.set_cons_zero, List.set_cons_succ]
      refine wpAnyH_take (i := 9) (oi := { dst := some 43, op := Op.binOp BinOp.eql 9 (Operand.tmp 40) (Operand.tmp 42) 9, type := 4, pos := "law.go:239", after := #[{ on := 6, ground := Ground.data }, { on := 8, ground := Ground.data }, { on := 3, ground := Ground.guard }], guard := some (3, true) }) (v := ?v9_12) rfl (by kernel_rfl) (by kernel_rfl) (by kernel_rfl) (fun _ _ _ h => h) (Or.inl ⟨by rfl, ?h9_12⟩) (by assumption) ?r9_12
      case h9_12 =>
        intro W hSW
        try dsimp only at hSW
        go_simp
        try with_reducible rfl
      try simp only [Act.put, List.setIfInBounds_toArray, List.set_cons_zero, List.set_cons_succ]
      refine wpAnyH_take (i := 10) (oi := { dst := some 44, op := Op.pick (Operand.tmp 37) (Operand.tmp 43) (Operand.const (Value.bool false)), type := 4, pos := "law.go:239", after := #[{ on := 3, ground := Ground.data }, { on := 9, ground := Ground.data }], guard := none }) (v := ?v10_13) rfl (by kernel_rfl) (by kernel_rfl) (by kernel_rfl) (fun _ _ _ h => h) (Or.inl ⟨by rfl, ?h10_13⟩) (by assumption) ?r10_13
      case h10_13 =>
        intro W hSW
        try dsimp only at hSW
        go_simp
        try with_reducible rfl
      try simp only [Act.put, List.setIfInBounds_toArray, List.set_cons_zero, List.set_cons_succ]
      refine wpAnyH_take (i := 11) (oi := { dst := some 2, op := Op.assign (Operand.tmp 44), type := 4, pos := "law.go:239", after := #[{ on := 10, ground := Ground.data }, { on := 5, ground := Ground.chain }, { on := 0, ground := Ground.phase }, { on := 1, ground := Ground.phase }, { on := 2, ground := Ground.phase }, { on := 3, ground := Ground.phase }, { on := 4, ground := Ground.phase }, { on := 5, ground := Ground.phase }, { on := 6, ground := Ground.phase }, { on := 7, ground := Ground.phase }, { on := 8, ground := Ground.phase }, { on := 9, ground := Ground.phase }, { on := 10, ground := Ground.phase }], guard := none }) (v := ?v11_14) rfl (by kernel_rfl) (by kernel_rfl) (by kernel_rfl) (fun _ _ _ h => h) (Or.inl ⟨by rfl, ?h11_14⟩) (by assumption) ?r11_14
      case h11_14 =>
        intro W hSW
        try dsimp only at hSW
        go_simp
        try with_reducible rfl
      try simp only [Act.put, List.setIfInBounds_toArray, List.set_cons_zero, List.set_cons_succ]
      refine wpAnyH_done (by kernel_rfl) ?_ _
      have HVF := Lib.hid hv62
      clear hv62
      go_wp2_with fail
      go_ret
      exact ⟨by first | rfl | simp, HB3.out.trans (HVF.out.mono HB3.out.size)⟩
end Go.Proofs.YtkjomnakolhdcaaDoor
