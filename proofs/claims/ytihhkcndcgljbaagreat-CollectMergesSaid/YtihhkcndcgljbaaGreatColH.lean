/- collect.smallest at loads and at ints: the index of the first smallest value, except for one index, or -1. Conditions: at most 100000 elements. -/
import Derived.Test.YtihhkcndcgljbaaGreatHeld2
import Derived.Test.YtihhkcndcgljbaaGreatColG
namespace Go.Proofs.YtihhkcndcgljbaaGreat
set_option linter.unusedVariables false
set_option linter.unusedSimpArgs false
open Go.RowKit
abbrev oColH0 : Oper := { dst := some 17, op := Op.move (Operand.tmp 8), type := 3, pos := "collect.go:70", after := #[], guard := none }
abbrev oColH1 : Oper := { dst := some 18, op := Op.move (Operand.tmp 1), type := 3, pos := "collect.go:70", after := #[], guard := none }
abbrev oColH2 : Oper := { dst := some 19, op := Op.binOp BinOp.neq 3 (Operand.tmp 17) (Operand.tmp 18) 3, type := 4, pos := "collect.go:70", after := #[{ on := 0, ground := Ground.data }, { on := 1, ground := Ground.data }], guard := none }
abbrev oColH3 : Oper := { dst := some 20, op := Op.move (Operand.tmp 19), type := 4, pos := "collect.go:70", after := #[{ on := 2, ground := Ground.data }], guard := none }
abbrev oColH4 : Oper := { dst := some 21, op := Op.move (Operand.tmp 7), type := 3, pos := "collect.go:70", after := #[{ on := 3, ground := Ground.guard }], guard := some (3, true) }
abbrev oColH5 : Oper := { dst := some 22, op := Op.binOp BinOp.lss 3 (Operand.tmp 21) (Operand.const (Value.int IntKind.i64 0)) 3, type := 4, pos := "collect.go:70", after := #[{ on := 4, ground := Ground.data }, { on := 3, ground := Ground.guard }], guard := some (3, true) }
abbrev oColH6 : Oper := { dst := some 23, op := Op.move (Operand.tmp 22), type := 4, pos := "collect.go:70", after := #[{ on := 5, ground := Ground.data }, { on := 3, ground := Ground.chain }, { on := 3, ground := Ground.guard }], guard := some (3, true) }
abbrev oColH7 : Oper := { dst := some 24, op := Op.move (Operand.tmp 2), type := 99, pos := "collect.go:70", after := #[{ on := 6, ground := Ground.guard }], guard := some (6, false) }
abbrev oColH8 : Oper := { dst := some 25, op := Op.load 95 (Operand.tmp 9), type := 95, pos := "collect.go:70", after := #[{ on := 6, ground := Ground.guard }], guard := some (6, false) }
abbrev oColH9 : Oper := { dst := some 26, op := Op.call { callee := Callee.value (Operand.tmp 24), args := #[Operand.tmp 25], argTypes := #[95] }, type := 3, pos := "collect.go:70", after := #[{ on := 7, ground := Ground.data }, { on := 8, ground := Ground.data }, { on := 6, ground := Ground.chain }, { on := 6, ground := Ground.guard }], guard := some (6, false) }
abbrev oColH10 : Oper := { dst := some 27, op := Op.move (Operand.tmp 2), type := 99, pos := "collect.go:70", after := #[{ on := 6, ground := Ground.guard }], guard := some (6, false) }
abbrev oColH11 : Oper := { dst := some 28, op := Op.move (Operand.tmp 0), type := 87, pos := "collect.go:70", after := #[{ on := 6, ground := Ground.guard }], guard := some (6, false) }
abbrev oColH12 : Oper := { dst := some 29, op := Op.move (Operand.tmp 7), type := 3, pos := "collect.go:70", after := #[{ on := 6, ground := Ground.guard }], guard := some (6, false) }
abbrev oColH13 : Oper := { dst := some 30, op := Op.indexAddr 87 (Operand.tmp 28) (Operand.tmp 29), type := 0, pos := "collect.go:70", after := #[{ on := 11, ground := Ground.data }, { on := 12, ground := Ground.data }, { on := 6, ground := Ground.guard }], guard := some (6, false) }
abbrev oColH14 : Oper := { dst := some 31, op := Op.load 95 (Operand.tmp 30), type := 95, pos := "collect.go:70", after := #[{ on := 13, ground := Ground.data }, { on := 6, ground := Ground.guard }], guard := some (6, false) }
abbrev oColH15 : Oper := { dst := some 32, op := Op.call { callee := Callee.value (Operand.tmp 27), args := #[Operand.tmp 31], argTypes := #[95] }, type := 3, pos := "collect.go:70", after := #[{ on := 10, ground := Ground.data }, { on := 14, ground := Ground.data }, { on := 9, ground := Ground.chain }, { on := 6, ground := Ground.guard }], guard := some (6, false) }
abbrev oColH16 : Oper := { dst := some 33, op := Op.binOp BinOp.lss 3 (Operand.tmp 26) (Operand.tmp 32) 3, type := 4, pos := "collect.go:70", after := #[{ on := 9, ground := Ground.data }, { on := 15, ground := Ground.data }, { on := 6, ground := Ground.guard }], guard := some (6, false) }
abbrev oColH17 : Oper := { dst := some 34, op := Op.pick (Operand.tmp 23) (Operand.const (Value.bool true)) (Operand.tmp 33), type := 4, pos := "collect.go:70", after := #[{ on := 6, ground := Ground.data }, { on := 16, ground := Ground.data }, { on := 3, ground := Ground.guard }], guard := some (3, true) }
abbrev oColH18 : Oper := { dst := some 35, op := Op.pick (Operand.tmp 20) (Operand.tmp 34) (Operand.const (Value.bool false)), type := 4, pos := "collect.go:70", after := #[{ on := 3, ground := Ground.data }, { on := 17, ground := Ground.data }], guard := none }
abbrev oColH19 : Oper := { dst := some 24, op := Op.move (Operand.tmp 2), type := 136, pos := "collect.go:70", after := #[{ on := 6, ground := Ground.guard }], guard := some (6, false) }
abbrev oColH20 : Oper := { dst := some 25, op := Op.move (Operand.tmp 9), type := 3, pos := "collect.go:70", after := #[{ on := 6, ground := Ground.guard }], guard := some (6, false) }
abbrev oColH21 : Oper := { dst := some 26, op := Op.call { callee := Callee.value (Operand.tmp 24), args := #[Operand.tmp 25], argTypes := #[3] }, type := 3, pos := "collect.go:70", after := #[{ on := 7, ground := Ground.data }, { on := 8, ground := Ground.data }, { on := 6, ground := Ground.chain }, { on := 6, ground := Ground.guard }], guard := some (6, false) }
abbrev oColH22 : Oper := { dst := some 27, op := Op.move (Operand.tmp 2), type := 136, pos := "collect.go:70", after := #[{ on := 6, ground := Ground.guard }], guard := some (6, false) }
abbrev oColH23 : Oper := { dst := some 28, op := Op.move (Operand.tmp 0), type := 47, pos := "collect.go:70", after := #[{ on := 6, ground := Ground.guard }], guard := some (6, false) }
abbrev oColH24 : Oper := { dst := some 30, op := Op.indexAddr 47 (Operand.tmp 28) (Operand.tmp 29), type := 0, pos := "collect.go:70", after := #[{ on := 11, ground := Ground.data }, { on := 12, ground := Ground.data }, { on := 6, ground := Ground.guard }], guard := some (6, false) }
abbrev oColH25 : Oper := { dst := some 31, op := Op.load 3 (Operand.tmp 30), type := 3, pos := "collect.go:70", after := #[{ on := 13, ground := Ground.data }, { on := 6, ground := Ground.guard }], guard := some (6, false) }
abbrev oColH26 : Oper := { dst := some 32, op := Op.call { callee := Callee.value (Operand.tmp 27), args := #[Operand.tmp 31], argTypes := #[3] }, type := 3, pos := "collect.go:70", after := #[{ on := 10, ground := Ground.data }, { on := 14, ground := Ground.data }, { on := 9, ground := Ground.chain }, { on := 6, ground := Ground.guard }], guard := some (6, false) }
namespace Col
theorem sm_skip {v : Nat → Int} {bo : Option Nat} {j : Nat} (h : bo = some j) : sm v bo (j + 1) = sm v bo j := by rw [sm, if_pos h]
theorem sm_first {v : Nat → Int} {bo : Option Nat} {j : Nat} (h : ¬ bo = some j) (hs : sm v bo j = none) : sm v bo (j + 1) = some j := by rw [sm, if_neg h, hs]
theorem sm_less {v : Nat → Int} {bo : Option Nat} {j p : Nat} (h : ¬ bo = some j) (hs : sm v bo j = some p) (hl : v j < v p) : sm v bo (j + 1) = some j := by rw [sm, if_neg h, hs]; dsimp only; rw [if_pos hl]
theorem sm_same {v : Nat → Int} {bo : Option Nat} {j p : Nat} (h : ¬ bo = some j) (hs : sm v bo j = some p) (hl : ¬ v j < v p) : sm v bo (j + 1) = some p := by rw [sm, if_neg h, hs]; dsimp only; rw [if_neg hl]
theorem ix_ne {bo : Option Nat} {j : Nat} (h : ¬ bo = some j) : (((j : Nat) : Int) != ix bo) = true := by
  rw [bne_iff_ne]
  cases bo with
  | none => unfold ix; dsimp only; omega
  | some k => unfold ix; dsimp only; intro e; exact h (congrArg some (by omega))
theorem ix_eq {bo : Option Nat} {j : Nat} (h : bo = some j) : (((j : Nat) : Int) != ix bo) = false := by subst h; simp [ix]
end Col
set_option maxRecDepth 100000 in
set_option maxHeartbeats 1600000 in
theorem smallestLd (A : Option Addr) (n c : Nat) (D : List Ld) (hD : D.length = n) (hn : n ≤ 100000) (v : Nat → Int) (hv : ∀ k (hk : k < D.length), D[k].n = v k) (bo : Option Nat) (w : World) (hr : Rd w w.heap.size 3 A n (D.flatMap Ld.L)) (bi : Int) (hbi : Col.ix bo = bi) :
    Calls Tryz.prog 36 #[.slice A n c, .int .i64 bi, load25] w fun e w' => e = .returned (.int .i64 (Col.ix (Col.sm v bo n))) ∧ Below w.heap.size w w' := by
  have HD := Lib.hid hD
  have HV := Lib.hid hv
  have HR := Lib.hid hr
  have HBI := Lib.hid hbi
  clear hD hv hr hbi
  go_enter Tryz.func36, Tryz.ntmps36
  go_wp2_with fail
  go_loopw [7, 12] (fun u7 u12 wx => ∃ (wr : World) (j : Nat), wr = wx ∧ j ≤ n ∧ u12 = .int .i64 (j : Int) ∧ u7 = .int .i64 (Col.ix (Col.sm v bo j)) ∧ Hid (Below w.heap.size w wr)) (fun _ u12 _ => n - (intOf u12).toNat)
  case atStart => exact ⟨_, 0, rfl, Nat.zero_le _, rfl, rfl, Lib.hid (Below.refl _ _)⟩
  case round =>
    obtain ⟨wr, j, rfl, hj, rfl, rfl, HBR⟩ := hrel
    obtain ⟨so, hso⟩ : ∃ o, Col.sm v bo j = o := ⟨_, rfl⟩
    rw [hso]
    by_cases hlt : j < n
    · have hju : j < D.length := by rw [HD.out]; exact hlt
      obtain ⟨b, off, rfl, hbb, hrg⟩ := (HR.out.below HBR.out).elem (f := Ld.L) (fun _ _ => rfl) hju hlt
      have e1 : (0 : Int) ≤ (j : Int) := by omega
      have e2 : (j : Int) < (n : Int) := by omega
      have HX := Lib.hid (fun W => load25_any D[j] W)
      obtain ⟨y, hy⟩ : ∃ y, D[j] = y := ⟨_, rfl⟩
      have HY : Hid (y.n = v j) := Lib.hid (by rw [← hy]; exact HV.out j hju)
      rw [hy] at hrg HX
      obtain ⟨y0, y1, y2⟩ := y
      unfold Ld.L at hrg
      dsimp only at hrg HX
      have HSO := Lib.hid hso
      clear hju hy hso
      go_upto_region 5 with (first
        | (refine wpList_load_mid rfl _ (.tmp 15) rfl b (off + j * 3) rfl [.int .i64 y0, .int .i64 y1, .int .i64 y2] _ hrg Tryz.underlying95 rfl sizeLd ?_)
        | (refine wpList_allocRow rfl _ rfl _ infoLd ?_; intro w3 rz3 b3 z3; clear z3)
        | (refine wpList_storeRow rfl _ (.tmp 9) (.tmp 16) rfl (l' := [.int .i64 y0, .int .i64 y1, .int .i64 y2]) rz3 rfl rfl sizeLd rfl rfl ?_; intro w4 rz4 g4 z4; clear z4))
      have hb4 : Below wr.heap.size wr w4 := b3.grown g4 b3.size (fun i hi => by have := Option.some.inj hi; omega)
      obtain ⟨b9, hb9⟩ : ∃ y, wr.heap.size = y := ⟨_, rfl⟩
      have HB4 := Lib.hid (HBR.out.trans (hb4.mono HBR.out.size))
      rw [hb9] at rz4 ⊢
      have HR9 := Lib.hid rz4
      have k0 := rz4.cell 0
      have k1 := rz4.cell 1
      have k2 := rz4.cell 2
      dsimp only [List.getElem?_cons_zero, List.getElem?_cons_succ] at k0 k1 k2
      have HK := Lib.hid (And.intro k0 (And.intro k1 k2))
      have HBB := Lib.hid hbb
      clear rz3 b3 g4 hrg hb9 rz4 k0 k1 k2 hbb
      try simp only [PT]
      by_cases hbo : bo = some j
      · have hne : ((j : Int) != bi) = false := by rw [← HBI.out]; exact Col.ix_eq hbo
        have HSA := Lib.hid ((Col.sm_skip (v := v) hbo).trans HSO.out)
        clear hbo
        have hv0 : Below w4.heap.size w4 w4.drew := (Below.refl _ _).drew
        refine wp_region_held_drew (S := fun W => Below w4.heap.size w4 W) (by kernel_rfl) (hv0) (fun hHeld => ?_)
        refine tkH 0 oColH0 ?v0_1 (.inl ⟨by rfl, ?h0_1⟩) ?r0_1
        case h0_1 =>
          intro W hSW
          unfold oColH0
          try dsimp only at hSW
          go_simp
          try with_reducible rfl
        try simp only [oColH0, PT]
        refine tkH 1 oColH1 ?v1_2 (.inl ⟨by rfl, ?h1_2⟩) ?r1_2
        case h1_2 =>
          intro W hSW
          unfold oColH1
          try dsimp only at hSW
          go_simp
          try with_reducible rfl
        try simp only [oColH1, PT]
        refine tkH 2 oColH2 ?v2_3 (.inl ⟨by rfl, ?h2_3⟩) ?r2_3
        case h2_3 =>
          intro W hSW
          unfold oColH2
          try dsimp only at hSW
          go_simp
          try with_reducible rfl
        try simp only [oColH2, PT]
        refine tkH 3 oColH3 ?v3_4 (.inl ⟨by rfl, ?h3_4⟩) ?r3_4
        case h3_4 =>
          intro W hSW
          unfold oColH3
          try dsimp only at hSW
          go_simp
          try with_reducible rfl
        try simp only [oColH3, PT]
        refine tkH 4 oColH4 undef (.inr ⟨by rfl, rfl⟩) ?_
        try simp only [oColH4, PT]
        refine tkH 5 oColH5 undef (.inr ⟨by rfl, rfl⟩) ?_
        try simp only [oColH5, PT]
        refine tkH 6 oColH6 undef (.inr ⟨by rfl, rfl⟩) ?_
        try simp only [oColH6, PT]
        refine tkH 7 oColH7 undef (.inr ⟨by rfl, rfl⟩) ?_
        try simp only [oColH7, PT]
        refine tkH 8 oColH8 undef (.inr ⟨by rfl, rfl⟩) ?_
        try simp only [oColH8, PT]
        refine tkH 9 oColH9 undef (.inr ⟨by rfl, rfl⟩) ?_
        try simp only [oColH9, PT]
        refine tkH 10 oColH10 undef (.inr ⟨by rfl, rfl⟩) ?_
        try simp only [oColH10, PT]
        refine tkH 11 oColH11 undef (.inr ⟨by rfl, rfl⟩) ?_
        try simp only [oColH11, PT]
        refine tkH 12 oColH12 undef (.inr ⟨by rfl, rfl⟩) ?_
        try simp only [oColH12, PT]
        refine tkH 13 oColH13 undef (.inr ⟨by rfl, rfl⟩) ?_
        try simp only [oColH13, PT]
        refine tkH 14 oColH14 undef (.inr ⟨by rfl, rfl⟩) ?_
        try simp only [oColH14, PT]
        refine tkH 15 oColH15 undef (.inr ⟨by rfl, rfl⟩) ?_
        try simp only [oColH15, PT]
        refine tkH 16 oColH16 undef (.inr ⟨by rfl, rfl⟩) ?_
        try simp only [oColH16, PT]
        refine tkH 17 oColH17 undef (.inr ⟨by rfl, rfl⟩) ?_
        try simp only [oColH17, PT]
        refine tkH 18 oColH18 ?v18_19 (.inl ⟨by rfl, ?h18_19⟩) ?r18_19
        case h18_19 =>
          intro W hSW
          unfold oColH18
          try dsimp only at hSW
          go_simp
          try with_reducible rfl
        try simp only [oColH18, PT]
        refine wpAnyH_done (by kernel_rfl) ?_ _
        · go_wp2_with fail
          go_roundw
          case rel => exact ⟨_, j + 1, rfl, by omega, by go_num, by rw [HSA.out], Lib.hid (HB4.out.trans (hv0.mono HB4.out.size))⟩
          case measure => simp [intOf]; omega
      · have hne : ((j : Int) != bi) = true := by rw [← HBI.out]; exact Col.ix_ne hbo
        cases so with
        | none =>
          have HSB := Lib.hid (Col.sm_first hbo HSO.out)
          unfold Col.ix
          dsimp only
          clear hbo
          have hv0 : Below w4.heap.size w4 w4.drew := (Below.refl _ _).drew
          refine wp_region_held_drew (S := fun W => Below w4.heap.size w4 W) (by kernel_rfl) (hv0) (fun hHeld => ?_)
          refine tkH 0 oColH0 ?v0_101 (.inl ⟨by rfl, ?h0_101⟩) ?r0_101
          case h0_101 =>
            intro W hSW
            unfold oColH0
            try dsimp only at hSW
            go_simp
            try with_reducible rfl
          try simp only [oColH0, PT]
          refine tkH 1 oColH1 ?v1_102 (.inl ⟨by rfl, ?h1_102⟩) ?r1_102
          case h1_102 =>
            intro W hSW
            unfold oColH1
            try dsimp only at hSW
            go_simp
            try with_reducible rfl
          try simp only [oColH1, PT]
          refine tkH 2 oColH2 ?v2_103 (.inl ⟨by rfl, ?h2_103⟩) ?r2_103
          case h2_103 =>
            intro W hSW
            unfold oColH2
            try dsimp only at hSW
            go_simp
            try with_reducible rfl
          try simp only [oColH2, PT]
          refine tkH 3 oColH3 ?v3_104 (.inl ⟨by rfl, ?h3_104⟩) ?r3_104
          case h3_104 =>
            intro W hSW
            unfold oColH3
            try dsimp only at hSW
            go_simp
            try with_reducible rfl
          try simp only [oColH3, PT]
          refine tkH 4 oColH4 ?v4_105 (.inl ⟨by rfl, ?h4_105⟩) ?r4_105
          case h4_105 =>
            intro W hSW
            unfold oColH4
            try dsimp only at hSW
            go_simp
            try with_reducible rfl
          try simp only [oColH4, PT]
          refine tkH 5 oColH5 ?v5_106 (.inl ⟨by rfl, ?h5_106⟩) ?r5_106
          case h5_106 =>
            intro W hSW
            unfold oColH5
            try dsimp only at hSW
            go_simp
            try with_reducible rfl
          try simp only [oColH5, PT]
          refine tkH 6 oColH6 ?v6_107 (.inl ⟨by rfl, ?h6_107⟩) ?r6_107
          case h6_107 =>
            intro W hSW
            unfold oColH6
            try dsimp only at hSW
            go_simp
            try with_reducible rfl
          try simp only [oColH6, PT]
          refine tkH 7 oColH7 undef (.inr ⟨by rfl, rfl⟩) ?_
          try simp only [oColH7, PT]
          refine tkH 8 oColH8 undef (.inr ⟨by rfl, rfl⟩) ?_
          try simp only [oColH8, PT]
          refine tkH 9 oColH9 undef (.inr ⟨by rfl, rfl⟩) ?_
          try simp only [oColH9, PT]
          refine tkH 10 oColH10 undef (.inr ⟨by rfl, rfl⟩) ?_
          try simp only [oColH10, PT]
          refine tkH 11 oColH11 undef (.inr ⟨by rfl, rfl⟩) ?_
          try simp only [oColH11, PT]
          refine tkH 12 oColH12 undef (.inr ⟨by rfl, rfl⟩) ?_
          try simp only [oColH12, PT]
          refine tkH 13 oColH13 undef (.inr ⟨by rfl, rfl⟩) ?_
          try simp only [oColH13, PT]
          refine tkH 14 oColH14 undef (.inr ⟨by rfl, rfl⟩) ?_
          try simp only [oColH14, PT]
          refine tkH 15 oColH15 undef (.inr ⟨by rfl, rfl⟩) ?_
          try simp only [oColH15, PT]
          refine tkH 16 oColH16 undef (.inr ⟨by rfl, rfl⟩) ?_
          try simp only [oColH16, PT]
          refine tkH 17 oColH17 ?v17_118 (.inl ⟨by rfl, ?h17_118⟩) ?r17_118
          case h17_118 =>
            intro W hSW
            unfold oColH17
            try dsimp only at hSW
            go_simp
            try with_reducible rfl
          try simp only [oColH17, PT]
          refine tkH 18 oColH18 ?v18_119 (.inl ⟨by rfl, ?h18_119⟩) ?r18_119
          case h18_119 =>
            intro W hSW
            unfold oColH18
            try dsimp only at hSW
            go_simp
            try with_reducible rfl
          try simp only [oColH18, PT]
          refine wpAnyH_done (by kernel_rfl) ?_ _
          · go_wp2_with fail
            go_roundw
            case rel => exact ⟨_, j + 1, rfl, by omega, by go_num, by rw [HSB.out]; rfl, Lib.hid (HB4.out.trans (hv0.mono HB4.out.size))⟩
            case measure => simp [intOf]; omega
        | some p =>
          have hpj := (Col.sm_some HSO.out).1
          have hpD : p < D.length := by rw [HD.out]; omega
          obtain ⟨b', off', hA', hpb, hpg⟩ := (HR.out.below HB4.out).elem (f := Ld.L) (fun _ _ => rfl) hpD (show p < n by omega)
          obtain ⟨rfl, rfl⟩ : b = b' ∧ off = off' := by have := Option.some.inj hA'; exact ⟨congrArg Addr.block this, congrArg Addr.off this⟩
          have HZ := Lib.hid (fun W => load25_any D[p] W)
          obtain ⟨z, hz⟩ : ∃ z, D[p] = z := ⟨_, rfl⟩
          have HZV : Hid (z.n = v p) := Lib.hid (by rw [← hz]; exact HV.out p hpD)
          rw [hz] at hpg HZ
          obtain ⟨z0, z1, z2⟩ := z
          dsimp only at HZ
          have HSC : Hid (y2 < z2 → Col.sm v bo (j + 1) = some j) := Lib.hid fun h => Col.sm_less hbo HSO.out (by rw [← HY.out, ← HZV.out]; exact h)
          have HSD : Hid (¬ y2 < z2 → Col.sm v bo (j + 1) = some p) := Lib.hid fun h => Col.sm_same hbo HSO.out (by rw [← HY.out, ← HZV.out]; exact h)
          have HP := Lib.hid (And.intro (Nat.lt_of_lt_of_le HBB.out HB4.out.size) (And.intro (hpg 0 _ rfl) (And.intro (hpg 1 _ rfl) (hpg 2 _ rfl))))
          dsimp only [Nat.add_zero] at HP
          have e3 : (0 : Int) ≤ (p : Int) := by omega
          have e4 : (p : Int) < (n : Int) := by omega
          have e5 : decide ((p : Int) < 0) = false := by rw [decide_eq_false_iff_not]; omega
          unfold Col.ix
          dsimp only
          clear hbo hA' hpb hpg hz hpD
          have hv0 : Below w4.heap.size w4 w4.drew := (Below.refl _ _).drew
          refine wp_region_held_drew (S := fun W => Below w4.heap.size w4 W) (by kernel_rfl) (hv0) (fun hHeld => ?_)
          refine tkH 0 oColH0 ?v0_201 (.inl ⟨by rfl, ?h0_201⟩) ?r0_201
          case h0_201 =>
            intro W hSW
            unfold oColH0
            try dsimp only at hSW
            go_simp
            try with_reducible rfl
          try simp only [oColH0, PT]
          refine tkH 1 oColH1 ?v1_202 (.inl ⟨by rfl, ?h1_202⟩) ?r1_202
          case h1_202 =>
            intro W hSW
            unfold oColH1
            try dsimp only at hSW
            go_simp
            try with_reducible rfl
          try simp only [oColH1, PT]
          refine tkH 2 oColH2 ?v2_203 (.inl ⟨by rfl, ?h2_203⟩) ?r2_203
          case h2_203 =>
            intro W hSW
            unfold oColH2
            try dsimp only at hSW
            go_simp
            try with_reducible rfl
          try simp only [oColH2, PT]
          refine tkH 3 oColH3 ?v3_204 (.inl ⟨by rfl, ?h3_204⟩) ?r3_204
          case h3_204 =>
            intro W hSW
            unfold oColH3
            try dsimp only at hSW
            go_simp
            try with_reducible rfl
          try simp only [oColH3, PT]
          refine tkH 4 oColH4 ?v4_205 (.inl ⟨by rfl, ?h4_205⟩) ?r4_205
          case h4_205 =>
            intro W hSW
            unfold oColH4
            try dsimp only at hSW
            go_simp
            try with_reducible rfl
          try simp only [oColH4, PT]
          refine tkH 5 oColH5 ?v5_206 (.inl ⟨by rfl, ?h5_206⟩) ?r5_206
          case h5_206 =>
            intro W hSW
            unfold oColH5
            try dsimp only at hSW
            go_simp
            try with_reducible rfl
          try simp only [oColH5, PT]
          refine tkH 6 oColH6 ?v6_207 (.inl ⟨by rfl, ?h6_207⟩) ?r6_207
          case h6_207 =>
            intro W hSW
            unfold oColH6
            try dsimp only at hSW
            go_simp
            try with_reducible rfl
          try simp only [oColH6, PT]
          refine tkH 7 oColH7 ?v7_208 (.inl ⟨by rfl, ?h7_208⟩) ?r7_208
          case h7_208 =>
            intro W hSW
            unfold oColH7
            try dsimp only at hSW
            go_simp
            try with_reducible rfl
          try simp only [oColH7, PT]
          refine tkH 8 oColH8 ?v8_209 (.inl ⟨by rfl, ?h8_209⟩) ?r8_209
          case h8_209 =>
            intro W hSW
            unfold oColH8
            try dsimp only at hSW
            have c0 := (hSW.cell (p := ⟨b9, 0, none⟩) HR9.out.lt).trans HK.out.1
            have c1 := (hSW.cell (p := ⟨b9, 1, none⟩) HR9.out.lt).trans HK.out.2.1
            have c2 := (hSW.cell (p := ⟨b9, 2, none⟩) HR9.out.lt).trans HK.out.2.2
            go_simp
            try with_reducible rfl
          try simp only [oColH8, PT]
          refine tkH 10 oColH10 ?v10_210 (.inl ⟨by rfl, ?h10_210⟩) ?r10_210
          case h10_210 =>
            intro W hSW
            unfold oColH10
            try dsimp only at hSW
            go_simp
            try with_reducible rfl
          try simp only [oColH10, PT]
          refine tkH 11 oColH11 ?v11_211 (.inl ⟨by rfl, ?h11_211⟩) ?r11_211
          case h11_211 =>
            intro W hSW
            unfold oColH11
            try dsimp only at hSW
            go_simp
            try with_reducible rfl
          try simp only [oColH11, PT]
          refine tkH 12 oColH12 ?v12_212 (.inl ⟨by rfl, ?h12_212⟩) ?r12_212
          case h12_212 =>
            intro W hSW
            unfold oColH12
            try dsimp only at hSW
            go_simp
            try with_reducible rfl
          try simp only [oColH12, PT]
          refine tkH 13 oColH13 ?v13_213 (.inl ⟨by rfl, ?h13_213⟩) ?r13_213
          case h13_213 =>
            intro W hSW
            unfold oColH13
            try dsimp only at hSW
            go_simp
            try with_reducible rfl
          try simp only [oColH13, PT]
          refine tkH 14 oColH14 ?v14_214 (.inl ⟨by rfl, ?h14_214⟩) ?r14_214
          case h14_214 =>
            intro W hSW
            unfold oColH14
            try dsimp only at hSW
            have d0 := (hSW.cell (p := ⟨b, off + p * 3, none⟩) HP.out.1).trans HP.out.2.1
            have d1 := (hSW.cell (p := ⟨b, off + p * 3 + 1, none⟩) HP.out.1).trans HP.out.2.2.1
            have d2 := (hSW.cell (p := ⟨b, off + p * 3 + 2, none⟩) HP.out.1).trans HP.out.2.2.2
            go_simp
            try with_reducible rfl
          try simp only [oColH14, PT]
          refine rdyH [9] ?_
          refine AllReadyH.cons (o := oColH9) rfl (fun K hK => ?_) AllReadyH.nil
          unfold oColH9
          go_simp
          refine (HX.out _).mono ?_
          rintro e w1 ⟨rfl, b1⟩
          have hv1 : Below w4.heap.size w4 w1 := hv0.trans (b1.mono hv0.size)
          clear b1
          refine hK.out _ _ (hv1) (fun hHeld => ?_)
          clear hK K
          try simp only [PT]
          refine rdyH [15] ?_
          refine AllReadyH.cons (o := oColH15) rfl (fun K hK => ?_) AllReadyH.nil
          unfold oColH15
          go_simp
          refine (HZ.out _).mono ?_
          rintro e w2 ⟨rfl, b2⟩
          have hv2 : Below w4.heap.size w4 w2 := hv1.trans (b2.mono hv1.size)
          clear b2
          refine hK.out _ _ (hv2) (fun hHeld => ?_)
          clear hK K
          try simp only [PT]
          refine tkH 16 oColH16 ?v16_215 (.inl ⟨by rfl, ?h16_215⟩) ?r16_215
          case h16_215 =>
            intro W hSW
            unfold oColH16
            try dsimp only at hSW
            go_simp
            try with_reducible rfl
          try simp only [oColH16, PT]
          refine tkH 17 oColH17 ?v17_216 (.inl ⟨by rfl, ?h17_216⟩) ?r17_216
          case h17_216 =>
            intro W hSW
            unfold oColH17
            try dsimp only at hSW
            go_simp
            try with_reducible rfl
          try simp only [oColH17, PT]
          refine tkH 18 oColH18 ?v18_217 (.inl ⟨by rfl, ?h18_217⟩) ?r18_217
          case h18_217 =>
            intro W hSW
            unfold oColH18
            try dsimp only at hSW
            go_simp
            try with_reducible rfl
          try simp only [oColH18, PT]
          refine wpAnyH_done (by kernel_rfl) ?_ _
          by_cases hv : y2 < z2
          · go_wp2_with fail
            go_roundw
            case rel => exact ⟨_, j + 1, rfl, by omega, by go_num, by rw [HSC.out hv]; rfl, Lib.hid (HB4.out.trans (hv2.mono HB4.out.size))⟩
            case measure => simp [intOf]; omega
          · go_wp2_with fail
            go_roundw
            case rel => exact ⟨_, j + 1, rfl, by omega, by go_num, by rw [HSD.out hv]; rfl, Lib.hid (HB4.out.trans (hv2.mono HB4.out.size))⟩
            case measure => simp [intOf]; omega
    · obtain rfl : j = n := by omega
      have HSO := Lib.hid hso
      clear hso
      go_wp2_with fail
      go_ret
      exact ⟨by rw [HSO.out]; rfl, HBR.out⟩
abbrev vac25 (bk : Nat) : Value := .func (.func 69) #[] #[.pointer (some ⟨bk, 0, none⟩)]
set_option maxRecDepth 100000 in
set_option maxHeartbeats 1600000 in
theorem smallestIn (A : Option Addr) (n c : Nat) (l : List Int) (hl : l.length = n) (hn : n ≤ 100000) (v : Nat → Int) (bo : Option Nat) (w : World) (hr : Rd w w.heap.size 1 A n (l.map (fun x => .int .i64 x))) (bi : Int) (hbi : Col.ix bo = bi) (bk : Nat)
    (hv : ∀ k (hk : k < l.length) (W : World), Below w.heap.size w W → Calls Tryz.prog 69 #[.int .i64 l[k], .pointer (some ⟨bk, 0, none⟩)] W fun e w' => e = .returned (.int .i64 (v k)) ∧ Below W.heap.size W w') :
    Calls Tryz.prog 68 #[.slice A n c, .int .i64 bi, vac25 bk] w fun e w' => e = .returned (.int .i64 (Col.ix (Col.sm v bo n))) ∧ Below w.heap.size w w' := by
  have HD := Lib.hid hl
  have HV := Lib.hid hv
  have HR := Lib.hid hr
  have HBI := Lib.hid hbi
  clear hl hv hr hbi
  go_enter Tryz.func68, Tryz.ntmps68
  go_wp2_with fail
  go_loopw [7, 12] (fun u7 u12 wx => ∃ (wr : World) (j : Nat), wr = wx ∧ j ≤ n ∧ u12 = .int .i64 (j : Int) ∧ u7 = .int .i64 (Col.ix (Col.sm v bo j)) ∧ Hid (Below w.heap.size w wr)) (fun _ u12 _ => n - (intOf u12).toNat)
  case atStart => exact ⟨_, 0, rfl, Nat.zero_le _, rfl, rfl, Lib.hid (Below.refl _ _)⟩
  case round =>
    obtain ⟨wr, j, rfl, hj, rfl, rfl, HBR⟩ := hrel
    obtain ⟨so, hso⟩ : ∃ o, Col.sm v bo j = o := ⟨_, rfl⟩
    rw [hso]
    by_cases hlt : j < n
    · have hju : j < l.length := by rw [HD.out]; exact hlt
      obtain ⟨b, off, rfl, hbb, hc0⟩ := (HR.out.below HBR.out).get (f := fun x : Int => Value.int .i64 x) hju
      have e1 : (0 : Int) ≤ (j : Int) := by omega
      have e2 : (j : Int) < (n : Int) := by omega
      have HX := Lib.hid (fun W (hW : Below wr.heap.size wr W) => HV.out j hju W (HBR.out.trans (hW.mono HBR.out.size)))
      obtain ⟨y, hy⟩ : ∃ y, l[j] = y := ⟨_, rfl⟩
      obtain ⟨y2, hy2⟩ : ∃ y, v j = y := ⟨_, rfl⟩
      have HY : Hid (y2 = v j) := Lib.hid hy2.symm
      rw [hy, hy2] at HX
      rw [hy] at hc0
      have HSO := Lib.hid hso
      have HBB := Lib.hid hbb
      clear hju hy hy2 hso hbb
      go_upto_region 5 with fail
      clear hc0
      by_cases hbo : bo = some j
      · have hne : ((j : Int) != bi) = false := by rw [← HBI.out]; exact Col.ix_eq hbo
        have HSA := Lib.hid ((Col.sm_skip (v := v) hbo).trans HSO.out)
        clear hbo
        have hv0 : Below wr.heap.size wr wr.drew := (Below.refl _ _).drew
        refine wp_region_held_drew (S := fun W => Below wr.heap.size wr W) (by kernel_rfl) (hv0) (fun hHeld => ?_)
        refine tkH 0 oColH0 ?v0_301 (.inl ⟨by rfl, ?h0_301⟩) ?r0_301
        case h0_301 =>
          intro W hSW
          unfold oColH0
          try dsimp only at hSW
          go_simp
          try with_reducible rfl
        try simp only [oColH0, PT]
        refine tkH 1 oColH1 ?v1_302 (.inl ⟨by rfl, ?h1_302⟩) ?r1_302
        case h1_302 =>
          intro W hSW
          unfold oColH1
          try dsimp only at hSW
          go_simp
          try with_reducible rfl
        try simp only [oColH1, PT]
        refine tkH 2 oColH2 ?v2_303 (.inl ⟨by rfl, ?h2_303⟩) ?r2_303
        case h2_303 =>
          intro W hSW
          unfold oColH2
          try dsimp only at hSW
          go_simp
          try with_reducible rfl
        try simp only [oColH2, PT]
        refine tkH 3 oColH3 ?v3_304 (.inl ⟨by rfl, ?h3_304⟩) ?r3_304
        case h3_304 =>
          intro W hSW
          unfold oColH3
          try dsimp only at hSW
          go_simp
          try with_reducible rfl
        try simp only [oColH3, PT]
        refine tkH 4 oColH4 undef (.inr ⟨by rfl, rfl⟩) ?_
        try simp only [oColH4, PT]
        refine tkH 5 oColH5 undef (.inr ⟨by rfl, rfl⟩) ?_
        try simp only [oColH5, PT]
        refine tkH 6 oColH6 undef (.inr ⟨by rfl, rfl⟩) ?_
        try simp only [oColH6, PT]
        refine tkH 7 oColH19 undef (.inr ⟨by rfl, rfl⟩) ?_
        try simp only [oColH19, PT]
        refine tkH 8 oColH20 undef (.inr ⟨by rfl, rfl⟩) ?_
        try simp only [oColH20, PT]
        refine tkH 9 oColH21 undef (.inr ⟨by rfl, rfl⟩) ?_
        try simp only [oColH21, PT]
        refine tkH 10 oColH22 undef (.inr ⟨by rfl, rfl⟩) ?_
        try simp only [oColH22, PT]
        refine tkH 11 oColH23 undef (.inr ⟨by rfl, rfl⟩) ?_
        try simp only [oColH23, PT]
        refine tkH 12 oColH12 undef (.inr ⟨by rfl, rfl⟩) ?_
        try simp only [oColH12, PT]
        refine tkH 13 oColH24 undef (.inr ⟨by rfl, rfl⟩) ?_
        try simp only [oColH24, PT]
        refine tkH 14 oColH25 undef (.inr ⟨by rfl, rfl⟩) ?_
        try simp only [oColH25, PT]
        refine tkH 15 oColH26 undef (.inr ⟨by rfl, rfl⟩) ?_
        try simp only [oColH26, PT]
        refine tkH 16 oColH16 undef (.inr ⟨by rfl, rfl⟩) ?_
        try simp only [oColH16, PT]
        refine tkH 17 oColH17 undef (.inr ⟨by rfl, rfl⟩) ?_
        try simp only [oColH17, PT]
        refine tkH 18 oColH18 ?v18_319 (.inl ⟨by rfl, ?h18_319⟩) ?r18_319
        case h18_319 =>
          intro W hSW
          unfold oColH18
          try dsimp only at hSW
          go_simp
          try with_reducible rfl
        try simp only [oColH18, PT]
        refine wpAnyH_done (by kernel_rfl) ?_ _
        · go_wp2_with fail
          go_roundw
          case rel => exact ⟨_, j + 1, rfl, by omega, by go_num, by rw [HSA.out], Lib.hid (HBR.out.trans (hv0.mono HBR.out.size))⟩
          case measure => simp [intOf]; omega
      · have hne : ((j : Int) != bi) = true := by rw [← HBI.out]; exact Col.ix_ne hbo
        cases so with
        | none =>
          have HSB := Lib.hid (Col.sm_first hbo HSO.out)
          unfold Col.ix
          dsimp only
          clear hbo
          have hv0 : Below wr.heap.size wr wr.drew := (Below.refl _ _).drew
          refine wp_region_held_drew (S := fun W => Below wr.heap.size wr W) (by kernel_rfl) (hv0) (fun hHeld => ?_)
          refine tkH 0 oColH0 ?v0_401 (.inl ⟨by rfl, ?h0_401⟩) ?r0_401
          case h0_401 =>
            intro W hSW
            unfold oColH0
            try dsimp only at hSW
            go_simp
            try with_reducible rfl
          try simp only [oColH0, PT]
          refine tkH 1 oColH1 ?v1_402 (.inl ⟨by rfl, ?h1_402⟩) ?r1_402
          case h1_402 =>
            intro W hSW
            unfold oColH1
            try dsimp only at hSW
            go_simp
            try with_reducible rfl
          try simp only [oColH1, PT]
          refine tkH 2 oColH2 ?v2_403 (.inl ⟨by rfl, ?h2_403⟩) ?r2_403
          case h2_403 =>
            intro W hSW
            unfold oColH2
            try dsimp only at hSW
            go_simp
            try with_reducible rfl
          try simp only [oColH2, PT]
          refine tkH 3 oColH3 ?v3_404 (.inl ⟨by rfl, ?h3_404⟩) ?r3_404
          case h3_404 =>
            intro W hSW
            unfold oColH3
            try dsimp only at hSW
            go_simp
            try with_reducible rfl
          try simp only [oColH3, PT]
          refine tkH 4 oColH4 ?v4_405 (.inl ⟨by rfl, ?h4_405⟩) ?r4_405
          case h4_405 =>
            intro W hSW
            unfold oColH4
            try dsimp only at hSW
            go_simp
            try with_reducible rfl
          try simp only [oColH4, PT]
          refine tkH 5 oColH5 ?v5_406 (.inl ⟨by rfl, ?h5_406⟩) ?r5_406
          case h5_406 =>
            intro W hSW
            unfold oColH5
            try dsimp only at hSW
            go_simp
            try with_reducible rfl
          try simp only [oColH5, PT]
          refine tkH 6 oColH6 ?v6_407 (.inl ⟨by rfl, ?h6_407⟩) ?r6_407
          case h6_407 =>
            intro W hSW
            unfold oColH6
            try dsimp only at hSW
            go_simp
            try with_reducible rfl
          try simp only [oColH6, PT]
          refine tkH 7 oColH19 undef (.inr ⟨by rfl, rfl⟩) ?_
          try simp only [oColH19, PT]
          refine tkH 8 oColH20 undef (.inr ⟨by rfl, rfl⟩) ?_
          try simp only [oColH20, PT]
          refine tkH 9 oColH21 undef (.inr ⟨by rfl, rfl⟩) ?_
          try simp only [oColH21, PT]
          refine tkH 10 oColH22 undef (.inr ⟨by rfl, rfl⟩) ?_
          try simp only [oColH22, PT]
          refine tkH 11 oColH23 undef (.inr ⟨by rfl, rfl⟩) ?_
          try simp only [oColH23, PT]
          refine tkH 12 oColH12 undef (.inr ⟨by rfl, rfl⟩) ?_
          try simp only [oColH12, PT]
          refine tkH 13 oColH24 undef (.inr ⟨by rfl, rfl⟩) ?_
          try simp only [oColH24, PT]
          refine tkH 14 oColH25 undef (.inr ⟨by rfl, rfl⟩) ?_
          try simp only [oColH25, PT]
          refine tkH 15 oColH26 undef (.inr ⟨by rfl, rfl⟩) ?_
          try simp only [oColH26, PT]
          refine tkH 16 oColH16 undef (.inr ⟨by rfl, rfl⟩) ?_
          try simp only [oColH16, PT]
          refine tkH 17 oColH17 ?v17_418 (.inl ⟨by rfl, ?h17_418⟩) ?r17_418
          case h17_418 =>
            intro W hSW
            unfold oColH17
            try dsimp only at hSW
            go_simp
            try with_reducible rfl
          try simp only [oColH17, PT]
          refine tkH 18 oColH18 ?v18_419 (.inl ⟨by rfl, ?h18_419⟩) ?r18_419
          case h18_419 =>
            intro W hSW
            unfold oColH18
            try dsimp only at hSW
            go_simp
            try with_reducible rfl
          try simp only [oColH18, PT]
          refine wpAnyH_done (by kernel_rfl) ?_ _
          · go_wp2_with fail
            go_roundw
            case rel => exact ⟨_, j + 1, rfl, by omega, by go_num, by rw [HSB.out]; rfl, Lib.hid (HBR.out.trans (hv0.mono HBR.out.size))⟩
            case measure => simp [intOf]; omega
        | some p =>
          have hpj := (Col.sm_some HSO.out).1
          have hpD : p < l.length := by rw [HD.out]; omega
          obtain ⟨b', off', hA', hpb, hpg⟩ := (HR.out.below HBR.out).get (f := fun x : Int => Value.int .i64 x) hpD
          obtain ⟨rfl, rfl⟩ : b = b' ∧ off = off' := by have := Option.some.inj hA'; exact ⟨congrArg Addr.block this, congrArg Addr.off this⟩
          have HZ := Lib.hid (fun W (hW : Below wr.heap.size wr W) => HV.out p hpD W (HBR.out.trans (hW.mono HBR.out.size)))
          obtain ⟨z, hz⟩ : ∃ z, l[p] = z := ⟨_, rfl⟩
          obtain ⟨z2, hz2⟩ : ∃ z, v p = z := ⟨_, rfl⟩
          rw [hz, hz2] at HZ
          rw [hz] at hpg
          have HSC : Hid (y2 < z2 → Col.sm v bo (j + 1) = some j) := Lib.hid fun h => Col.sm_less hbo HSO.out (by rw [← HY.out, hz2]; exact h)
          have HSD : Hid (¬ y2 < z2 → Col.sm v bo (j + 1) = some p) := Lib.hid fun h => Col.sm_same hbo HSO.out (by rw [← HY.out, hz2]; exact h)
          have HP := Lib.hid (And.intro (Nat.lt_of_lt_of_le HBB.out HBR.out.size) hpg)
          have e3 : (0 : Int) ≤ (p : Int) := by omega
          have e4 : (p : Int) < (n : Int) := by omega
          have e5 : decide ((p : Int) < 0) = false := by rw [decide_eq_false_iff_not]; omega
          unfold Col.ix
          dsimp only
          clear hbo hA' hpb hpg hz hpD hz2
          have hv0 : Below wr.heap.size wr wr.drew := (Below.refl _ _).drew
          refine wp_region_held_drew (S := fun W => Below wr.heap.size wr W) (by kernel_rfl) (hv0) (fun hHeld => ?_)
          refine tkH 0 oColH0 ?v0_501 (.inl ⟨by rfl, ?h0_501⟩) ?r0_501
          case h0_501 =>
            intro W hSW
            unfold oColH0
            try dsimp only at hSW
            go_simp
            try with_reducible rfl
          try simp only [oColH0, PT]
          refine tkH 1 oColH1 ?v1_502 (.inl ⟨by rfl, ?h1_502⟩) ?r1_502
          case h1_502 =>
            intro W hSW
            unfold oColH1
            try dsimp only at hSW
            go_simp
            try with_reducible rfl
          try simp only [oColH1, PT]
          refine tkH 2 oColH2 ?v2_503 (.inl ⟨by rfl, ?h2_503⟩) ?r2_503
          case h2_503 =>
            intro W hSW
            unfold oColH2
            try dsimp only at hSW
            go_simp
            try with_reducible rfl
          try simp only [oColH2, PT]
          refine tkH 3 oColH3 ?v3_504 (.inl ⟨by rfl, ?h3_504⟩) ?r3_504
          case h3_504 =>
            intro W hSW
            unfold oColH3
            try dsimp only at hSW
            go_simp
            try with_reducible rfl
          try simp only [oColH3, PT]
          refine tkH 4 oColH4 ?v4_505 (.inl ⟨by rfl, ?h4_505⟩) ?r4_505
          case h4_505 =>
            intro W hSW
            unfold oColH4
            try dsimp only at hSW
            go_simp
            try with_reducible rfl
          try simp only [oColH4, PT]
          refine tkH 5 oColH5 ?v5_506 (.inl ⟨by rfl, ?h5_506⟩) ?r5_506
          case h5_506 =>
            intro W hSW
            unfold oColH5
            try dsimp only at hSW
            go_simp
            try with_reducible rfl
          try simp only [oColH5, PT]
          refine tkH 6 oColH6 ?v6_507 (.inl ⟨by rfl, ?h6_507⟩) ?r6_507
          case h6_507 =>
            intro W hSW
            unfold oColH6
            try dsimp only at hSW
            go_simp
            try with_reducible rfl
          try simp only [oColH6, PT]
          refine tkH 7 oColH19 ?v7_508 (.inl ⟨by rfl, ?h7_508⟩) ?r7_508
          case h7_508 =>
            intro W hSW
            unfold oColH19
            try dsimp only at hSW
            go_simp
            try with_reducible rfl
          try simp only [oColH19, PT]
          refine tkH 8 oColH20 ?v8_509 (.inl ⟨by rfl, ?h8_509⟩) ?r8_509
          case h8_509 =>
            intro W hSW
            unfold oColH20
            try dsimp only at hSW
            go_simp
            try with_reducible rfl
          try simp only [oColH20, PT]
          refine tkH 10 oColH22 ?v10_510 (.inl ⟨by rfl, ?h10_510⟩) ?r10_510
          case h10_510 =>
            intro W hSW
            unfold oColH22
            try dsimp only at hSW
            go_simp
            try with_reducible rfl
          try simp only [oColH22, PT]
          refine tkH 11 oColH23 ?v11_511 (.inl ⟨by rfl, ?h11_511⟩) ?r11_511
          case h11_511 =>
            intro W hSW
            unfold oColH23
            try dsimp only at hSW
            go_simp
            try with_reducible rfl
          try simp only [oColH23, PT]
          refine tkH 12 oColH12 ?v12_512 (.inl ⟨by rfl, ?h12_512⟩) ?r12_512
          case h12_512 =>
            intro W hSW
            unfold oColH12
            try dsimp only at hSW
            go_simp
            try with_reducible rfl
          try simp only [oColH12, PT]
          refine tkH 13 oColH24 ?v13_513 (.inl ⟨by rfl, ?h13_513⟩) ?r13_513
          case h13_513 =>
            intro W hSW
            unfold oColH24
            try dsimp only at hSW
            go_simp
            try with_reducible rfl
          try simp only [oColH24, PT]
          refine tkH 14 oColH25 ?v14_514 (.inl ⟨by rfl, ?h14_514⟩) ?r14_514
          case h14_514 =>
            intro W hSW
            unfold oColH25
            try dsimp only at hSW
            have d0 := (hSW.cell (p := ⟨b, off + p, none⟩) HP.out.1).trans HP.out.2
            go_simp
            try with_reducible rfl
          try simp only [oColH25, PT]
          refine rdyH [9] ?_
          refine AllReadyH.cons (o := oColH21) rfl (fun K hK => ?_) AllReadyH.nil
          unfold oColH21
          go_simp
          refine (HX.out _ hv0).mono ?_
          rintro e w1 ⟨rfl, b1⟩
          have hv1 : Below wr.heap.size wr w1 := hv0.trans (b1.mono hv0.size)
          clear b1
          refine hK.out _ _ (hv1) (fun hHeld => ?_)
          clear hK K
          try simp only [PT]
          refine rdyH [15] ?_
          refine AllReadyH.cons (o := oColH26) rfl (fun K hK => ?_) AllReadyH.nil
          unfold oColH26
          go_simp
          refine (HZ.out _ hv1).mono ?_
          rintro e w2 ⟨rfl, b2⟩
          have hv2 : Below wr.heap.size wr w2 := hv1.trans (b2.mono hv1.size)
          clear b2
          refine hK.out _ _ (hv2) (fun hHeld => ?_)
          clear hK K
          try simp only [PT]
          refine tkH 16 oColH16 ?v16_515 (.inl ⟨by rfl, ?h16_515⟩) ?r16_515
          case h16_515 =>
            intro W hSW
            unfold oColH16
            try dsimp only at hSW
            go_simp
            try with_reducible rfl
          try simp only [oColH16, PT]
          refine tkH 17 oColH17 ?v17_516 (.inl ⟨by rfl, ?h17_516⟩) ?r17_516
          case h17_516 =>
            intro W hSW
            unfold oColH17
            try dsimp only at hSW
            go_simp
            try with_reducible rfl
          try simp only [oColH17, PT]
          refine tkH 18 oColH18 ?v18_517 (.inl ⟨by rfl, ?h18_517⟩) ?r18_517
          case h18_517 =>
            intro W hSW
            unfold oColH18
            try dsimp only at hSW
            go_simp
            try with_reducible rfl
          try simp only [oColH18, PT]
          refine wpAnyH_done (by kernel_rfl) ?_ _
          by_cases hv : y2 < z2
          · go_wp2_with fail
            go_roundw
            case rel => exact ⟨_, j + 1, rfl, by omega, by go_num, by rw [HSC.out hv]; rfl, Lib.hid (HBR.out.trans (hv2.mono HBR.out.size))⟩
            case measure => simp [intOf]; omega
          · go_wp2_with fail
            go_roundw
            case rel => exact ⟨_, j + 1, rfl, by omega, by go_num, by rw [HSD.out hv]; rfl, Lib.hid (HBR.out.trans (hv2.mono HBR.out.size))⟩
            case measure => simp [intOf]; omega
    · obtain rfl : j = n := by omega
      have HSO := Lib.hid hso
      clear hso
      go_wp2_with fail
      go_ret
      exact ⟨by rw [HSO.out]; rfl, HBR.out⟩
end Go.Proofs.YtihhkcndcgljbaaGreat
