/- Insertion sort of a part of a row of ints, with layer 33's closure. Conditions: the part lies in the row, which has at most 1000 elements. -/
import Derived.Test.YtegjfobanjkimaaSrt2
import Derived.Test.YtegjfobanjkimaaHeld2
namespace Go.Proofs.Ytegjfobanjkimaa
set_option linter.unusedVariables false
set_option linter.unusedSimpArgs false
open Go.RowKit
/-- split's closure, over what it has captured -/
abbrev firstF (bt bw bs : Nat) : Value := .func (.func 16) #[] #[.pointer (some ⟨bt, 0, none⟩), .pointer (some ⟨bw, 0, none⟩), .pointer (some ⟨bs, 0, none⟩)]
/-- what the closure answers, whatever has turned in block g since w0 -/
def CmpOk (w0 : World) (g n bt bw bs : Nat) (ls : Int → Int → Bool) : Prop := ∀ W, w0.grownBy W (some g) → ∀ x y : Int, 0 ≤ x → x < n → 0 ≤ y → y < n →
  Calls Try.prog 16 #[.int .i64 x, .int .i64 y, .pointer (some ⟨bt, 0, none⟩), .pointer (some ⟨bw, 0, none⟩), .pointer (some ⟨bs, 0, none⟩)] W fun e w' => ∃ c : Int, e = .returned (.int .i64 c) ∧ decide (c < 0) = ls x y ∧ Below W.heap.size W w'
/-- the row holds indices -/
def Rng (n : Nat) (d : Nat → Int) : Prop := ∀ t, t < n → 0 ≤ d t ∧ d t < n
theorem Rng.mv {n a b : Nat} {d e : Nat → Int} (h : Rng n d) (hm : So.Mv a b d e) (hb : b ≤ n) : Rng n e := fun t ht => by
  by_cases hc : a ≤ t ∧ t < b
  · obtain ⟨s, s1, s2, s3⟩ := hm.mem hc.1 hc.2
    rw [s3]; exact h s (by omega)
  · rw [hm.out hc]; exact h t ht
/-- what sorting a part of the row cur leaves -/
def SortRes (R : Int → Int → Prop) (g n a b : Nat) (cur : Nat → Int) (w : World) (en : Ending) (w' : World) : Prop := en = .returned (.tuple #[]) ∧ ∃ f, FRow w' g n f ∧ So.Mv a b cur f ∧ So.Srt R f a b ∧ w.grownBy w' (some g)
theorem insertion_none (cv : Value) (R : Int → Int → Prop) (g n c a b : Nat) (hab : b ≤ a) (hn : n ≤ 1000) (ha : a ≤ 2000) (cur : Nat → Int) (w : World) (hr : FRow w g n cur) :
    Calls Try.prog 25 #[.slice (some ⟨g, 0, none⟩) n c, .int .i64 a, .int .i64 b, cv] w (SortRes R g n a b cur w) := by
  obtain ⟨i0, hi0⟩ : ∃ i, a + 1 = i := ⟨_, rfl⟩
  have q0 : (a : Int) + 1 = (i0 : Int) := by omega
  have w0' : IntKind.i64.wrap (i0 : Int) = (i0 : Int) := IntWalk.i64_in _ (by omega)
  have e0 : ¬ ((i0 : Int) < (b : Int)) := by omega
  have HR := Lib.hid hr
  clear hr hi0
  go_enter Try.func25, Try.ntmps25
  go_wp2
  refine wp_loop_rounds 1 ?_
  rw [rounds_succ]
  go_wp2
  go_end0
  exact ⟨rfl, cur, HR.out, So.Mv.refl _ _ _, So.Srt.one R cur (by omega), World.grownBy.refl _ _⟩
set_option maxRecDepth 100000 in
set_option maxHeartbeats 4000000 in
theorem insertion_any (w0 : World) (g n c bt bw bs : Nat) (R : Int → Int → Prop) (ls : Int → Int → Bool) (O : So.Ord R) (HC0 : CmpOk w0 g n bt bw bs ls) (a b : Nat) (hab : a < b) (hbn : b ≤ n) (hn : n ≤ 1000) (cur : Nat → Int) (hrg : Rng n cur) (hinc : ∀ x y, a ≤ x → x < y → y < b → So.Cr R ls (cur x) (cur y)) (w : World) (hg0 : w0.grownBy w (some g)) (hr : FRow w g n cur) :
    Calls Try.prog 25 #[.slice (some ⟨g, 0, none⟩) n c, .int .i64 a, .int .i64 b, firstF bt bw bs] w (SortRes R g n a b cur w) := by
  obtain ⟨i0, hi0⟩ : ∃ i, a + 1 = i := ⟨_, rfl⟩
  have q0 : (a : Int) + 1 = (i0 : Int) := by omega
  have w0' : IntKind.i64.wrap (i0 : Int) = (i0 : Int) := IntWalk.i64_in _ (by omega)
  have hib : i0 ≤ b ∧ a < i0 := by omega
  have HIB := Lib.hid hib
  have HR := Lib.hid hr
  have HCC := Lib.hid HC0
  have HO := Lib.hid O
  have HRG := Lib.hid hrg
  have HINC := Lib.hid hinc
  have HG0 := Lib.hid hg0
  have HI0 := Lib.hid hi0
  clear hr HC0 O hrg hinc hg0 hi0 hib
  go_enter Try.func25, Try.ntmps25
  go_wp2
  go_loopw [8] (fun u8 wr => ∃ (i : Nat) (row : Nat → Int), a < i ∧ i ≤ b ∧ u8 = .int .i64 i ∧ Hid (FRow wr g n row) ∧ Hid (So.Srt R row a i) ∧ Hid (So.Mv a i cur row) ∧ w.grownBy wr (some g)) (fun u8 _ => b - (intOf u8).toNat)
  case atStart => exact ⟨i0, cur, HIB.out.2, HIB.out.1, rfl, HR.out, So.Srt.one R cur (by have := HI0.out; omega), So.Mv.refl _ _ _, World.grownBy.refl _ _⟩
  case round =>
    clear q0 w0'
    obtain ⟨i, row, hai, hib, rfl, HF, HS, HM, hg⟩ := hrel
    have HG := Lib.hid hg
    by_cases hlt : i < b
    · have i1 : (i : Int) < (b : Int) := by omega
      obtain ⟨ii, hii⟩ : ∃ x, i + 1 = x := ⟨_, rfl⟩
      have qi : (i : Int) + 1 = (ii : Int) := by omega
      have wi : IntKind.i64.wrap (ii : Int) = (ii : Int) := IntWalk.i64_in _ (by omega)
      have HII := Lib.hid hii
      have HTW : Hid (So.Two R ls row a i (i + 1)) := Lib.hid (by
        refine ⟨HS.out, So.Srt.one R row (by omega), fun x y h1 h2 h3 h4 => ?_⟩
        obtain rfl : y = i := by omega
        obtain ⟨s, s1, s2, s3⟩ := HM.out.mem h1 h2
        rw [s3, HM.out.out (t := y) (by omega)]
        exact HINC.out s y s1 s2 hlt)
      have HRR := Lib.hid (HRG.out.mv HM.out (by omega))
      clear hg hii
      go_wp2_with fail
      go_loopw [9] (fun u9 wy => ∃ (wx : World) (j : Nat), wx = wy ∧ a ≤ j ∧ j ≤ i ∧ u9 = .int .i64 j ∧ Hid (FRow wx g n (So.rot row j i (i + 1))) ∧ Hid (j < i → ls (row i) (row j) = true) ∧ w.grownBy wx (some g)) (fun u9 _ => (intOf u9).toNat)
      case atStart => exact ⟨_, i, rfl, by omega, Nat.le_refl _, rfl, by rw [So.rot_id']; exact HF.out, fun h => absurd h (Nat.lt_irrefl _), HG.out⟩
      case round =>
        obtain ⟨wx, j, rfl, haj, hji, rfl, HFJ, HLJ, hgj⟩ := hrel
        have HGJ := Lib.hid hgj
        have hbw : w.heap.size ≤ wx.heap.size := hgj.size
        by_cases hja : a < j
        · obtain ⟨j', hj'⟩ : ∃ x, j - 1 = x := ⟨_, rfl⟩
          have qj : (j : Int) - 1 = (j' : Int) := by omega
          have wj : IntKind.i64.wrap (j' : Int) = (j' : Int) := IntWalk.i64_in _ (by omega)
          have j1 : (a : Int) < (j : Int) := by omega
          have j2 : (0 : Int) ≤ (j : Int) := by omega
          have j3 : (j : Int) < (n : Int) := by omega
          have j4 : (0 : Int) ≤ (j' : Int) := by omega
          have j5 : (j' : Int) < (n : Int) := by omega
          have hjn : j < n := by omega
          have hjn' : j' < n := by omega
          have hv1 : So.rot row j i (i + 1) j = row i := So.rot_at row hji
          have hv2 : So.rot row j i (i + 1) j' = row j' := So.rot_below row (by omega) _
          have C1 := Lib.hid (show wx.cell? ⟨g, j, none⟩ = some (.int .i64 (row i)) by rw [← hv1]; exact HFJ.out.cell j hjn)
          have C2 := Lib.hid (show wx.cell? ⟨g, j', none⟩ = some (.int .i64 (row j')) by rw [← hv2]; exact HFJ.out.cell j' hjn')
          have hr1 := HRR.out i (by omega)
          have hr2 := HRR.out j' hjn'
          have HCM := Lib.hid (fun (W : World) (hW : Below wx.heap.size wx W) => HCC.out W ((HG0.out.trans HGJ.out).trans (grownBy_of_below hW).any) (row i) (row j') hr1.1 hr1.2 hr2.1 hr2.2)
          have HGL := Lib.hid HFJ.out.lt
          obtain ⟨x, hx⟩ : ∃ x, row i = x := ⟨_, rfl⟩
          obtain ⟨y, hy⟩ : ∃ y, row j' = y := ⟨_, rfl⟩
          obtain ⟨q, hq⟩ : ∃ q, ls x y = q := ⟨_, rfl⟩
          rw [hx] at C1 HCM
          rw [hy] at C2 HCM
          rw [hq] at HCM
          have HXY := Lib.hid (And.intro hx (And.intro hy hq))
          have HJJ := Lib.hid hj'
          clear hgj hj' hv1 hv2 hr1 hr2 hx hy hq
          cases q with
          | false =>
            go_wp2_with fail
            have hv0 : Below wx.heap.size wx wx.drew := (Below.refl _ _).drew
            refine wp_region_held_drew (S := fun W => Below wx.heap.size wx W) (by kernel_rfl) (hv0) (fun hHeld => ?_)
            refine wpAnyH_take (i := 0) (oi := { dst := some 18, op := Op.move (Operand.tmp 9), type := 3, pos := "zsortanyfunc.go:12", after := #[], guard := none }) (v := ?v0_1001) rfl (by kernel_rfl) (by kernel_rfl) (by kernel_rfl) (fun _ _ _ h => h) (Or.inl ⟨by rfl, ?h0_1001⟩) (by assumption) ?r0_1001
            case h0_1001 =>
              intro W hSW
              try dsimp only at hSW
              go_simp
              try with_reducible rfl
            try simp only [Act.put, List.setIfInBounds_toArray, List.set_cons_zero, List.set_cons_succ]
            refine wpAnyH_take (i := 1) (oi := { dst := some 19, op := Op.move (Operand.tmp 1), type := 3, pos := "zsortanyfunc.go:12", after := #[], guard := none }) (v := ?v1_1002) rfl (by kernel_rfl) (by kernel_rfl) (by kernel_rfl) (fun _ _ _ h => h) (Or.inl ⟨by rfl, ?h1_1002⟩) (by assumption) ?r1_1002
            case h1_1002 =>
              intro W hSW
              try dsimp only at hSW
              go_simp
              try with_reducible rfl
            try simp only [Act.put, List.setIfInBounds_toArray, List.set_cons_zero, List.set_cons_succ]
            refine wpAnyH_take (i := 2) (oi := { dst := some 20, op := Op.binOp BinOp.gtr 3 (Operand.tmp 18) (Operand.tmp 19) 3, type := 4, pos := "zsortanyfunc.go:12", after := #[{ on := 0, ground := Ground.data }, { on := 1, ground := Ground.data }], guard := none }) (v := ?v2_1003) rfl (by kernel_rfl) (by kernel_rfl) (by kernel_rfl) (fun _ _ _ h => h) (Or.inl ⟨by rfl, ?h2_1003⟩) (by assumption) ?r2_1003
            case h2_1003 =>
              intro W hSW
              try dsimp only at hSW
              go_simp
              try with_reducible rfl
            try simp only [Act.put, List.setIfInBounds_toArray, List.set_cons_zero, List.set_cons_succ]
            refine wpAnyH_take (i := 3) (oi := { dst := some 21, op := Op.move (Operand.tmp 20), type := 4, pos := "zsortanyfunc.go:12", after := #[{ on := 2, ground := Ground.data }], guard := none }) (v := ?v3_1004) rfl (by kernel_rfl) (by kernel_rfl) (by kernel_rfl) (fun _ _ _ h => h) (Or.inl ⟨by rfl, ?h3_1004⟩) (by assumption) ?r3_1004
            case h3_1004 =>
              intro W hSW
              try dsimp only at hSW
              go_simp
              try with_reducible rfl
            try simp only [Act.put, List.setIfInBounds_toArray, List.set_cons_zero, List.set_cons_succ]
            refine wpAnyH_take (i := 4) (oi := { dst := some 22, op := Op.move (Operand.tmp 3), type := 35, pos := "zsortanyfunc.go:12", after := #[{ on := 3, ground := Ground.guard }], guard := some (3, true) }) (v := ?v4_1005) rfl (by kernel_rfl) (by kernel_rfl) (by kernel_rfl) (fun _ _ _ h => h) (Or.inl ⟨by rfl, ?h4_1005⟩) (by assumption) ?r4_1005
            case h4_1005 =>
              intro W hSW
              try dsimp only at hSW
              go_simp
              try with_reducible rfl
            try simp only [Act.put, List.setIfInBounds_toArray, List.set_cons_zero, List.set_cons_succ]
            refine wpAnyH_take (i := 5) (oi := { dst := some 23, op := Op.move (Operand.tmp 0), type := 22, pos := "zsortanyfunc.go:12", after := #[{ on := 3, ground := Ground.guard }], guard := some (3, true) }) (v := ?v5_1006) rfl (by kernel_rfl) (by kernel_rfl) (by kernel_rfl) (fun _ _ _ h => h) (Or.inl ⟨by rfl, ?h5_1006⟩) (by assumption) ?r5_1006
            case h5_1006 =>
              intro W hSW
              try dsimp only at hSW
              go_simp
              try with_reducible rfl
            try simp only [Act.put, List.setIfInBounds_toArray, List.set_cons_zero, List.set_cons_succ]
            refine wpAnyH_take (i := 6) (oi := { dst := some 24, op := Op.move (Operand.tmp 9), type := 3, pos := "zsortanyfunc.go:12", after := #[{ on := 3, ground := Ground.guard }], guard := some (3, true) }) (v := ?v6_1007) rfl (by kernel_rfl) (by kernel_rfl) (by kernel_rfl) (fun _ _ _ h => h) (Or.inl ⟨by rfl, ?h6_1007⟩) (by assumption) ?r6_1007
            case h6_1007 =>
              intro W hSW
              try dsimp only at hSW
              go_simp
              try with_reducible rfl
            try simp only [Act.put, List.setIfInBounds_toArray, List.set_cons_zero, List.set_cons_succ]
            refine wpAnyH_take (i := 7) (oi := { dst := some 25, op := Op.indexAddr 22 (Operand.tmp 23) (Operand.tmp 24), type := 0, pos := "zsortanyfunc.go:12", after := #[{ on := 5, ground := Ground.data }, { on := 6, ground := Ground.data }, { on := 3, ground := Ground.guard }], guard := some (3, true) }) (v := ?v7_1008) rfl (by kernel_rfl) (by kernel_rfl) (by kernel_rfl) (fun _ _ _ h => h) (Or.inl ⟨by rfl, ?h7_1008⟩) (by assumption) ?r7_1008
            case h7_1008 =>
              intro W hSW
              try dsimp only at hSW
              go_simp
              try with_reducible rfl
            try simp only [Act.put, List.setIfInBounds_toArray, List.set_cons_zero, List.set_cons_succ]
            refine wpAnyH_take (i := 8) (oi := { dst := some 26, op := Op.load 3 (Operand.tmp 25), type := 3, pos := "zsortanyfunc.go:12", after := #[{ on := 7, ground := Ground.data }, { on := 3, ground := Ground.guard }], guard := some (3, true) }) (v := ?v8_1009) rfl (by kernel_rfl) (by kernel_rfl) (by kernel_rfl) (fun _ _ _ h => h) (Or.inl ⟨by rfl, ?h8_1009⟩) (by assumption) ?r8_1009
            case h8_1009 =>
              intro W hSW
              try dsimp only at hSW
              have hc0 := (hSW.cell (p := ⟨g, j, none⟩) HGL.out).trans C1.out
              go_simp
              try with_reducible rfl
            try simp only [Act.put, List.setIfInBounds_toArray, List.set_cons_zero, List.set_cons_succ]
            refine wpAnyH_take (i := 9) (oi := { dst := some 27, op := Op.move (Operand.tmp 0), type := 22, pos := "zsortanyfunc.go:12", after := #[{ on := 3, ground := Ground.guard }], guard := some (3, true) }) (v := ?v9_1010) rfl (by kernel_rfl) (by kernel_rfl) (by kernel_rfl) (fun _ _ _ h => h) (Or.inl ⟨by rfl, ?h9_1010⟩) (by assumption) ?r9_1010
            case h9_1010 =>
              intro W hSW
              try dsimp only at hSW
              go_simp
              try with_reducible rfl
            try simp only [Act.put, List.setIfInBounds_toArray, List.set_cons_zero, List.set_cons_succ]
            refine wpAnyH_take (i := 10) (oi := { dst := some 28, op := Op.move (Operand.tmp 9), type := 3, pos := "zsortanyfunc.go:12", after := #[{ on := 3, ground := Ground.guard }], guard := some (3, true) }) (v := ?v10_1011) rfl (by kernel_rfl) (by kernel_rfl) (by kernel_rfl) (fun _ _ _ h => h) (Or.inl ⟨by rfl, ?h10_1011⟩) (by assumption) ?r10_1011
            case h10_1011 =>
              intro W hSW
              try dsimp only at hSW
              go_simp
              try with_reducible rfl
            try simp only [Act.put, List.setIfInBounds_toArray, List.set_cons_zero, List.set_cons_succ]
            refine wpAnyH_take (i := 11) (oi := { dst := some 29, op := Op.binOp BinOp.sub 3 (Operand.tmp 28) (Operand.const (Value.int IntKind.i64 1)) 3, type := 3, pos := "zsortanyfunc.go:12", after := #[{ on := 10, ground := Ground.data }, { on := 3, ground := Ground.guard }], guard := some (3, true) }) (v := ?v11_1012) rfl (by kernel_rfl) (by kernel_rfl) (by kernel_rfl) (fun _ _ _ h => h) (Or.inl ⟨by rfl, ?h11_1012⟩) (by assumption) ?r11_1012
            case h11_1012 =>
              intro W hSW
              try dsimp only at hSW
              go_simp
              try with_reducible rfl
            try simp only [Act.put, List.setIfInBounds_toArray, List.set_cons_zero, List.set_cons_succ]
            refine wpAnyH_take (i := 12) (oi := { dst := some 30, op := Op.indexAddr 22 (Operand.tmp 27) (Operand.tmp 29), type := 0, pos := "zsortanyfunc.go:12", after := #[{ on := 9, ground := Ground.data }, { on := 11, ground := Ground.data }, { on := 3, ground := Ground.guard }], guard := some (3, true) }) (v := ?v12_1013) rfl (by kernel_rfl) (by kernel_rfl) (by kernel_rfl) (fun _ _ _ h => h) (Or.inl ⟨by rfl, ?h12_1013⟩) (by assumption) ?r12_1013
            case h12_1013 =>
              intro W hSW
              try dsimp only at hSW
              go_simp
              try with_reducible rfl
            try simp only [Act.put, List.setIfInBounds_toArray, List.set_cons_zero, List.set_cons_succ]
            refine wpAnyH_take (i := 13) (oi := { dst := some 31, op := Op.load 3 (Operand.tmp 30), type := 3, pos := "zsortanyfunc.go:12", after := #[{ on := 12, ground := Ground.data }, { on := 3, ground := Ground.guard }], guard := some (3, true) }) (v := ?v13_1014) rfl (by kernel_rfl) (by kernel_rfl) (by kernel_rfl) (fun _ _ _ h => h) (Or.inl ⟨by rfl, ?h13_1014⟩) (by assumption) ?r13_1014
            case h13_1014 =>
              intro W hSW
              try dsimp only at hSW
              have hc0 := (hSW.cell (p := ⟨g, j', none⟩) HGL.out).trans C2.out
              go_simp
              try with_reducible rfl
            try simp only [Act.put, List.setIfInBounds_toArray, List.set_cons_zero, List.set_cons_succ]
            refine wpAnyH_ready (rs := [14]) (by kernel_rfl) (by simp) ?_
            refine AllReadyH.cons (o := { dst := some 32, op := Op.call { callee := Callee.value (Operand.tmp 22), args := #[Operand.tmp 26, Operand.tmp 31], argTypes := #[3, 3] }, type := 3, pos := "zsortanyfunc.go:12", after := #[{ on := 4, ground := Ground.data }, { on := 8, ground := Ground.data }, { on := 13, ground := Ground.data }, { on := 3, ground := Ground.chain }, { on := 3, ground := Ground.guard }], guard := some (3, true) }) rfl (fun K hK => ?_) AllReadyH.nil
            go_simp
            refine (HCM.out _ hv0).mono ?_
            rintro e w1 ⟨cc, rfl, hcc2, b1⟩
            have hv1 : Below wx.heap.size wx w1 := hv0.trans (b1.mono hv0.size)
            go_wp2_with fail
            refine hK.out _ _ (hv1) (fun hHeld => ?_)
            clear hK K
            try simp only [Act.put, List.setIfInBounds_toArray, List.set_cons_zero, List.set_cons_succ]
            refine wpAnyH_take (i := 15) (oi := { dst := some 33, op := Op.binOp BinOp.lss 3 (Operand.tmp 32) (Operand.const (Value.int IntKind.i64 0)) 3, type := 4, pos := "zsortanyfunc.go:12", after := #[{ on := 14, ground := Ground.data }, { on := 3, ground := Ground.guard }], guard := some (3, true) }) (v := ?v15_1015) rfl (by kernel_rfl) (by kernel_rfl) (by kernel_rfl) (fun _ _ _ h => h) (Or.inl ⟨by rfl, ?h15_1015⟩) (by assumption) ?r15_1015
            case h15_1015 =>
              intro W hSW
              try dsimp only at hSW
              go_simp
              try with_reducible rfl
            try simp only [Act.put, List.setIfInBounds_toArray, List.set_cons_zero, List.set_cons_succ]
            refine wpAnyH_take (i := 16) (oi := { dst := some 34, op := Op.pick (Operand.tmp 21) (Operand.tmp 33) (Operand.const (Value.bool false)), type := 4, pos := "zsortanyfunc.go:12", after := #[{ on := 3, ground := Ground.data }, { on := 15, ground := Ground.data }], guard := none }) (v := ?v16_1016) rfl (by kernel_rfl) (by kernel_rfl) (by kernel_rfl) (fun _ _ _ h => h) (Or.inl ⟨by rfl, ?h16_1016⟩) (by assumption) ?r16_1016
            case h16_1016 =>
              intro W hSW
              try dsimp only at hSW
              go_simp
              try with_reducible rfl
            try simp only [Act.put, List.setIfInBounds_toArray, List.set_cons_zero, List.set_cons_succ]
            refine wpAnyH_done (by kernel_rfl) ?_ _
            have F5 := HFJ.out.below hv1
            have G5 := HGJ.out.trans (grownBy_of_below hv1).any
            have HN := Lib.hid (So.merge_r HO.out HTW.out rfl haj hji (fun _ => by rw [HJJ.out, HXY.out.1, HXY.out.2.1]; exact HXY.out.2.2) HLJ.out)
            clear hHeld
            go_wp2_with fail
            go_roundw
            case rel => exact ⟨ii, _, by have := HII.out; omega, by have := HII.out; omega, by go_num, F5, by rw [← HII.out]; exact HN.out.1, by rw [← HII.out]; exact (HM.out.mono (Nat.le_refl _) (by omega)).trans HN.out.2, G5⟩
            case measure => have := HII.out; simp [intOf]; omega
          | true =>
            go_wp2_with fail
            have hv0 : Below wx.heap.size wx wx.drew := (Below.refl _ _).drew
            refine wp_region_held_drew (S := fun W => Below wx.heap.size wx W) (by kernel_rfl) (hv0) (fun hHeld => ?_)
            refine wpAnyH_take (i := 0) (oi := { dst := some 18, op := Op.move (Operand.tmp 9), type := 3, pos := "zsortanyfunc.go:12", after := #[], guard := none }) (v := ?v0_2001) rfl (by kernel_rfl) (by kernel_rfl) (by kernel_rfl) (fun _ _ _ h => h) (Or.inl ⟨by rfl, ?h0_2001⟩) (by assumption) ?r0_2001
            case h0_2001 =>
              intro W hSW
              try dsimp only at hSW
              go_simp
              try with_reducible rfl
            try simp only [Act.put, List.setIfInBounds_toArray, List.set_cons_zero, List.set_cons_succ]
            refine wpAnyH_take (i := 1) (oi := { dst := some 19, op := Op.move (Operand.tmp 1), type := 3, pos := "zsortanyfunc.go:12", after := #[], guard := none }) (v := ?v1_2002) rfl (by kernel_rfl) (by kernel_rfl) (by kernel_rfl) (fun _ _ _ h => h) (Or.inl ⟨by rfl, ?h1_2002⟩) (by assumption) ?r1_2002
            case h1_2002 =>
              intro W hSW
              try dsimp only at hSW
              go_simp
              try with_reducible rfl
            try simp only [Act.put, List.setIfInBounds_toArray, List.set_cons_zero, List.set_cons_succ]
            refine wpAnyH_take (i := 2) (oi := { dst := some 20, op := Op.binOp BinOp.gtr 3 (Operand.tmp 18) (Operand.tmp 19) 3, type := 4, pos := "zsortanyfunc.go:12", after := #[{ on := 0, ground := Ground.data }, { on := 1, ground := Ground.data }], guard := none }) (v := ?v2_2003) rfl (by kernel_rfl) (by kernel_rfl) (by kernel_rfl) (fun _ _ _ h => h) (Or.inl ⟨by rfl, ?h2_2003⟩) (by assumption) ?r2_2003
            case h2_2003 =>
              intro W hSW
              try dsimp only at hSW
              go_simp
              try with_reducible rfl
            try simp only [Act.put, List.setIfInBounds_toArray, List.set_cons_zero, List.set_cons_succ]
            refine wpAnyH_take (i := 3) (oi := { dst := some 21, op := Op.move (Operand.tmp 20), type := 4, pos := "zsortanyfunc.go:12", after := #[{ on := 2, ground := Ground.data }], guard := none }) (v := ?v3_2004) rfl (by kernel_rfl) (by kernel_rfl) (by kernel_rfl) (fun _ _ _ h => h) (Or.inl ⟨by rfl, ?h3_2004⟩) (by assumption) ?r3_2004
            case h3_2004 =>
              intro W hSW
              try dsimp only at hSW
              go_simp
              try with_reducible rfl
            try simp only [Act.put, List.setIfInBounds_toArray, List.set_cons_zero, List.set_cons_succ]
            refine wpAnyH_take (i := 4) (oi := { dst := some 22, op := Op.move (Operand.tmp 3), type := 35, pos := "zsortanyfunc.go:12", after := #[{ on := 3, ground := Ground.guard }], guard := some (3, true) }) (v := ?v4_2005) rfl (by kernel_rfl) (by kernel_rfl) (by kernel_rfl) (fun _ _ _ h => h) (Or.inl ⟨by rfl, ?h4_2005⟩) (by assumption) ?r4_2005
            case h4_2005 =>
              intro W hSW
              try dsimp only at hSW
              go_simp
              try with_reducible rfl
            try simp only [Act.put, List.setIfInBounds_toArray, List.set_cons_zero, List.set_cons_succ]
            refine wpAnyH_take (i := 5) (oi := { dst := some 23, op := Op.move (Operand.tmp 0), type := 22, pos := "zsortanyfunc.go:12", after := #[{ on := 3, ground := Ground.guard }], guard := some (3, true) }) (v := ?v5_2006) rfl (by kernel_rfl) (by kernel_rfl) (by kernel_rfl) (fun _ _ _ h => h) (Or.inl ⟨by rfl, ?h5_2006⟩) (by assumption) ?r5_2006
            case h5_2006 =>
              intro W hSW
              try dsimp only at hSW
              go_simp
              try with_reducible rfl
            try simp only [Act.put, List.setIfInBounds_toArray, List.set_cons_zero, List.set_cons_succ]
            refine wpAnyH_take (i := 6) (oi := { dst := some 24, op := Op.move (Operand.tmp 9), type := 3, pos := "zsortanyfunc.go:12", after := #[{ on := 3, ground := Ground.guard }], guard := some (3, true) }) (v := ?v6_2007) rfl (by kernel_rfl) (by kernel_rfl) (by kernel_rfl) (fun _ _ _ h => h) (Or.inl ⟨by rfl, ?h6_2007⟩) (by assumption) ?r6_2007
            case h6_2007 =>
              intro W hSW
              try dsimp only at hSW
              go_simp
              try with_reducible rfl
            try simp only [Act.put, List.setIfInBounds_toArray, List.set_cons_zero, List.set_cons_succ]
            refine wpAnyH_take (i := 7) (oi := { dst := some 25, op := Op.indexAddr 22 (Operand.tmp 23) (Operand.tmp 24), type := 0, pos := "zsortanyfunc.go:12", after := #[{ on := 5, ground := Ground.data }, { on := 6, ground := Ground.data }, { on := 3, ground := Ground.guard }], guard := some (3, true) }) (v := ?v7_2008) rfl (by kernel_rfl) (by kernel_rfl) (by kernel_rfl) (fun _ _ _ h => h) (Or.inl ⟨by rfl, ?h7_2008⟩) (by assumption) ?r7_2008
            case h7_2008 =>
              intro W hSW
              try dsimp only at hSW
              go_simp
              try with_reducible rfl
            try simp only [Act.put, List.setIfInBounds_toArray, List.set_cons_zero, List.set_cons_succ]
            refine wpAnyH_take (i := 8) (oi := { dst := some 26, op := Op.load 3 (Operand.tmp 25), type := 3, pos := "zsortanyfunc.go:12", after := #[{ on := 7, ground := Ground.data }, { on := 3, ground := Ground.guard }], guard := some (3, true) }) (v := ?v8_2009) rfl (by kernel_rfl) (by kernel_rfl) (by kernel_rfl) (fun _ _ _ h => h) (Or.inl ⟨by rfl, ?h8_2009⟩) (by assumption) ?r8_2009
            case h8_2009 =>
              intro W hSW
              try dsimp only at hSW
              have hc0 := (hSW.cell (p := ⟨g, j, none⟩) HGL.out).trans C1.out
              go_simp
              try with_reducible rfl
            try simp only [Act.put, List.setIfInBounds_toArray, List.set_cons_zero, List.set_cons_succ]
            refine wpAnyH_take (i := 9) (oi := { dst := some 27, op := Op.move (Operand.tmp 0), type := 22, pos := "zsortanyfunc.go:12", after := #[{ on := 3, ground := Ground.guard }], guard := some (3, true) }) (v := ?v9_2010) rfl (by kernel_rfl) (by kernel_rfl) (by kernel_rfl) (fun _ _ _ h => h) (Or.inl ⟨by rfl, ?h9_2010⟩) (by assumption) ?r9_2010
            case h9_2010 =>
              intro W hSW
              try dsimp only at hSW
              go_simp
              try with_reducible rfl
            try simp only [Act.put, List.setIfInBounds_toArray, List.set_cons_zero, List.set_cons_succ]
            refine wpAnyH_take (i := 10) (oi := { dst := some 28, op := Op.move (Operand.tmp 9), type := 3, pos := "zsortanyfunc.go:12", after := #[{ on := 3, ground := Ground.guard }], guard := some (3, true) }) (v := ?v10_2011) rfl (by kernel_rfl) (by kernel_rfl) (by kernel_rfl) (fun _ _ _ h => h) (Or.inl ⟨by rfl, ?h10_2011⟩) (by assumption) ?r10_2011
            case h10_2011 =>
              intro W hSW
              try dsimp only at hSW
              go_simp
              try with_reducible rfl
            try simp only [Act.put, List.setIfInBounds_toArray, List.set_cons_zero, List.set_cons_succ]
            refine wpAnyH_take (i := 11) (oi := { dst := some 29, op := Op.binOp BinOp.sub 3 (Operand.tmp 28) (Operand.const (Value.int IntKind.i64 1)) 3, type := 3, pos := "zsortanyfunc.go:12", after := #[{ on := 10, ground := Ground.data }, { on := 3, ground := Ground.guard }], guard := some (3, true) }) (v := ?v11_2012) rfl (by kernel_rfl) (by kernel_rfl) (by kernel_rfl) (fun _ _ _ h => h) (Or.inl ⟨by rfl, ?h11_2012⟩) (by assumption) ?r11_2012
            case h11_2012 =>
              intro W hSW
              try dsimp only at hSW
              go_simp
              try with_reducible rfl
            try simp only [Act.put, List.setIfInBounds_toArray, List.set_cons_zero, List.set_cons_succ]
            refine wpAnyH_take (i := 12) (oi := { dst := some 30, op := Op.indexAddr 22 (Operand.tmp 27) (Operand.tmp 29), type := 0, pos := "zsortanyfunc.go:12", after := #[{ on := 9, ground := Ground.data }, { on := 11, ground := Ground.data }, { on := 3, ground := Ground.guard }], guard := some (3, true) }) (v := ?v12_2013) rfl (by kernel_rfl) (by kernel_rfl) (by kernel_rfl) (fun _ _ _ h => h) (Or.inl ⟨by rfl, ?h12_2013⟩) (by assumption) ?r12_2013
            case h12_2013 =>
              intro W hSW
              try dsimp only at hSW
              go_simp
              try with_reducible rfl
            try simp only [Act.put, List.setIfInBounds_toArray, List.set_cons_zero, List.set_cons_succ]
            refine wpAnyH_take (i := 13) (oi := { dst := some 31, op := Op.load 3 (Operand.tmp 30), type := 3, pos := "zsortanyfunc.go:12", after := #[{ on := 12, ground := Ground.data }, { on := 3, ground := Ground.guard }], guard := some (3, true) }) (v := ?v13_2014) rfl (by kernel_rfl) (by kernel_rfl) (by kernel_rfl) (fun _ _ _ h => h) (Or.inl ⟨by rfl, ?h13_2014⟩) (by assumption) ?r13_2014
            case h13_2014 =>
              intro W hSW
              try dsimp only at hSW
              have hc0 := (hSW.cell (p := ⟨g, j', none⟩) HGL.out).trans C2.out
              go_simp
              try with_reducible rfl
            try simp only [Act.put, List.setIfInBounds_toArray, List.set_cons_zero, List.set_cons_succ]
            refine wpAnyH_ready (rs := [14]) (by kernel_rfl) (by simp) ?_
            refine AllReadyH.cons (o := { dst := some 32, op := Op.call { callee := Callee.value (Operand.tmp 22), args := #[Operand.tmp 26, Operand.tmp 31], argTypes := #[3, 3] }, type := 3, pos := "zsortanyfunc.go:12", after := #[{ on := 4, ground := Ground.data }, { on := 8, ground := Ground.data }, { on := 13, ground := Ground.data }, { on := 3, ground := Ground.chain }, { on := 3, ground := Ground.guard }], guard := some (3, true) }) rfl (fun K hK => ?_) AllReadyH.nil
            go_simp
            refine (HCM.out _ hv0).mono ?_
            rintro e w1 ⟨cc, rfl, hcc2, b1⟩
            have hv1 : Below wx.heap.size wx w1 := hv0.trans (b1.mono hv0.size)
            go_wp2_with fail
            refine hK.out _ _ (hv1) (fun hHeld => ?_)
            clear hK K
            try simp only [Act.put, List.setIfInBounds_toArray, List.set_cons_zero, List.set_cons_succ]
            refine wpAnyH_take (i := 15) (oi := { dst := some 33, op := Op.binOp BinOp.lss 3 (Operand.tmp 32) (Operand.const (Value.int IntKind.i64 0)) 3, type := 4, pos := "zsortanyfunc.go:12", after := #[{ on := 14, ground := Ground.data }, { on := 3, ground := Ground.guard }], guard := some (3, true) }) (v := ?v15_2015) rfl (by kernel_rfl) (by kernel_rfl) (by kernel_rfl) (fun _ _ _ h => h) (Or.inl ⟨by rfl, ?h15_2015⟩) (by assumption) ?r15_2015
            case h15_2015 =>
              intro W hSW
              try dsimp only at hSW
              go_simp
              try with_reducible rfl
            try simp only [Act.put, List.setIfInBounds_toArray, List.set_cons_zero, List.set_cons_succ]
            refine wpAnyH_take (i := 16) (oi := { dst := some 34, op := Op.pick (Operand.tmp 21) (Operand.tmp 33) (Operand.const (Value.bool false)), type := 4, pos := "zsortanyfunc.go:12", after := #[{ on := 3, ground := Ground.data }, { on := 15, ground := Ground.data }], guard := none }) (v := ?v16_2016) rfl (by kernel_rfl) (by kernel_rfl) (by kernel_rfl) (fun _ _ _ h => h) (Or.inl ⟨by rfl, ?h16_2016⟩) (by assumption) ?r16_2016
            case h16_2016 =>
              intro W hSW
              try dsimp only at hSW
              go_simp
              try with_reducible rfl
            try simp only [Act.put, List.setIfInBounds_toArray, List.set_cons_zero, List.set_cons_succ]
            refine wpAnyH_done (by kernel_rfl) ?_ _
            have F5 := HFJ.out.below hv1
            have G5 := HGJ.out.trans (grownBy_of_below hv1).any
            have c1 := F5.cell j hjn
            have c2 := F5.cell j' hjn'
            have f1 := F5.free j hjn
            have f2 := F5.free j' hjn'
            have hne : j ≠ j' := by have := HJJ.out; omega
            have HSW := Lib.hid (F5.swap hjn hjn')
            clear hHeld F5
            go_wp2_with fail
            go_region
            all_goals go_wp2
            go_roundw
            case rel =>
              have hj' := HJJ.out
              refine ⟨_, j', rfl, by omega, by omega, by go_num, ?_, fun _ => by rw [HXY.out.1, HXY.out.2.1]; exact HXY.out.2.2, ?_⟩
              · refine FRow.congr (d := fun t => if t = j' then So.rot row j i (i + 1) j else if t = j then So.rot row j i (i + 1) j' else So.rot row j i (i + 1) t) (by first | exact HSW.out.1 | exact HSW.out.1.drewN _) fun t _ => ?_
                obtain rfl : j = j' + 1 := by omega
                rw [So.rot_down row (show j' + 1 ≤ i by omega) t]
                by_cases e1 : t = j'
                · rw [if_neg (by omega), if_pos e1, if_pos e1]
                · rw [if_neg e1, if_neg e1]
              · exact G5.trans (by first | exact HSW.out.2 | exact grown_drewN HSW.out.2 _)
            case measure => have := HJJ.out; simp [intOf]; omega
        · obtain rfl : j = a := by omega
          have j1 : ¬ ((j : Int) < (j : Int)) := by omega
          have HN := Lib.hid (So.merge_r HO.out HTW.out rfl (Nat.le_refl j) hji (fun h => absurd h (Nat.lt_irrefl _)) HLJ.out)
          clear hgj
          go_wp2_with fail
          have hv0 : Below wx.heap.size wx wx.drew := (Below.refl _ _).drew
          refine wp_region_held_drew (S := fun W => Below wx.heap.size wx W) (by kernel_rfl) (hv0) (fun hHeld => ?_)
          refine wpAnyH_take (i := 0) (oi := { dst := some 18, op := Op.move (Operand.tmp 9), type := 3, pos := "zsortanyfunc.go:12", after := #[], guard := none }) (v := ?v0_3001) rfl (by kernel_rfl) (by kernel_rfl) (by kernel_rfl) (fun _ _ _ h => h) (Or.inl ⟨by rfl, ?h0_3001⟩) (by assumption) ?r0_3001
          case h0_3001 =>
            intro W hSW
            try dsimp only at hSW
            go_simp
            try with_reducible rfl
          try simp only [Act.put, List.setIfInBounds_toArray, List.set_cons_zero, List.set_cons_succ]
          refine wpAnyH_take (i := 1) (oi := { dst := some 19, op := Op.move (Operand.tmp 1), type := 3, pos := "zsortanyfunc.go:12", after := #[], guard := none }) (v := ?v1_3002) rfl (by kernel_rfl) (by kernel_rfl) (by kernel_rfl) (fun _ _ _ h => h) (Or.inl ⟨by rfl, ?h1_3002⟩) (by assumption) ?r1_3002
          case h1_3002 =>
            intro W hSW
            try dsimp only at hSW
            go_simp
            try with_reducible rfl
          try simp only [Act.put, List.setIfInBounds_toArray, List.set_cons_zero, List.set_cons_succ]
          refine wpAnyH_take (i := 2) (oi := { dst := some 20, op := Op.binOp BinOp.gtr 3 (Operand.tmp 18) (Operand.tmp 19) 3, type := 4, pos := "zsortanyfunc.go:12", after := #[{ on := 0, ground := Ground.data }, { on := 1, ground := Ground.data }], guard := none }) (v := ?v2_3003) rfl (by kernel_rfl) (by kernel_rfl) (by kernel_rfl) (fun _ _ _ h => h) (Or.inl ⟨by rfl, ?h2_3003⟩) (by assumption) ?r2_3003
          case h2_3003 =>
            intro W hSW
            try dsimp only at hSW
            go_simp
            try with_reducible rfl
          try simp only [Act.put, List.setIfInBounds_toArray, List.set_cons_zero, List.set_cons_succ]
          refine wpAnyH_take (i := 3) (oi := { dst := some 21, op := Op.move (Operand.tmp 20), type := 4, pos := "zsortanyfunc.go:12", after := #[{ on := 2, ground := Ground.data }], guard := none }) (v := ?v3_3004) rfl (by kernel_rfl) (by kernel_rfl) (by kernel_rfl) (fun _ _ _ h => h) (Or.inl ⟨by rfl, ?h3_3004⟩) (by assumption) ?r3_3004
          case h3_3004 =>
            intro W hSW
            try dsimp only at hSW
            go_simp
            try with_reducible rfl
          try simp only [Act.put, List.setIfInBounds_toArray, List.set_cons_zero, List.set_cons_succ]
          refine wpAnyH_take (i := 4) (oi := { dst := some 22, op := Op.move (Operand.tmp 3), type := 35, pos := "zsortanyfunc.go:12", after := #[{ on := 3, ground := Ground.guard }], guard := some (3, true) }) (v := undef) rfl (by kernel_rfl) (by kernel_rfl) (by kernel_rfl) (fun _ _ _ h => h) (Or.inr ⟨by rfl, rfl⟩) (by assumption) ?_
          try simp only [Act.put, List.setIfInBounds_toArray, List.set_cons_zero, List.set_cons_succ]
          refine wpAnyH_take (i := 5) (oi := { dst := some 23, op := Op.move (Operand.tmp 0), type := 22, pos := "zsortanyfunc.go:12", after := #[{ on := 3, ground := Ground.guard }], guard := some (3, true) }) (v := undef) rfl (by kernel_rfl) (by kernel_rfl) (by kernel_rfl) (fun _ _ _ h => h) (Or.inr ⟨by rfl, rfl⟩) (by assumption) ?_
          try simp only [Act.put, List.setIfInBounds_toArray, List.set_cons_zero, List.set_cons_succ]
          refine wpAnyH_take (i := 6) (oi := { dst := some 24, op := Op.move (Operand.tmp 9), type := 3, pos := "zsortanyfunc.go:12", after := #[{ on := 3, ground := Ground.guard }], guard := some (3, true) }) (v := undef) rfl (by kernel_rfl) (by kernel_rfl) (by kernel_rfl) (fun _ _ _ h => h) (Or.inr ⟨by rfl, rfl⟩) (by assumption) ?_
          try simp only [Act.put, List.setIfInBounds_toArray, List.set_cons_zero, List.set_cons_succ]
          refine wpAnyH_take (i := 7) (oi := { dst := some 25, op := Op.indexAddr 22 (Operand.tmp 23) (Operand.tmp 24), type := 0, pos := "zsortanyfunc.go:12", after := #[{ on := 5, ground := Ground.data }, { on := 6, ground := Ground.data }, { on := 3, ground := Ground.guard }], guard := some (3, true) }) (v := undef) rfl (by kernel_rfl) (by kernel_rfl) (by kernel_rfl) (fun _ _ _ h => h) (Or.inr ⟨by rfl, rfl⟩) (by assumption) ?_
          try simp only [Act.put, List.setIfInBounds_toArray, List.set_cons_zero, List.set_cons_succ]
          refine wpAnyH_take (i := 8) (oi := { dst := some 26, op := Op.load 3 (Operand.tmp 25), type := 3, pos := "zsortanyfunc.go:12", after := #[{ on := 7, ground := Ground.data }, { on := 3, ground := Ground.guard }], guard := some (3, true) }) (v := undef) rfl (by kernel_rfl) (by kernel_rfl) (by kernel_rfl) (fun _ _ _ h => h) (Or.inr ⟨by rfl, rfl⟩) (by assumption) ?_
          try simp only [Act.put, List.setIfInBounds_toArray, List.set_cons_zero, List.set_cons_succ]
          refine wpAnyH_take (i := 9) (oi := { dst := some 27, op := Op.move (Operand.tmp 0), type := 22, pos := "zsortanyfunc.go:12", after := #[{ on := 3, ground := Ground.guard }], guard := some (3, true) }) (v := undef) rfl (by kernel_rfl) (by kernel_rfl) (by kernel_rfl) (fun _ _ _ h => h) (Or.inr ⟨by rfl, rfl⟩) (by assumption) ?_
          try simp only [Act.put, List.setIfInBounds_toArray, List.set_cons_zero, List.set_cons_succ]
          refine wpAnyH_take (i := 10) (oi := { dst := some 28, op := Op.move (Operand.tmp 9), type := 3, pos := "zsortanyfunc.go:12", after := #[{ on := 3, ground := Ground.guard }], guard := some (3, true) }) (v := undef) rfl (by kernel_rfl) (by kernel_rfl) (by kernel_rfl) (fun _ _ _ h => h) (Or.inr ⟨by rfl, rfl⟩) (by assumption) ?_
          try simp only [Act.put, List.setIfInBounds_toArray, List.set_cons_zero, List.set_cons_succ]
          refine wpAnyH_take (i := 11) (oi := { dst := some 29, op := Op.binOp BinOp.sub 3 (Operand.tmp 28) (Operand.const (Value.int IntKind.i64 1)) 3, type := 3, pos := "zsortanyfunc.go:12", after := #[{ on := 10, ground := Ground.data }, { on := 3, ground := Ground.guard }], guard := some (3, true) }) (v := undef) rfl (by kernel_rfl) (by kernel_rfl) (by kernel_rfl) (fun _ _ _ h => h) (Or.inr ⟨by rfl, rfl⟩) (by assumption) ?_
          try simp only [Act.put, List.setIfInBounds_toArray, List.set_cons_zero, List.set_cons_succ]
          refine wpAnyH_take (i := 12) (oi := { dst := some 30, op := Op.indexAddr 22 (Operand.tmp 27) (Operand.tmp 29), type := 0, pos := "zsortanyfunc.go:12", after := #[{ on := 9, ground := Ground.data }, { on := 11, ground := Ground.data }, { on := 3, ground := Ground.guard }], guard := some (3, true) }) (v := undef) rfl (by kernel_rfl) (by kernel_rfl) (by kernel_rfl) (fun _ _ _ h => h) (Or.inr ⟨by rfl, rfl⟩) (by assumption) ?_
          try simp only [Act.put, List.setIfInBounds_toArray, List.set_cons_zero, List.set_cons_succ]
          refine wpAnyH_take (i := 13) (oi := { dst := some 31, op := Op.load 3 (Operand.tmp 30), type := 3, pos := "zsortanyfunc.go:12", after := #[{ on := 12, ground := Ground.data }, { on := 3, ground := Ground.guard }], guard := some (3, true) }) (v := undef) rfl (by kernel_rfl) (by kernel_rfl) (by kernel_rfl) (fun _ _ _ h => h) (Or.inr ⟨by rfl, rfl⟩) (by assumption) ?_
          try simp only [Act.put, List.setIfInBounds_toArray, List.set_cons_zero, List.set_cons_succ]
          refine wpAnyH_take (i := 14) (oi := { dst := some 32, op := Op.call { callee := Callee.value (Operand.tmp 22), args := #[Operand.tmp 26, Operand.tmp 31], argTypes := #[3, 3] }, type := 3, pos := "zsortanyfunc.go:12", after := #[{ on := 4, ground := Ground.data }, { on := 8, ground := Ground.data }, { on := 13, ground := Ground.data }, { on := 3, ground := Ground.chain }, { on := 3, ground := Ground.guard }], guard := some (3, true) }) (v := undef) rfl (by kernel_rfl) (by kernel_rfl) (by kernel_rfl) (fun _ _ _ h => h) (Or.inr ⟨by rfl, rfl⟩) (by assumption) ?_
          try simp only [Act.put, List.setIfInBounds_toArray, List.set_cons_zero, List.set_cons_succ]
          refine wpAnyH_take (i := 15) (oi := { dst := some 33, op := Op.binOp BinOp.lss 3 (Operand.tmp 32) (Operand.const (Value.int IntKind.i64 0)) 3, type := 4, pos := "zsortanyfunc.go:12", after := #[{ on := 14, ground := Ground.data }, { on := 3, ground := Ground.guard }], guard := some (3, true) }) (v := undef) rfl (by kernel_rfl) (by kernel_rfl) (by kernel_rfl) (fun _ _ _ h => h) (Or.inr ⟨by rfl, rfl⟩) (by assumption) ?_
          try simp only [Act.put, List.setIfInBounds_toArray, List.set_cons_zero, List.set_cons_succ]
          refine wpAnyH_take (i := 16) (oi := { dst := some 34, op := Op.pick (Operand.tmp 21) (Operand.tmp 33) (Operand.const (Value.bool false)), type := 4, pos := "zsortanyfunc.go:12", after := #[{ on := 3, ground := Ground.data }, { on := 15, ground := Ground.data }], guard := none }) (v := ?v16_3017) rfl (by kernel_rfl) (by kernel_rfl) (by kernel_rfl) (fun _ _ _ h => h) (Or.inl ⟨by rfl, ?h16_3017⟩) (by assumption) ?r16_3017
          case h16_3017 =>
            intro W hSW
            try dsimp only at hSW
            go_simp
            try with_reducible rfl
          try simp only [Act.put, List.setIfInBounds_toArray, List.set_cons_zero, List.set_cons_succ]
          refine wpAnyH_done (by kernel_rfl) ?_ _
          have F5 := HFJ.out.below hv0
          have G5 := HGJ.out.trans (grownBy_of_below hv0).any
          clear hHeld
          go_wp2_with fail
          go_roundw
          case rel => exact ⟨ii, _, by have := HII.out; omega, by have := HII.out; omega, by go_num, F5, by rw [← HII.out]; exact HN.out.1, by rw [← HII.out]; exact (HM.out.mono (Nat.le_refl _) (by omega)).trans HN.out.2, G5⟩
          case measure => have := HII.out; simp [intOf]; omega
    · obtain rfl : i = b := by omega
      clear hg
      go_wp2_with fail
      go_end0
      exact ⟨rfl, row, HF.out, HM.out, HS.out, HG.out⟩
end Go.Proofs.Ytegjfobanjkimaa
