/- Joined texts: Srt5, Srt6. Conditions: as each part says. -/
import Derived.Test.YtfllkaeaanahmaaGreatSrt4
import Derived.Deep.DeepCutAuto
namespace Go.Proofs.YtfllkaeaanahmaaGreat
set_option linter.unusedVariables false
set_option linter.unusedSimpArgs false
section
namespace W
open Go.RowKit
set_option maxRecDepth 100000 in
set_option maxHeartbeats 8000000 in
theorem sym_gen (w0 : World) (g n c bt bw bs : Nat) (R : Int → Int → Prop) (ls : Int → Int → Bool) (O : So.Ord R) (HC0 : CmpOk w0 g n bt bw bs ls) (a m b : Nat) (ham : a < m) (hmb : m < b) (hbn : b ≤ n) (hn : n ≤ 1000) (cur : Nat → Int) (hrg : Rng n cur) (hT : So.Two R ls cur a m b) (w : World) (hg0 : w0.grownBy w (some g)) (hr : FRow w g n cur) (hm1 : ¬ m = a + 1) (hb1 : ¬ b = m + 1)
  (IH : ∀ a' m' b' : Nat, a' < m' → m' < b' → b' ≤ n → b' - a' < b - a → ∀ cur' : Nat → Int, Rng n cur' → So.Two R ls cur' a' m' b' → ∀ w' : World, w0.grownBy w' (some g) → FRow w' g n cur' →
   Calls Tryz.prog 126 #[.slice (some ⟨g, 0, none⟩) n c, .int .i64 a', .int .i64 m', .int .i64 b', firstF bt bw bs] w' (SortRes R g n a' b' cur' w')) : Calls Tryz.prog 126 #[.slice (some ⟨g, 0, none⟩) n c, .int .i64 a, .int .i64 m, .int .i64 b, firstF bt bw bs] w (SortRes R g n a b cur w) := by
 obtain ⟨d0, hd0⟩ : ∃ x, m - a = x := ⟨_, rfl⟩
 obtain ⟨d1, hd1⟩ : ∃ x, b - m = x := ⟨_, rfl⟩
 have qma : (m : Int) - (a : Int) = (d0 : Int) := by omega
 have wma : IntKind.i64.wrap (d0 : Int) = (d0 : Int) := IntWalk.i64_in _ (by omega)
 have nma : ((d0 : Int) == 1) = false := by rw [beq_eq_false_iff_ne]; omega
 have qbm : (b : Int) - (m : Int) = (d1 : Int) := by omega
 have wbm : IntKind.i64.wrap (d1 : Int) = (d1 : Int) := IntWalk.i64_in _ (by omega)
 have nbm : ((d1 : Int) == 1) = false := by rw [beq_eq_false_iff_ne]; omega
 obtain ⟨z0, hz0⟩ : ∃ z, a + b = z := ⟨_, rfl⟩
 obtain ⟨mid, hmid⟩ : ∃ h, z0 / 2 = h := ⟨_, rfl⟩
 have qz0 : (a : Int) + (b : Int) = (z0 : Int) := by omega
 have wz0 : IntKind.i64.wrap (z0 : Int) = (z0 : Int) := IntWalk.i64_in _ (by omega)
 have uz0 : IntKind.u64.wrap (z0 : Int) = (z0 : Int) := by rw [IntKind.wrap_u64]; omega
 have umid : IntKind.u64.wrap (mid : Int) = (mid : Int) := by rw [IntKind.wrap_u64]; omega
 have wmid : IntKind.i64.wrap (mid : Int) = (mid : Int) := IntWalk.i64_in _ (by omega)
 have qmid : (z0 : Int) / 2 = (mid : Int) := by omega
 obtain ⟨nn, hnn⟩ : ∃ x, mid + m = x := ⟨_, rfl⟩
 have qnn : (mid : Int) + (m : Int) = (nn : Int) := by omega
 have wnn : IntKind.i64.wrap (nn : Int) = (nn : Int) := IntWalk.i64_in _ (by omega)
 obtain ⟨p, hp⟩ : ∃ x, nn - 1 = x := ⟨_, rfl⟩
 have qp : (nn : Int) - 1 = (p : Int) := by omega
 have wp : IntKind.i64.wrap (p : Int) = (p : Int) := IntWalk.i64_in _ (by omega)
 obtain ⟨lo, hlo⟩ : ∃ x, (if mid < m then nn - b else a) = x := ⟨_, rfl⟩
 obtain ⟨hi, hhi⟩ : ∃ x, (if mid < m then mid else m) = x := ⟨_, rfl⟩
 have hbnd : a ≤ lo ∧ lo ≤ hi ∧ hi ≤ m ∧ hi ≤ mid ∧ nn ≤ b + lo ∧ a < mid ∧ mid < b := by
  subst hlo hhi; split <;> omega
 have HBND := Lib.hid hbnd
 have HMID := Lib.hid (show nn = mid + m ∧ mid = (a + b) / 2 ∧ p = nn - 1 by omega)
 have HLO := Lib.hid hlo
 have HHI := Lib.hid hhi
 have HIH := Lib.hid IH
 have HR := Lib.hid hr
 have HCC := Lib.hid HC0
 have HO := Lib.hid O
 have HRG := Lib.hid hrg
 have HT := Lib.hid hT
 have HG0 := Lib.hid hg0
 clear hr HC0 O hrg hT hg0 hd0 hd1 hz0 hmid hnn hp hm1 hb1 hbnd hlo hhi IH
 go_enter Tryz.func126, Tryz.ntmps126
 go_upto_if 140 with fail
 go_cut [20, 21] (fun u20 u21 wx => u20 = .int .i64 lo ∧ u21 = .int .i64 hi ∧ wx = w)
 case first => as_aux_lemma =>
  by_cases hm : mid < m
  ·
   have em : (mid : Int) < (m : Int) := by omega
   have qlo : (nn : Int) - (b : Int) = (lo : Int) := by have h1 := HLO.out; rw [if_pos hm] at h1; have h2 := HMID.out; omega
   have wlo : IntKind.i64.wrap (lo : Int) = (lo : Int) := IntWalk.i64_in _ (by have := HBND.out; omega)
   have ehi : hi = mid := by have h1 := HHI.out; rw [if_pos hm] at h1; exact h1.symm
   have HE := Lib.hid ehi
   clear ehi hm
   go_wp2
   go_meet
   exact ⟨rfl, by rw [HE.out], rfl⟩
  ·
   have em : ¬ ((mid : Int) < (m : Int)) := by omega
   have elo : lo = a := by have h1 := HLO.out; rw [if_neg hm] at h1; exact h1.symm
   have ehi : hi = m := by have h1 := HHI.out; rw [if_neg hm] at h1; exact h1.symm
   have HE := Lib.hid (And.intro elo ehi)
   clear elo ehi hm
   go_wp2
   go_meet
   exact ⟨by rw [HE.out.1], by rw [HE.out.2], rfl⟩
 case rest => as_aux_lemma =>
 obtain ⟨hu1, hu2, hu3⟩ := hcut
 subst hu1 hu2
 rw [hu3]
 clear hu3
 clear qma wma nma qbm wbm nbm qz0 wz0 uz0 umid qmid
 go_wp2_with fail
 go_loopw [20, 21] (fun u20 u21 wr => ∃ i j : Nat, lo ≤ i ∧ i ≤ j ∧ j ≤ hi ∧ u20 = .int .i64 i ∧ u21 = .int .i64 j ∧ Hid (lo < i → ls (cur (nn - i)) (cur (i - 1)) = false) ∧ Hid (j < hi → ls (cur (nn - 1 - j)) (cur j) = true) ∧ Hid (FRow wr g n cur) ∧ w.grownBy wr (some g)) (fun u20 u21 _ => (intOf u21).toNat - (intOf u20).toNat)
 case atStart => exact ⟨lo, hi, Nat.le_refl _, HBND.out.2.1, Nat.le_refl _, rfl, rfl, fun h => absurd h (Nat.lt_irrefl _), fun h => absurd h (Nat.lt_irrefl _), HR.out, World.grownBy.refl _ _⟩
 case round =>
  obtain ⟨i, j, hmi, hij, hjb, rfl, rfl, HP1, HP2, HF, hg⟩ := hrel
  have HG := Lib.hid hg
  obtain ⟨bd1, bd2, bd3, bd4, bd5, bd6, bd7⟩ := HBND.out
  have md := HMID.out
  by_cases hlt : i < j
  ·
   have hij' : (i : Int) < (j : Int) := by omega
   obtain ⟨z, hz⟩ : ∃ z, i + j = z := ⟨_, rfl⟩
   obtain ⟨h, hh⟩ : ∃ h, z / 2 = h := ⟨_, rfl⟩
   have qz : (i : Int) + (j : Int) = (z : Int) := by omega
   have wz : IntKind.i64.wrap (z : Int) = (z : Int) := IntWalk.i64_in _ (by omega)
   have uz : IntKind.u64.wrap (z : Int) = (z : Int) := by rw [IntKind.wrap_u64]; omega
   have uh : IntKind.u64.wrap (h : Int) = (h : Int) := by rw [IntKind.wrap_u64]; omega
   have wh : IntKind.i64.wrap (h : Int) = (h : Int) := IntWalk.i64_in _ (by omega)
   have qh : (z : Int) / 2 = (h : Int) := by omega
   have hh1 : i ≤ h ∧ h < j := by omega
   obtain ⟨h', hh'⟩ : ∃ x, h + 1 = x := ⟨_, rfl⟩
   have qh' : (h : Int) + 1 = (h' : Int) := by omega
   have wh' : IntKind.i64.wrap (h' : Int) = (h' : Int) := IntWalk.i64_in _ (by omega)
   obtain ⟨y, hy'⟩ : ∃ x, p - h = x := ⟨_, rfl⟩
   have qy : (p : Int) - (h : Int) = (y : Int) := by omega
   have wy : IntKind.i64.wrap (y : Int) = (y : Int) := IntWalk.i64_in _ (by omega)
   have x0 : (0 : Int) ≤ (h : Int) := by omega
   have x1 : (h : Int) < (n : Int) := by omega
   have x2 : (0 : Int) ≤ (y : Int) := by omega
   have x3 : (y : Int) < (n : Int) := by omega
   have C1 := Lib.hid (HF.out.cell (y) (by omega))
   have C2 := Lib.hid (HF.out.cell (h) (by omega))
   have hr1 := HRG.out (y) (by omega)
   have hr2 := HRG.out (h) (by omega)
   have HCM := Lib.hid (fun (W : World) (hW : Below wr.heap.size wr W) => HCC.out W ((HG0.out.trans HG.out).trans (grownBy_of_below hW).any) (cur (y)) (cur (h)) hr1.1 hr1.2 hr2.1 hr2.2)
   have HGL := Lib.hid HF.out.lt
   obtain ⟨vx, hx⟩ : ∃ v, cur (y) = v := ⟨_, rfl⟩
   obtain ⟨vy, hy⟩ : ∃ v, cur (h) = v := ⟨_, rfl⟩
   obtain ⟨q, hq⟩ : ∃ q, ls vx vy = q := ⟨_, rfl⟩
   rw [hx] at C1 HCM
   rw [hy] at C2 HCM
   rw [hq] at HCM
   have HXY := Lib.hid (And.intro hx (And.intro hy hq))
   clear hr1 hr2 hx hy hq
   have HHJ := Lib.hid (And.intro hh1 (And.intro hh' (show y = nn - 1 - h by omega)))
   clear hg hz hh hh1 hh' hy' md bd1 bd2 bd3 bd4 bd5 bd6 bd7
   cases q with
   | false => as_aux_lemma =>
    go_wp2_with fail
    have hv0 : Below wr.heap.size wr wr.drew := (Below.refl _ _).drew
    refine wp_region_held_drew (S := fun W => Below wr.heap.size wr W) (by kernel_rfl) (hv0) (fun hHeld => ?_)
    refine wpAnyH_take (i := 0) (oi := { dst := some 158, op := Op.move (Operand.tmp 4), type := 140, pos := "zsortanyfunc.go:441", after := #[], guard := none }) (v := ?v0_1001) rfl (by kernel_rfl) (by kernel_rfl) (by kernel_rfl) (fun _ _ _ h => h) (Or.inl ⟨by rfl, ?h0_1001⟩) (by assumption) ?r0_1001
    case h0_1001 =>
     intro W hSW
     try dsimp only at hSW
     go_simp
     try with_reducible rfl
    try simp only [PT]
    refine wpAnyH_take (i := 1) (oi := { dst := some 159, op := Op.move (Operand.tmp 0), type := 27, pos := "zsortanyfunc.go:441", after := #[], guard := none }) (v := ?v1_1002) rfl (by kernel_rfl) (by kernel_rfl) (by kernel_rfl) (fun _ _ _ h => h) (Or.inl ⟨by rfl, ?h1_1002⟩) (by assumption) ?r1_1002
    case h1_1002 =>
     intro W hSW
     try dsimp only at hSW
     go_simp
     try with_reducible rfl
    try simp only [PT]
    refine wpAnyH_take (i := 2) (oi := { dst := some 160, op := Op.move (Operand.tmp 22), type := 3, pos := "zsortanyfunc.go:441", after := #[], guard := none }) (v := ?v2_1003) rfl (by kernel_rfl) (by kernel_rfl) (by kernel_rfl) (fun _ _ _ h => h) (Or.inl ⟨by rfl, ?h2_1003⟩) (by assumption) ?r2_1003
    case h2_1003 =>
     intro W hSW
     try dsimp only at hSW
     go_simp
     try with_reducible rfl
    try simp only [PT]
    refine wpAnyH_take (i := 3) (oi := { dst := some 161, op := Op.move (Operand.tmp 23), type := 3, pos := "zsortanyfunc.go:441", after := #[], guard := none }) (v := ?v3_1004) rfl (by kernel_rfl) (by kernel_rfl) (by kernel_rfl) (fun _ _ _ h => h) (Or.inl ⟨by rfl, ?h3_1004⟩) (by assumption) ?r3_1004
    case h3_1004 =>
     intro W hSW
     try dsimp only at hSW
     go_simp
     try with_reducible rfl
    try simp only [PT]
    refine wpAnyH_take (i := 4) (oi := { dst := some 162, op := Op.binOp BinOp.sub 3 (Operand.tmp 160) (Operand.tmp 161) 3, type := 3, pos := "zsortanyfunc.go:441", after := #[{ on := 2, ground := Ground.data }, { on := 3, ground := Ground.data }], guard := none }) (v := ?v4_1005) rfl (by kernel_rfl) (by kernel_rfl) (by kernel_rfl) (fun _ _ _ h => h) (Or.inl ⟨by rfl, ?h4_1005⟩) (by assumption) ?r4_1005
    case h4_1005 =>
     intro W hSW
     try dsimp only at hSW
     go_simp
     try with_reducible rfl
    try simp only [PT]
    refine wpAnyH_take (i := 5) (oi := { dst := some 163, op := Op.indexAddr 27 (Operand.tmp 159) (Operand.tmp 162), type := 0, pos := "zsortanyfunc.go:441", after := #[{ on := 1, ground := Ground.data }, { on := 4, ground := Ground.data }], guard := none }) (v := ?v5_1006) rfl (by kernel_rfl) (by kernel_rfl) (by kernel_rfl) (fun _ _ _ h => h) (Or.inl ⟨by rfl, ?h5_1006⟩) (by assumption) ?r5_1006
    case h5_1006 =>
     intro W hSW
     try dsimp only at hSW
     go_simp
     try with_reducible rfl
    try simp only [PT]
    refine wpAnyH_take (i := 6) (oi := { dst := some 164, op := Op.load 3 (Operand.tmp 163), type := 3, pos := "zsortanyfunc.go:441", after := #[{ on := 5, ground := Ground.data }], guard := none }) (v := ?v6_1007) rfl (by kernel_rfl) (by kernel_rfl) (by kernel_rfl) (fun _ _ _ h => h) (Or.inl ⟨by rfl, ?h6_1007⟩) (by assumption) ?r6_1007
    case h6_1007 =>
     intro W hSW
     try dsimp only at hSW
     have hc0 := (hSW.cell (p := ⟨g, y, none⟩) HGL.out).trans C1.out
     go_simp
     try with_reducible rfl
    try simp only [PT]
    refine wpAnyH_take (i := 7) (oi := { dst := some 165, op := Op.move (Operand.tmp 0), type := 27, pos := "zsortanyfunc.go:441", after := #[], guard := none }) (v := ?v7_1008) rfl (by kernel_rfl) (by kernel_rfl) (by kernel_rfl) (fun _ _ _ h => h) (Or.inl ⟨by rfl, ?h7_1008⟩) (by assumption) ?r7_1008
    case h7_1008 =>
     intro W hSW
     try dsimp only at hSW
     go_simp
     try with_reducible rfl
    try simp only [PT]
    refine wpAnyH_take (i := 8) (oi := { dst := some 166, op := Op.move (Operand.tmp 23), type := 3, pos := "zsortanyfunc.go:441", after := #[], guard := none }) (v := ?v8_1009) rfl (by kernel_rfl) (by kernel_rfl) (by kernel_rfl) (fun _ _ _ h => h) (Or.inl ⟨by rfl, ?h8_1009⟩) (by assumption) ?r8_1009
    case h8_1009 =>
     intro W hSW
     try dsimp only at hSW
     go_simp
     try with_reducible rfl
    try simp only [PT]
    refine wpAnyH_take (i := 9) (oi := { dst := some 167, op := Op.indexAddr 27 (Operand.tmp 165) (Operand.tmp 166), type := 0, pos := "zsortanyfunc.go:441", after := #[{ on := 7, ground := Ground.data }, { on := 8, ground := Ground.data }], guard := none }) (v := ?v9_1010) rfl (by kernel_rfl) (by kernel_rfl) (by kernel_rfl) (fun _ _ _ h => h) (Or.inl ⟨by rfl, ?h9_1010⟩) (by assumption) ?r9_1010
    case h9_1010 =>
     intro W hSW
     try dsimp only at hSW
     go_simp
     try with_reducible rfl
    try simp only [PT]
    refine wpAnyH_take (i := 10) (oi := { dst := some 168, op := Op.load 3 (Operand.tmp 167), type := 3, pos := "zsortanyfunc.go:441", after := #[{ on := 9, ground := Ground.data }], guard := none }) (v := ?v10_1011) rfl (by kernel_rfl) (by kernel_rfl) (by kernel_rfl) (fun _ _ _ h => h) (Or.inl ⟨by rfl, ?h10_1011⟩) (by assumption) ?r10_1011
    case h10_1011 =>
     intro W hSW
     try dsimp only at hSW
     have hc0 := (hSW.cell (p := ⟨g, h, none⟩) HGL.out).trans C2.out
     go_simp
     try with_reducible rfl
    try simp only [PT]
    refine wpAnyH_ready (rs := [11]) (by kernel_rfl) (by simp) ?_
    refine AllReadyH.cons (o := { dst := some 169, op := Op.call { callee := Callee.value (Operand.tmp 158), args := #[Operand.tmp 164, Operand.tmp 168], argTypes := #[3, 3] }, type := 3, pos := "zsortanyfunc.go:441", after := #[{ on := 0, ground := Ground.data }, { on := 6, ground := Ground.data }, { on := 10, ground := Ground.data }], guard := none }) rfl (fun K hK => ?_) AllReadyH.nil
    go_simp
    refine (HCM.out _ hv0).mono ?_
    rintro e w1 ⟨cc, rfl, hcc2, b1⟩
    have hv1 : Below wr.heap.size wr w1 := hv0.trans (b1.mono hv0.size)
    go_wp2_with fail
    refine hK.out _ _ (hv1) (fun hHeld => ?_)
    clear hK K
    try simp only [PT]
    refine wpAnyH_take (i := 12) (oi := { dst := some 170, op := Op.binOp BinOp.lss 3 (Operand.tmp 169) (Operand.const (Value.int IntKind.i64 0)) 3, type := 4, pos := "zsortanyfunc.go:441", after := #[{ on := 11, ground := Ground.data }], guard := none }) (v := ?v12_1012) rfl (by kernel_rfl) (by kernel_rfl) (by kernel_rfl) (fun _ _ _ h => h) (Or.inl ⟨by rfl, ?h12_1012⟩) (by assumption) ?r12_1012
    case h12_1012 =>
     intro W hSW
     try dsimp only at hSW
     go_simp
     try with_reducible rfl
    try simp only [PT]
    refine wpAnyH_take (i := 13) (oi := { dst := some 171, op := Op.unOp UnOp.not 4 (Operand.tmp 170), type := 4, pos := "zsortanyfunc.go:441", after := #[{ on := 12, ground := Ground.data }], guard := none }) (v := ?v13_1013) rfl (by kernel_rfl) (by kernel_rfl) (by kernel_rfl) (fun _ _ _ h => h) (Or.inl ⟨by rfl, ?h13_1013⟩) (by assumption) ?r13_1013
    case h13_1013 =>
     intro W hSW
     try dsimp only at hSW
     go_simp
     try with_reducible rfl
    try simp only [PT]
    refine wpAnyH_done (by kernel_rfl) ?_ _
    have F5 := HF.out.below hv1
    have G5 := HG.out.trans (grownBy_of_below hv1).any
    clear hHeld
    go_wp2_with fail
    go_roundw
    case rel => exact ⟨h', j, by have := HHJ.out; omega, by have := HHJ.out; omega, hjb, by go_num, rfl, fun _ => by have := HHJ.out; rw [show h' - 1 = h by omega, show nn - h' = y by omega, HXY.out.1, HXY.out.2.1]; exact HXY.out.2.2, HP2.out, F5, G5⟩
    case measure => have := HHJ.out; simp [intOf]; omega
   | true => as_aux_lemma =>
    go_wp2_with fail
    have hv0 : Below wr.heap.size wr wr.drew := (Below.refl _ _).drew
    refine wp_region_held_drew (S := fun W => Below wr.heap.size wr W) (by kernel_rfl) (hv0) (fun hHeld => ?_)
    refine wpAnyH_take (i := 0) (oi := { dst := some 158, op := Op.move (Operand.tmp 4), type := 140, pos := "zsortanyfunc.go:441", after := #[], guard := none }) (v := ?v0_2001) rfl (by kernel_rfl) (by kernel_rfl) (by kernel_rfl) (fun _ _ _ h => h) (Or.inl ⟨by rfl, ?h0_2001⟩) (by assumption) ?r0_2001
    case h0_2001 =>
     intro W hSW
     try dsimp only at hSW
     go_simp
     try with_reducible rfl
    try simp only [PT]
    refine wpAnyH_take (i := 1) (oi := { dst := some 159, op := Op.move (Operand.tmp 0), type := 27, pos := "zsortanyfunc.go:441", after := #[], guard := none }) (v := ?v1_2002) rfl (by kernel_rfl) (by kernel_rfl) (by kernel_rfl) (fun _ _ _ h => h) (Or.inl ⟨by rfl, ?h1_2002⟩) (by assumption) ?r1_2002
    case h1_2002 =>
     intro W hSW
     try dsimp only at hSW
     go_simp
     try with_reducible rfl
    try simp only [PT]
    refine wpAnyH_take (i := 2) (oi := { dst := some 160, op := Op.move (Operand.tmp 22), type := 3, pos := "zsortanyfunc.go:441", after := #[], guard := none }) (v := ?v2_2003) rfl (by kernel_rfl) (by kernel_rfl) (by kernel_rfl) (fun _ _ _ h => h) (Or.inl ⟨by rfl, ?h2_2003⟩) (by assumption) ?r2_2003
    case h2_2003 =>
     intro W hSW
     try dsimp only at hSW
     go_simp
     try with_reducible rfl
    try simp only [PT]
    refine wpAnyH_take (i := 3) (oi := { dst := some 161, op := Op.move (Operand.tmp 23), type := 3, pos := "zsortanyfunc.go:441", after := #[], guard := none }) (v := ?v3_2004) rfl (by kernel_rfl) (by kernel_rfl) (by kernel_rfl) (fun _ _ _ h => h) (Or.inl ⟨by rfl, ?h3_2004⟩) (by assumption) ?r3_2004
    case h3_2004 =>
     intro W hSW
     try dsimp only at hSW
     go_simp
     try with_reducible rfl
    try simp only [PT]
    refine wpAnyH_take (i := 4) (oi := { dst := some 162, op := Op.binOp BinOp.sub 3 (Operand.tmp 160) (Operand.tmp 161) 3, type := 3, pos := "zsortanyfunc.go:441", after := #[{ on := 2, ground := Ground.data }, { on := 3, ground := Ground.data }], guard := none }) (v := ?v4_2005) rfl (by kernel_rfl) (by kernel_rfl) (by kernel_rfl) (fun _ _ _ h => h) (Or.inl ⟨by rfl, ?h4_2005⟩) (by assumption) ?r4_2005
    case h4_2005 =>
     intro W hSW
     try dsimp only at hSW
     go_simp
     try with_reducible rfl
    try simp only [PT]
    refine wpAnyH_take (i := 5) (oi := { dst := some 163, op := Op.indexAddr 27 (Operand.tmp 159) (Operand.tmp 162), type := 0, pos := "zsortanyfunc.go:441", after := #[{ on := 1, ground := Ground.data }, { on := 4, ground := Ground.data }], guard := none }) (v := ?v5_2006) rfl (by kernel_rfl) (by kernel_rfl) (by kernel_rfl) (fun _ _ _ h => h) (Or.inl ⟨by rfl, ?h5_2006⟩) (by assumption) ?r5_2006
    case h5_2006 =>
     intro W hSW
     try dsimp only at hSW
     go_simp
     try with_reducible rfl
    try simp only [PT]
    refine wpAnyH_take (i := 6) (oi := { dst := some 164, op := Op.load 3 (Operand.tmp 163), type := 3, pos := "zsortanyfunc.go:441", after := #[{ on := 5, ground := Ground.data }], guard := none }) (v := ?v6_2007) rfl (by kernel_rfl) (by kernel_rfl) (by kernel_rfl) (fun _ _ _ h => h) (Or.inl ⟨by rfl, ?h6_2007⟩) (by assumption) ?r6_2007
    case h6_2007 =>
     intro W hSW
     try dsimp only at hSW
     have hc0 := (hSW.cell (p := ⟨g, y, none⟩) HGL.out).trans C1.out
     go_simp
     try with_reducible rfl
    try simp only [PT]
    refine wpAnyH_take (i := 7) (oi := { dst := some 165, op := Op.move (Operand.tmp 0), type := 27, pos := "zsortanyfunc.go:441", after := #[], guard := none }) (v := ?v7_2008) rfl (by kernel_rfl) (by kernel_rfl) (by kernel_rfl) (fun _ _ _ h => h) (Or.inl ⟨by rfl, ?h7_2008⟩) (by assumption) ?r7_2008
    case h7_2008 =>
     intro W hSW
     try dsimp only at hSW
     go_simp
     try with_reducible rfl
    try simp only [PT]
    refine wpAnyH_take (i := 8) (oi := { dst := some 166, op := Op.move (Operand.tmp 23), type := 3, pos := "zsortanyfunc.go:441", after := #[], guard := none }) (v := ?v8_2009) rfl (by kernel_rfl) (by kernel_rfl) (by kernel_rfl) (fun _ _ _ h => h) (Or.inl ⟨by rfl, ?h8_2009⟩) (by assumption) ?r8_2009
    case h8_2009 =>
     intro W hSW
     try dsimp only at hSW
     go_simp
     try with_reducible rfl
    try simp only [PT]
    refine wpAnyH_take (i := 9) (oi := { dst := some 167, op := Op.indexAddr 27 (Operand.tmp 165) (Operand.tmp 166), type := 0, pos := "zsortanyfunc.go:441", after := #[{ on := 7, ground := Ground.data }, { on := 8, ground := Ground.data }], guard := none }) (v := ?v9_2010) rfl (by kernel_rfl) (by kernel_rfl) (by kernel_rfl) (fun _ _ _ h => h) (Or.inl ⟨by rfl, ?h9_2010⟩) (by assumption) ?r9_2010
    case h9_2010 =>
     intro W hSW
     try dsimp only at hSW
     go_simp
     try with_reducible rfl
    try simp only [PT]
    refine wpAnyH_take (i := 10) (oi := { dst := some 168, op := Op.load 3 (Operand.tmp 167), type := 3, pos := "zsortanyfunc.go:441", after := #[{ on := 9, ground := Ground.data }], guard := none }) (v := ?v10_2011) rfl (by kernel_rfl) (by kernel_rfl) (by kernel_rfl) (fun _ _ _ h => h) (Or.inl ⟨by rfl, ?h10_2011⟩) (by assumption) ?r10_2011
    case h10_2011 =>
     intro W hSW
     try dsimp only at hSW
     have hc0 := (hSW.cell (p := ⟨g, h, none⟩) HGL.out).trans C2.out
     go_simp
     try with_reducible rfl
    try simp only [PT]
    refine wpAnyH_ready (rs := [11]) (by kernel_rfl) (by simp) ?_
    refine AllReadyH.cons (o := { dst := some 169, op := Op.call { callee := Callee.value (Operand.tmp 158), args := #[Operand.tmp 164, Operand.tmp 168], argTypes := #[3, 3] }, type := 3, pos := "zsortanyfunc.go:441", after := #[{ on := 0, ground := Ground.data }, { on := 6, ground := Ground.data }, { on := 10, ground := Ground.data }], guard := none }) rfl (fun K hK => ?_) AllReadyH.nil
    go_simp
    refine (HCM.out _ hv0).mono ?_
    rintro e w1 ⟨cc, rfl, hcc2, b1⟩
    have hv1 : Below wr.heap.size wr w1 := hv0.trans (b1.mono hv0.size)
    go_wp2_with fail
    refine hK.out _ _ (hv1) (fun hHeld => ?_)
    clear hK K
    try simp only [PT]
    refine wpAnyH_take (i := 12) (oi := { dst := some 170, op := Op.binOp BinOp.lss 3 (Operand.tmp 169) (Operand.const (Value.int IntKind.i64 0)) 3, type := 4, pos := "zsortanyfunc.go:441", after := #[{ on := 11, ground := Ground.data }], guard := none }) (v := ?v12_2012) rfl (by kernel_rfl) (by kernel_rfl) (by kernel_rfl) (fun _ _ _ h => h) (Or.inl ⟨by rfl, ?h12_2012⟩) (by assumption) ?r12_2012
    case h12_2012 =>
     intro W hSW
     try dsimp only at hSW
     go_simp
     try with_reducible rfl
    try simp only [PT]
    refine wpAnyH_take (i := 13) (oi := { dst := some 171, op := Op.unOp UnOp.not 4 (Operand.tmp 170), type := 4, pos := "zsortanyfunc.go:441", after := #[{ on := 12, ground := Ground.data }], guard := none }) (v := ?v13_2013) rfl (by kernel_rfl) (by kernel_rfl) (by kernel_rfl) (fun _ _ _ h => h) (Or.inl ⟨by rfl, ?h13_2013⟩) (by assumption) ?r13_2013
    case h13_2013 =>
     intro W hSW
     try dsimp only at hSW
     go_simp
     try with_reducible rfl
    try simp only [PT]
    refine wpAnyH_done (by kernel_rfl) ?_ _
    have F5 := HF.out.below hv1
    have G5 := HG.out.trans (grownBy_of_below hv1).any
    clear hHeld
    go_wp2_with fail
    go_roundw
    case rel => exact ⟨i, h, hmi, by have := HHJ.out; omega, by have := HHJ.out; omega, rfl, rfl, HP1.out, fun _ => by rw [← HHJ.out.2.2, HXY.out.1, HXY.out.2.1]; exact HXY.out.2.2, F5, G5⟩
    case measure => have := HHJ.out; simp [intOf]; omega
  ·
   obtain rfl : i = j := by omega
   obtain ⟨C, hCm⟩ := So.cut_of (mid := mid) (n := nn) (lo := lo) (hi := hi) (s := i) HO.out HT.out (by omega) (by omega) ham hmb HLO.out.symm HHI.out.symm hmi hjb HP1.out HP2.out
   obtain ⟨e, he⟩ : ∃ x, nn - i = x := ⟨_, rfl⟩
   have qe : (nn : Int) - (i : Int) = (e : Int) := by omega
   have we : IntKind.i64.wrap (e : Int) = (e : Int) := IntWalk.i64_in _ (by omega)
   rw [he] at C hCm
   have HC := Lib.hid C
   have HCM := Lib.hid hCm
   have hse : a ≤ i ∧ i ≤ m ∧ m ≤ e ∧ e ≤ b ∧ i ≤ mid ∧ mid ≤ e := by have := C.s1; have := C.s2; have := C.t1; have := C.t2; omega
   have HSE := Lib.hid hse
   have HROT := Lib.hid (fun (h1 : i < m) (h2 : m < e) => rotate_any (firstF bt bw bs) g n c i m e h1 h2 (by omega) hn cur wr HF.out)
   have HMV := Lib.hid (So.Mv.rot cur hse.2.1 hse.2.2.1)
   have HR1 := Lib.hid (HRG.out.mv HMV.out (by omega))
   have HL := Lib.hid (So.Cut.left HT.out C)
   have HRT := Lib.hid (So.Cut.right HT.out C)
   rw [hCm] at HL HRT
   have h3 : a < mid ∧ mid < b := ⟨bd6, bd7⟩
   have HM3 := Lib.hid h3
   clear hg md bd1 bd2 bd3 bd4 bd5 bd6 bd7 C hCm he hse hmi hjb hij hlt h3
   obtain ⟨q185, hq185⟩ : ∃ q, decide (i < m ∧ m < e) = q := ⟨_, rfl⟩
   have HQ185 := Lib.hid hq185
   clear hq185
   go_upto_region 39 with fail
   go_cut [185] (fun uc wc => uc = .bool q185 ∧ wc = wr)
   case first => as_aux_lemma =>
    by_cases h1 : i < m
    ·
     by_cases h2 : m < e
     ·
      have e1 : (i : Int) < (m : Int) := by omega
      have e2 : (m : Int) < (e : Int) := by omega
      have HD := Lib.hid (decide_eq_true (show i < m ∧ m < e from ⟨h1, h2⟩))
      clear h1 h2
      go_wp2_with fail
      go_meet
      exact ⟨by rw [← HQ185.out, HD.out], rfl⟩
     ·
      have e1 : (i : Int) < (m : Int) := by omega
      have e2 : ¬ ((m : Int) < (e : Int)) := by omega
      have HD := Lib.hid (decide_eq_false (show ¬ (i < m ∧ m < e) from fun h => h2 h.2))
      clear h1 h2
      go_wp2_with fail
      go_meet
      exact ⟨by rw [← HQ185.out, HD.out], rfl⟩
    ·
     have e1 : ¬ ((i : Int) < (m : Int)) := by omega
     have HD := Lib.hid (decide_eq_false (show ¬ (i < m ∧ m < e) from fun h => h1 h.1))
     clear h1
     go_wp2_with fail
     go_meet
     exact ⟨by rw [← HQ185.out, HD.out], rfl⟩
   case rest => as_aux_lemma =>
   obtain ⟨hu1, hu3⟩ := hcut
   subst hu1
   rw [hu3]
   clear hu3
   go_upto_if 185 with fail
   go_cut [] (fun wx => FRow wx g n (So.rot cur i m e) ∧ wr.grownBy wx (some g))
   case first => as_aux_lemma =>
    cases q185 with
    | true => as_aux_lemma =>
     have hcd := of_decide_eq_true HQ185.out
     have HR5 := Lib.hid (HROT.out hcd.1 hcd.2)
     clear hcd
     go_wp2_with (go_at_call 129; refine HR5.out.mono ?_; rintro en w5 ⟨rfl, F5, G5⟩)
     go_meet
     exact ⟨F5, G5⟩
    | false => as_aux_lemma =>
     have hcd := of_decide_eq_false HQ185.out
     have HEQ : Hid (So.rot cur i m e = cur) := Lib.hid (by
      have h0 := HSE.out
      by_cases h1 : i < m
      ·
       rw [show e = m by omega]; exact So.rot_id cur i m
      ·
       rw [show i = m by omega]; exact So.rot_id' cur m e)
     clear hcd
     go_wp2_with fail
     go_meet
     exact ⟨by rw [HEQ.out]; exact HF.out, World.grownBy.refl _ _⟩
   case rest => as_aux_lemma =>
   obtain ⟨F6, G6⟩ := hcut
   obtain ⟨w6, hw6⟩ : ∃ x, wc = x := ⟨_, rfl⟩
   try rw [hw6] at F6 G6 ⊢
   have HF6 := Lib.hid F6
   have HG6 := Lib.hid (HG.out.trans G6)
   have HS1 := Lib.hid (fun (h1 : a < i) (h2 : i < mid) => HIH.out a i mid h1 h2 (by have := HM3.out; omega) (by have := HM3.out; omega) (So.rot cur i m e) HR1.out HL.out w6 (HG0.out.trans HG6.out) F6)
   clear F6 G6 hw6
   obtain ⟨q199, hq199⟩ : ∃ q, decide (a < i ∧ i < mid) = q := ⟨_, rfl⟩
   have HQ199 := Lib.hid hq199
   clear hq199
   go_upto_region 41 with fail
   go_cut [199] (fun uc wc => uc = .bool q199 ∧ wc = w6)
   case first => as_aux_lemma =>
    by_cases h1 : a < i
    ·
     by_cases h2 : i < mid
     ·
      have e1 : (a : Int) < (i : Int) := by omega
      have e2 : (i : Int) < (mid : Int) := by omega
      have HD := Lib.hid (decide_eq_true (show a < i ∧ i < mid from ⟨h1, h2⟩))
      clear h1 h2
      go_wp2_with fail
      go_meet
      exact ⟨by rw [← HQ199.out, HD.out], rfl⟩
     ·
      have e1 : (a : Int) < (i : Int) := by omega
      have e2 : ¬ ((i : Int) < (mid : Int)) := by omega
      have HD := Lib.hid (decide_eq_false (show ¬ (a < i ∧ i < mid) from fun h => h2 h.2))
      clear h1 h2
      go_wp2_with fail
      go_meet
      exact ⟨by rw [← HQ199.out, HD.out], rfl⟩
    ·
     have e1 : ¬ ((a : Int) < (i : Int)) := by omega
     have HD := Lib.hid (decide_eq_false (show ¬ (a < i ∧ i < mid) from fun h => h1 h.1))
     clear h1
     go_wp2_with fail
     go_meet
     exact ⟨by rw [← HQ199.out, HD.out], rfl⟩
   case rest => as_aux_lemma =>
   obtain ⟨hu1, hu3⟩ := hcut
   subst hu1
   rw [hu3]
   clear hu3
   go_upto_if 199 with fail
   go_cut [] (fun wx => ∃ f, Hid (FRow wx g n f ∧ So.Mv a mid (So.rot cur i m e) f ∧ So.Srt R f a mid) ∧ w6.grownBy wx (some g))
   case first => as_aux_lemma =>
    cases q199 with
    | true => as_aux_lemma =>
     have hcd := of_decide_eq_true HQ199.out
     have HR5 := Lib.hid (HS1.out hcd.1 hcd.2)
     clear hcd
     go_wp2_with (go_at_call 126; refine HR5.out.mono ?_; rintro en w7 ⟨rfl, f, F7, M7, S7, G7⟩)
     go_meet
     exact ⟨f, ⟨F7, M7, S7⟩, G7⟩
    | false => as_aux_lemma =>
     have hcd := of_decide_eq_false HQ199.out
     have HEQ : Hid (So.Srt R (So.rot cur i m e) a mid) := Lib.hid (by
      have h0 := HSE.out
      by_cases h1 : a < i
      ·
       exact HL.out.l.sub (Nat.le_refl _) (by omega)
      ·
       exact HL.out.r.sub (by omega) (Nat.le_refl _))
     clear hcd
     go_wp2_with fail
     go_meet
     exact ⟨_, ⟨HF6.out, So.Mv.refl _ _ _, HEQ.out⟩, World.grownBy.refl _ _⟩
   case rest => as_aux_lemma =>
   obtain ⟨f, HFF, G7⟩ := hcut
   obtain ⟨w7, hw7⟩ : ∃ x, wc = x := ⟨_, rfl⟩
   try rw [hw7] at HFF G7 ⊢
   have HG7 := Lib.hid (HG6.out.trans G7)
   have HTW : Hid (So.Two R ls f mid e b) := Lib.hid (by
    have h0 := HRT.out
    have hm := HFF.out.2.1
    have hs := HSE.out
    exact ⟨h0.l.congr fun t h1 _ => hm.out (by omega), h0.r.congr fun t h1 _ => hm.out (by omega), fun x y h1 h2 h3 h4 => by rw [hm.out (t := x) (by omega), hm.out (t := y) (by omega)]; exact h0.c x y h1 h2 h3 h4⟩)
   have HR2 := Lib.hid (HR1.out.mv HFF.out.2.1 (by have := HM3.out; omega))
   have HS2 := Lib.hid (fun (h1 : mid < e) (h2 : e < b) => HIH.out mid e b h1 h2 hbn (by have := HM3.out; omega) f HR2.out HTW.out w7 (HG0.out.trans HG7.out) HFF.out.1)
   have HDN := Lib.hid (fun (g' : Nat → Int) (m2 : So.Mv mid b f g') (s2 : So.Srt R g' mid b) => So.Cut.done HO.out HT.out HC.out HCM.out.symm HFF.out.2.1 HFF.out.2.2 m2 s2)
   clear G7 hw7
   obtain ⟨q213, hq213⟩ : ∃ q, decide (mid < e ∧ e < b) = q := ⟨_, rfl⟩
   have HQ213 := Lib.hid hq213
   clear hq213
   go_upto_region 43 with fail
   go_cut [213] (fun uc wc => uc = .bool q213 ∧ wc = w7)
   case first => as_aux_lemma =>
    by_cases h1 : mid < e
    ·
     by_cases h2 : e < b
     ·
      have e1 : (mid : Int) < (e : Int) := by omega
      have e2 : (e : Int) < (b : Int) := by omega
      have HD := Lib.hid (decide_eq_true (show mid < e ∧ e < b from ⟨h1, h2⟩))
      clear h1 h2
      go_wp2_with fail
      go_meet
      exact ⟨by rw [← HQ213.out, HD.out], rfl⟩
     ·
      have e1 : (mid : Int) < (e : Int) := by omega
      have e2 : ¬ ((e : Int) < (b : Int)) := by omega
      have HD := Lib.hid (decide_eq_false (show ¬ (mid < e ∧ e < b) from fun h => h2 h.2))
      clear h1 h2
      go_wp2_with fail
      go_meet
      exact ⟨by rw [← HQ213.out, HD.out], rfl⟩
    ·
     have e1 : ¬ ((mid : Int) < (e : Int)) := by omega
     have HD := Lib.hid (decide_eq_false (show ¬ (mid < e ∧ e < b) from fun h => h1 h.1))
     clear h1
     go_wp2_with fail
     go_meet
     exact ⟨by rw [← HQ213.out, HD.out], rfl⟩
   case rest => as_aux_lemma =>
   obtain ⟨hu1, hu3⟩ := hcut
   subst hu1
   rw [hu3]
   clear hu3
   cases q213 with
   | true => as_aux_lemma =>
    have hcd := of_decide_eq_true HQ213.out
    have HR5 := Lib.hid (HS2.out hcd.1 hcd.2)
    clear hcd
    go_wp2_with (go_at_call 126; refine HR5.out.mono ?_; rintro en w8 ⟨rfl, f8, F8, M8, S8, G8⟩)
    go_end0
    have hD := HDN.out f8 M8 S8
    exact ⟨rfl, f8, F8, hD.2, hD.1, HG7.out.trans G8⟩
   | false => as_aux_lemma =>
    have hcd := of_decide_eq_false HQ213.out
    have HD := Lib.hid (HDN.out f (So.Mv.refl _ _ _) (by
     have h0 := HSE.out
     by_cases h1 : mid < e
     ·
      exact HTW.out.l.sub (Nat.le_refl _) (by omega)
     ·
      exact HTW.out.r.sub (by omega) (Nat.le_refl _)))
    clear hcd
    go_wp2_with fail
    go_end0
    exact ⟨rfl, f, HFF.out.1, HD.out.2, HD.out.1, HG7.out⟩
theorem sym_any (w0 : World) (g n c bt bw bs : Nat) (R : Int → Int → Prop) (ls : Int → Int → Bool) (O : So.Ord R) (HC0 : CmpOk w0 g n bt bw bs ls) (hn : n ≤ 1000) : ∀ (k a m b : Nat), b - a ≤ k → a < m → m < b → b ≤ n → ∀ cur : Nat → Int, Rng n cur → So.Two R ls cur a m b → ∀ w : World, w0.grownBy w (some g) → FRow w g n cur → Calls Tryz.prog 126 #[.slice (some ⟨g, 0, none⟩) n c, .int .i64 a, .int .i64 m, .int .i64 b, firstF bt bw bs] w (SortRes R g n a b cur w) := by
 intro k
 induction k with
 | zero => intro a m b h1 h2 h3; omega
 | succ k ih =>
  intro a m b hk ham hmb hbn cur hrg hT w hg0 hr
  by_cases hm1 : m = a + 1
  ·
   exact sym_left w0 g n c bt bw bs R ls O HC0 a m b ham hmb hbn hn cur hrg hT w hg0 hr hm1
  ·
   by_cases hb1 : b = m + 1
   ·
    exact sym_right w0 g n c bt bw bs R ls O HC0 a m b ham hmb hbn hn cur hrg hT w hg0 hr hm1 hb1
   ·
    exact sym_gen w0 g n c bt bw bs R ls O HC0 a m b ham hmb hbn hn cur hrg hT w hg0 hr hm1 hb1 fun a' m' b' h1 h2 h3 h4 => ih a' m' b' (by omega) h1 h2 h3
end W
end
section
namespace W
open Go.RowKit
def StRes (R : Int → Int → Prop) (g n : Nat) (d : Nat → Int) (w : World) (en : Ending) (w' : World) : Prop := en = .returned (.tuple #[]) ∧ ∃ f, FRow w' g n f ∧ So.Mv 0 n d f ∧ So.Srt R f 0 n ∧ w.grownBy w' (some g)
theorem part_of {R : Int → Int → Prop} {d row f : Nat → Int} {a b : Nat} (hs : So.Srt R f a b) (hm : So.Mv a b row f) (hd : ∀ t, a ≤ t → row t = d t) : So.Part R d f a b := by
 refine ⟨hs, fun t h1 h2 => ?_⟩
 obtain ⟨s, s1, s2, s3⟩ := hm.mem h1 h2
 exact ⟨s, s1, s2, by rw [s3, hd s s1]⟩
theorem blocks_far {R : Int → Int → Prop} {d row f : Nat → Int} {n z a b c : Nat} (h : So.Blocks R d row n z a) (hm : So.Mv a b row f) (hc : b ≤ c) (ha : a ≤ c) : So.Blocks R d f n z c := fun q hq => (h q (by omega)).congr fun t h1 _ => hm.out (by omega)
theorem dbl (q z : Nat) : q * (z + z) = 2 * q * z := by rw [Nat.mul_add, Nat.mul_assoc 2 q z, Nat.two_mul]
set_option maxRecDepth 100000 in
set_option maxHeartbeats 4000000 in
theorem stable_any (w0 : World) (g n c bt bw bs : Nat) (R : Int → Int → Prop) (ls : Int → Int → Bool) (O : So.Ord R) (HC0 : CmpOk w0 g n bt bw bs ls) (hn : n ≤ 1000) (d : Nat → Int) (hrg : Rng n d) (hinc : So.Inc R ls d n) (w : World) (hg0 : w0.grownBy w (some g)) (hr : FRow w g n d) :
  Calls Tryz.prog 113 #[.slice (some ⟨g, 0, none⟩) n c, .int .i64 n, firstF bt bw bs] w (StRes R g n d w) := by
 have HR := Lib.hid hr
 have HRG := Lib.hid hrg
 have HI := Lib.hid hinc
 have HG0 := Lib.hid hg0
 have HINS := Lib.hid (fun (W : World) (hW : w0.grownBy W (some g)) (a b : Nat) (hab : a < b) (hbn : b ≤ n) (cur : Nat → Int) (h1 : Rng n cur) (h2 : ∀ x y, a ≤ x → x < y → y < b → So.Cr R ls (cur x) (cur y)) (h3 : FRow W g n cur) => insertion_any w0 g n c bt bw bs R ls O HC0 a b hab hbn hn cur h1 h2 W hW h3)
 have HSYM := Lib.hid (fun (W : World) (hW : w0.grownBy W (some g)) (a m b : Nat) (ham : a < m) (hmb : m < b) (hbn : b ≤ n) (cur : Nat → Int) (h1 : Rng n cur) (h2 : So.Two R ls cur a m b) (h3 : FRow W g n cur) => sym_any w0 g n c bt bw bs R ls O HC0 hn (b - a) a m b (Nat.le_refl _) ham hmb hbn cur h1 h2 W hW h3)
 clear hr hrg hinc hg0 HC0
 go_enter Tryz.func113, Tryz.ntmps113
 go_wp2
 go_loopw [7, 8] (fun u7 u8 wr => ∃ (a b : Nat) (row : Nat → Int), Hid (∃ q, a = q * 20 ∧ b = a + 20 ∧ a ≤ n ∧ So.Upto R d row n 20 (q * 20)) ∧ u7 = .int .i64 a ∧ u8 = .int .i64 b ∧ Hid (FRow wr g n row) ∧ Hid (∀ t, a ≤ t → row t = d t) ∧ Hid (So.Mv 0 n d row) ∧ w.grownBy wr (some g)) (fun u7 _ _ => n + 20 - (intOf u7).toNat)
 case atStart => exact ⟨0, 20, d, ⟨0, rfl, rfl, Nat.zero_le _, fun q h => by omega⟩, rfl, rfl, HR.out, fun _ _ => rfl, So.Mv.refl _ _ _, World.grownBy.refl _ _⟩
 case round =>
  obtain ⟨a, b, row, HQ, rfl, rfl, HF, HD, HM, hg⟩ := hrel
  have hq := HQ.out
  have hab : b = a + 20 ∧ a ≤ n := by obtain ⟨q, _, h2, h3, _⟩ := hq; exact ⟨h2, h3⟩
  obtain ⟨hb, han⟩ := hab
  have HG := Lib.hid hg
  have HB := Lib.hid hb
  by_cases hlt : b ≤ n
  ·
   have e1 : (b : Int) ≤ (n : Int) := by omega
   obtain ⟨b2, hb2⟩ : ∃ x, b + 20 = x := ⟨_, rfl⟩
   have q2 : (b : Int) + 20 = (b2 : Int) := by omega
   have w2 : IntKind.i64.wrap (b2 : Int) = (b2 : Int) := IntWalk.i64_in _ (by omega)
   have HS := Lib.hid (HINS.out wr (HG0.out.trans hg) a b (by omega) hlt row (HRG.out.mv HM.out (Nat.le_refl _)) (fun x y h1 h2 h3 => by rw [HD.out x h1, HD.out y (by omega)]; exact HI.out x y h2 (by omega)) HF.out)
   have HB2 := Lib.hid hb2
   clear hg hq hb hb2
   go_wp2_with (go_at_call 125; refine HS.out.mono ?_; rintro e w5 ⟨rfl, f, F5, M5, S5, G5⟩)
   go_roundw
   case rel =>
    have hb := HB.out
    have hb2 := HB2.out
    obtain ⟨q, hq1, hq2, hq3, hq4⟩ := HQ.out
    refine ⟨b, b2, f, ⟨q + 1, by omega, by omega, hlt, ?_⟩, rfl, by go_num, F5, fun t ht => by rw [M5.out (by omega)]; exact HD.out t (by omega), HM.out.trans (M5.mono (Nat.zero_le _) hlt), HG.out.trans G5⟩
    have hmin : min n (q * 20 + 20) = b := by omega
    refine hq4.more (f := f) (hi' := (q + 1) * 20) ?_ ?_ rfl
    ·
     rw [hmin, ← hq1]; exact M5
    ·
     rw [hmin, ← hq1]; exact part_of S5 M5 HD.out
   case measure => have := HB.out; simp [intOf]; omega
  ·
   have e1 : ¬ ((b : Int) ≤ (n : Int)) := by omega
   clear hg hq hb
   go_upto_region 6 with fail
   go_cut [] (fun wx => ∃ f, Hid (FRow wx g n f ∧ So.Blocks R d f n 20 0 ∧ So.Mv 0 n d f) ∧ w.grownBy wx (some g))
   case first =>
    by_cases hz : a < n
    ·
     have HS := Lib.hid (HINS.out wr (HG0.out.trans HG.out) a n hz (Nat.le_refl _) row (HRG.out.mv HM.out (Nat.le_refl _)) (fun x y h1 h2 h3 => by rw [HD.out x h1, HD.out y (by omega)]; exact HI.out x y h2 (by omega)) HF.out)
     clear hz
     go_wp2_with (go_at_call 125; refine HS.out.mono ?_; rintro e w5 ⟨rfl, f, F5, M5, S5, G5⟩)
     go_meet
     have hb := HB.out
     obtain ⟨q, hq1, hq2, hq3, hq4⟩ := HQ.out
     refine ⟨f, ⟨F5, ?_, HM.out.trans (M5.mono (Nat.zero_le _) (Nat.le_refl _))⟩, HG.out.trans G5⟩
     have hmin : min n (q * 20 + 20) = n := by omega
     refine (hq4.more (f := f) (hi' := (q + 1) * 20) ?_ ?_ rfl).all (by omega)
     ·
      rw [hmin, ← hq1]; exact M5
     ·
      rw [hmin, ← hq1]; exact part_of S5 M5 HD.out
    ·
     have HS := Lib.hid (insertion_none (firstF bt bw bs) R g n c a n (by omega) hn (by omega) row wr HF.out)
     have HAN := Lib.hid (show a = n by omega)
     clear hz
     go_wp2_with (go_at_call 125; refine HS.out.mono ?_; rintro e w5 ⟨rfl, f, F5, M5, S5, G5⟩)
     go_meet
     have han := HAN.out
     obtain ⟨q, hq1, hq2, hq3, hq4⟩ := HQ.out
     have hfr : f = row := by funext t; exact M5.out (by omega)
     subst hfr
     exact ⟨f, ⟨F5, hq4.all (by omega), HM.out⟩, HG.out.trans G5⟩
   case rest =>
   obtain ⟨f1, HF1, G1⟩ := hcut
   obtain ⟨w1, hw1⟩ : ∃ x, wc = x := ⟨_, rfl⟩
   try rw [hw1] at HF1 G1 ⊢
   have HG1 := Lib.hid G1
   clear G1 hw1 e1 hlt han
   go_wp2_with fail
   go_loopw [6] (fun u6 wy => ∃ (wq : World) (z : Nat) (row : Nat → Int), wq = wy ∧ 0 < z ∧ z ≤ 3000 ∧ u6 = .int .i64 z ∧ Hid (FRow wq g n row) ∧ Hid (So.Blocks R d row n z 0) ∧ Hid (So.Mv 0 n d row) ∧ w.grownBy wq (some g)) (fun u6 _ => n - (intOf u6).toNat)
   case atStart => exact ⟨_, 20, f1, rfl, by decide, by decide, rfl, HF1.out.1, HF1.out.2.1, HF1.out.2.2, HG1.out⟩
   case round =>
    obtain ⟨wq, z, row1, rfl, hz0, hz3, rfl, HFz, HBz, HMz, hgz⟩ := hrel
    have HGz := Lib.hid hgz
    by_cases hzn : z < n
    ·
     have e2 : (z : Int) < (n : Int) := by omega
     obtain ⟨y, hy⟩ : ∃ y, z + z = y := ⟨_, rfl⟩
     have qy : (2 : Int) * (z : Int) = (y : Int) := by omega
     have qy' : (z : Int) * 2 = (y : Int) := by omega
     have wy' : IntKind.i64.wrap (y : Int) = (y : Int) := IntWalk.i64_in _ (by omega)
     have HY := Lib.hid hy
     clear hgz hy
     go_wp2_with fail
     go_loopw [7, 8] (fun u7 u8 wy => ∃ (wv : World) (a b : Nat) (row : Nat → Int), wv = wy ∧ Hid (∃ q, a = q * y ∧ b = a + y ∧ a ≤ n ∧ So.Upto R d row n y (q * y) ∧ So.Blocks R d row n z a) ∧ u7 = .int .i64 a ∧ u8 = .int .i64 b ∧ Hid (FRow wv g n row) ∧ Hid (So.Mv 0 n d row) ∧ w.grownBy wv (some g)) (fun u7 _ _ => n + 1 - (intOf u7).toNat)
     case atStart => exact ⟨_, 0, y, row1, rfl, ⟨0, by omega, by omega, Nat.zero_le _, fun q h => by omega, HBz.out⟩, rfl, rfl, HFz.out, HMz.out, HGz.out⟩
     case round =>
      obtain ⟨wv, a, b, row, rfl, HQ3, rfl, rfl, HF3, HM3, hg3⟩ := hrel
      have HG3 := Lib.hid hg3
      have hyz := HY.out
      have hab : b = a + y ∧ a ≤ n := by obtain ⟨q, _, h2, h3, _⟩ := HQ3.out; exact ⟨h2, h3⟩
      obtain ⟨hb, han⟩ := hab
      have HP1 : Hid (So.Part R d row a (min n (a + z))) := Lib.hid (by
       obtain ⟨q, hq1, hq2, hq3, hq4, hq5⟩ := HQ3.out
       have he : 2 * q * z = a := by rw [hq1, ← hyz, dbl]
       have h := hq5 (2 * q) (Nat.le_of_eq he.symm)
       rw [he] at h; exact h)
      have HP2 : Hid (So.Part R d row (a + z) (min n (a + z + z))) := Lib.hid (by
       obtain ⟨q, hq1, hq2, hq3, hq4, hq5⟩ := HQ3.out
       have he : (2 * q + 1) * z = a + z := by rw [Nat.add_mul, hq1, ← hyz, dbl, Nat.one_mul]
       have h := hq5 (2 * q + 1) (by rw [he]; exact Nat.le_add_right _ _)
       rw [he] at h; exact h)
      obtain ⟨m, hm⟩ : ∃ m, a + z = m := ⟨_, rfl⟩
      have qm : (a : Int) + (z : Int) = (m : Int) := by omega
      have wm : IntKind.i64.wrap (m : Int) = (m : Int) := IntWalk.i64_in _ (by omega)
      rw [hm] at HP1 HP2
      have HMM := Lib.hid (And.intro hm hb)
      have HR3 := Lib.hid (HRG.out.mv HM3.out (Nat.le_refl _))
      by_cases hlt3 : b ≤ n
      ·
       have e3 : (b : Int) ≤ (n : Int) := by omega
       obtain ⟨b2, hb2⟩ : ∃ x, b + y = x := ⟨_, rfl⟩
       have q2 : (b : Int) + (y : Int) = (b2 : Int) := by omega
       have w2 : IntKind.i64.wrap (b2 : Int) = (b2 : Int) := IntWalk.i64_in _ (by omega)
       have hp1 := HP1.out
       have hp2 := HP2.out
       rw [show min n m = m by omega] at hp1
       rw [show min n (m + z) = b by omega] at hp2
       have HPP := Lib.hid (And.intro hp1 hp2)
       have HS := Lib.hid (HSYM.out wv (HG0.out.trans hg3) a m b (by omega) (by omega) hlt3 row HR3.out (So.Part.two HI.out hp1 hp2 hlt3) HF3.out)
       have HB2 := Lib.hid hb2
       have HLT := Lib.hid hlt3
       clear hg3 hb2 hb hm hp1 hp2 hyz hlt3 han
       go_wp2_with (go_at_call 126; refine HS.out.mono ?_; rintro e w5 ⟨rfl, f, F5, M5, S5, G5⟩)
       go_roundw
       case rel =>
        have hm := HMM.out
        have hb2 := HB2.out
        have hyz := HY.out
        have hlt3 := HLT.out
        obtain ⟨q, hq1, hq2, hq3, hq4, hq5⟩ := HQ3.out
        refine ⟨_, b, b2, f, rfl, ⟨q + 1, by rw [Nat.add_mul]; omega, by omega, hlt3, ?_, blocks_far hq5 M5 (Nat.le_refl _) (by omega)⟩, rfl, by go_num, F5, HM3.out.trans (M5.mono (Nat.zero_le _) hlt3), HG3.out.trans G5⟩
        have hmin : min n (q * y + y) = b := by omega
        refine hq4.more (f := f) (hi' := (q + 1) * y) ?_ ?_ rfl
        ·
         rw [hmin, ← hq1]; exact M5
        ·
         rw [hmin, ← hq1]; exact So.Part.join HPP.out.1 HPP.out.2 (by omega) (by omega) S5 M5
       case measure => have := HMM.out; have := HY.out; have := HLT.out; simp [intOf]; omega
      ·
       have e3 : ¬ ((b : Int) ≤ (n : Int)) := by omega
       have HLT := Lib.hid hlt3
       clear hg3 hb hyz hlt3
       by_cases hmn : m < n
       ·
        have e4 : (m : Int) < (n : Int) := by omega
        have hp1 := HP1.out
        have hp2 := HP2.out
        have hbb := HMM.out
        have hyz := HY.out
        have hlt3 := HLT.out
        rw [show min n m = m by omega] at hp1
        rw [show min n (m + z) = n by omega] at hp2
        have HPP := Lib.hid (And.intro hp1 hp2)
        have HS := Lib.hid (HSYM.out wv (HG0.out.trans HG3.out) a m n (by omega) hmn (Nat.le_refl _) row HR3.out (So.Part.two HI.out hp1 hp2 (Nat.le_refl _)) HF3.out)
        have HMN := Lib.hid hmn
        clear hm hp1 hp2 hyz hlt3 hbb hmn han
        go_wp2_with (go_at_call 126; refine HS.out.mono ?_; rintro e w5 ⟨rfl, f, F5, M5, S5, G5⟩)
        go_roundw
        case rel =>
         have hm := HMM.out
         have hyz := HY.out
         have hlt3 := HLT.out
         have hmn := HMN.out
         obtain ⟨q, hq1, hq2, hq3, hq4, hq5⟩ := HQ3.out
         refine ⟨_, y, f, rfl, by omega, by omega, by go_num, F5, ?_, HM3.out.trans (M5.mono (Nat.zero_le _) (Nat.le_refl _)), HG3.out.trans G5⟩
         have hmin : min n (q * y + y) = n := by omega
         refine (hq4.more (f := f) (hi' := (q + 1) * y) ?_ ?_ rfl).all (by rw [Nat.add_mul]; omega)
         ·
          rw [hmin, ← hq1]; exact M5
         ·
          rw [hmin, ← hq1]; exact So.Part.join HPP.out.1 HPP.out.2 (by omega) (by omega) S5 M5
        case measure => have := HY.out; simp [intOf]; omega
       ·
        have e4 : ¬ ((m : Int) < (n : Int)) := by omega
        have HMN := Lib.hid hmn
        clear hm hmn han
        go_wp2_with fail
        go_roundw
        case rel =>
         have hm := HMM.out
         have hyz := HY.out
         have hlt3 := HLT.out
         have hmn := HMN.out
         have hp1 := HP1.out
         rw [show min n m = n by omega] at hp1
         obtain ⟨q, hq1, hq2, hq3, hq4, hq5⟩ := HQ3.out
         refine ⟨_, y, row, rfl, by omega, by omega, by go_num, HF3.out, ?_, HM3.out, HG3.out⟩
         have hmin : min n (q * y + y) = n := by omega
         refine (hq4.more (f := row) (hi' := (q + 1) * y) (So.Mv.refl _ _ _) ?_ rfl).all (by rw [Nat.add_mul]; omega)
         rw [hmin, ← hq1]; exact hp1
        case measure => have := HY.out; simp [intOf]; omega
    ·
     have e2 : ¬ ((z : Int) < (n : Int)) := by omega
     have HSR : Hid (So.Srt R row1 0 n) := Lib.hid (by
      have h := (HBz.out 0 (by omega)).s
      rw [show 0 * z = 0 by omega, show min n (0 + z) = n by omega] at h; exact h)
     clear hgz
     go_wp2_with fail
     go_end0
     exact ⟨rfl, row1, HFz.out, HMz.out, HSR.out, HGz.out⟩
theorem sortStable_any (w0 : World) (g n c bt bw bs : Nat) (R : Int → Int → Prop) (ls : Int → Int → Bool) (O : So.Ord R) (HC0 : CmpOk w0 g n bt bw bs ls) (hn : n ≤ 1000) (d : Nat → Int) (hrg : Rng n d) (hinc : So.Inc R ls d n) (w : World) (hg0 : w0.grownBy w (some g)) (hr : FRow w g n d) :
  Calls Tryz.prog 86 #[.slice (some ⟨g, 0, none⟩) n c, firstF bt bw bs] w (StRes R g n d w) := by
 have HS := Lib.hid (stable_any w0 g n c bt bw bs R ls O HC0 hn d hrg hinc w hg0 hr)
 clear hr hrg hinc hg0 HC0
 go_enter Tryz.func86, Tryz.ntmps86
 go_wp2_with (go_at_call 113; refine HS.out.mono ?_; rintro e w5 ⟨rfl, f, F5, M5, S5, G5⟩)
 go_end0
 exact ⟨rfl, f, F5, M5, S5, G5⟩
end W
end
end Go.Proofs.YtfllkaeaanahmaaGreat
