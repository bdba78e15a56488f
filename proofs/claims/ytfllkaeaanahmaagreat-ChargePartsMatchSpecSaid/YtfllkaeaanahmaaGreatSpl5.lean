/- Joined texts: Spl1, Spl2, Spl3, Spl4, SplF, Spl5. Conditions: as each part says. -/
import Derived.Test.YtfllkaeaanahmaaGreatSrt6
import Derived.Test.YtfllkaeaanahmaaGreatMaps
import Derived.Deep.DeepCutAuto
import Derived.Test.YtfllkaeaanahmaaGreatHeld2
import Derived.Shelf.Bits.Mul64
import Derived.Shelf.Spec.SlicesInsert
namespace Go.Proofs.YtfllkaeaanahmaaGreat
set_option linter.unusedVariables false
set_option linter.unusedSimpArgs false
section
namespace W
open Go.RowKit
theorem isNaN_any (x : Int) (w : World) : Calls Tryz.prog 112 #[.int .i64 x] w fun e w' => e = .returned (.bool false) ∧ w' = w := by
 go_enter Tryz.func112, Tryz.ntmps112
 go_wp2
 go_ret
 exact ⟨by simp, rfl⟩
def cmpI (x y : Int) : Int := if x < y then -1 else if y < x then 1 else 0
theorem compare_any (x y : Int) (w : World) : Calls Tryz.prog 85 #[.int .i64 x, .int .i64 y] w fun e w' => e = .returned (.int .i64 (cmpI x y)) ∧ w' = w := by
 have HC := Lib.hid (show cmpI x y = if x < y then -1 else if y < x then 1 else 0 from rfl)
 generalize cmpI x y = q at *
 by_cases h1 : x < y
 ·
  go_enter Tryz.func85, Tryz.ntmps85
  go_wp2_with (go_at_call 112; refine (isNaN_any _ _).mono ?_; rintro e w' ⟨rfl, rfl⟩)
  go_ret
  exact ⟨ret_int (by rw [HC.out]; split <;> first | rfl | omega | (split <;> first | rfl | omega)), rfl⟩
 ·
  by_cases h2 : y < x
  ·
   go_enter Tryz.func85, Tryz.ntmps85
   go_wp2_with (go_at_call 112; refine (isNaN_any _ _).mono ?_; rintro e w' ⟨rfl, rfl⟩)
   go_ret
   exact ⟨ret_int (by rw [HC.out]; split <;> first | rfl | omega | (split <;> first | rfl | omega)), rfl⟩
  ·
   go_enter Tryz.func85, Tryz.ntmps85
   go_wp2_with (go_at_call 112; refine (isNaN_any _ _).mono ?_; rintro e w' ⟨rfl, rfl⟩)
   go_ret
   exact ⟨ret_int (by rw [HC.out]; split <;> first | rfl | omega | (split <;> first | rfl | omega)), rfl⟩

theorem compare_b (x y : Int) (w : World) : Calls Tryz.prog 85 #[.int .i64 x, .int .i64 y] w fun e w' => e = .returned (.int .i64 (cmpI x y)) ∧ Below w.heap.size w w' :=
 (compare_any x y w).mono fun e w' h => ⟨h.1, h.2 ▸ Below.refl _ _⟩
def keyI (T S : Int) (ws : List Int) (x : Int) : Int := T * ws.getD x.toNat 0 % S
def lsI (T S : Int) (ws : List Int) (x y : Int) : Bool := decide (keyI T S ws y < keyI T S ws x)
structure VW (T S : Int) (ws : List Int) : Prop where
 t0 : 0 ≤ T
 t1 : T ≤ 2147483647
 s0 : 0 < S
 s1 : S ≤ 2147483647
 w : ∀ k : Nat, 0 ≤ ws.getD k 0 ∧ ws.getD k 0 ≤ 2147483647
theorem VW.mul {T S : Int} {ws : List Int} (h : VW T S ws) (k : Nat) : 0 ≤ T * ws.getD k 0 ∧ T * ws.getD k 0 ≤ 4611686014132420609 := by
 have h1 := h.w k
 refine ⟨Int.mul_nonneg h.t0 h1.1, ?_⟩
 have h2 : T * ws.getD k 0 ≤ 2147483647 * ws.getD k 0 := Int.mul_le_mul_of_nonneg_right h.t1 h1.1
 have h3 : 2147483647 * ws.getD k 0 ≤ 2147483647 * 2147483647 := Int.mul_le_mul_of_nonneg_left h1.2 (by decide)
 omega
theorem _root_.Go.Proofs.YtfllkaeaanahmaaGreat.Rd.int {w : World} {B n : Nat} {A : Option Addr} {ws : List Int} (h : Rd w B 1 A n (ivs ws)) (hn : ws.length = n) (h0 : 0 < n) : ∃ b off, A = some ⟨b, off, none⟩ ∧ b < B ∧ ∀ k, k < n → w.cell? ⟨b, off + k, none⟩ = some (.int .i64 (ws.getD k 0)) := by
 obtain ⟨b, off, e, hb, hc⟩ := h.2 h0
 refine ⟨b, off, e, hb, fun k hk => ?_⟩
 have hkl : k < ws.length := by omega
 exact hc k _ (by simp [ivs, hkl, List.getD])
set_option maxRecDepth 100000 in
set_option maxHeartbeats 4000000 in
theorem first_any (T S : Int) (ws : List Int) (hv : VW T S ws) (bt bw bs : Nat) (A : Option Addr) (n c : Nat) (hl : ws.length = n) (hn : n ≤ 1000) (B : Nat) (w : World) (hr : Rd w B 1 A n (ivs ws)) (hB : B ≤ w.heap.size) (hbt : bt < w.heap.size) (hbw : bw < w.heap.size) (hbs : bs < w.heap.size)
  (ht : w.cell? ⟨bt, 0, none⟩ = some (.int .i64 T)) (hw : w.cell? ⟨bw, 0, none⟩ = some (.slice A n c)) (hs : w.cell? ⟨bs, 0, none⟩ = some (.int .i64 S)) (x y : Int) (hx : 0 ≤ x ∧ x < n) (hy : 0 ≤ y ∧ y < n) :
  Calls Tryz.prog 84 #[.int .i64 x, .int .i64 y, .pointer (some ⟨bt, 0, none⟩), .pointer (some ⟨bw, 0, none⟩), .pointer (some ⟨bs, 0, none⟩)] w fun e w' => ∃ c : Int, e = .returned (.int .i64 c) ∧ decide (c < 0) = lsI T S ws x y ∧ Below w.heap.size w w' := by
 obtain ⟨xn, rfl⟩ : ∃ xn : Nat, x = xn := ⟨x.toNat, by omega⟩
 obtain ⟨yn, rfl⟩ : ∃ yn : Nat, y = yn := ⟨y.toNat, by omega⟩
 obtain ⟨b, off, rfl, hb, hc⟩ := hr.int hl (by omega)
 have hcx := hc xn (by omega)
 have hcy := hc yn (by omega)
 have hmx := hv.mul xn
 have hmy := hv.mul yn
 have HLS : Hid (lsI T S ws xn yn = decide (T * ws.getD yn 0 % S < T * ws.getD xn 0 % S)) := Lib.hid rfl
 obtain ⟨wx, hwx⟩ : ∃ v, ws.getD xn 0 = v := ⟨_, rfl⟩
 obtain ⟨wy, hwy⟩ : ∃ v, ws.getD yn 0 = v := ⟨_, rfl⟩
 rw [hwx] at hcx hmx HLS
 rw [hwy] at hcy hmy HLS
 have hs0 := hv.s0
 have hs1 := hv.s1
 have hrx := Int.emod_nonneg (T * wx) (show S ≠ 0 by omega)
 have hry := Int.emod_nonneg (T * wy) (show S ≠ 0 by omega)
 have hrx1 := Int.emod_lt_of_pos (T * wx) hs0
 have hry1 := Int.emod_lt_of_pos (T * wy) hs0
 have m1 : IntKind.i64.wrap (T * wx) = T * wx := IntWalk.i64_in _ (by omega)
 have m2 : IntKind.i64.wrap (T * wy) = T * wy := IntWalk.i64_in _ (by omega)
 obtain ⟨px, hpx⟩ : ∃ p, T * wx = p := ⟨_, rfl⟩
 obtain ⟨py, hpy⟩ : ∃ p, T * wy = p := ⟨_, rfl⟩
 rw [hpx] at m1 hmx hrx hrx1 HLS
 rw [hpy] at m2 hmy hry hry1 HLS
 obtain ⟨rx, hqx⟩ : ∃ p, px % S = p := ⟨_, rfl⟩
 obtain ⟨ry, hqy⟩ : ∃ p, py % S = p := ⟨_, rfl⟩
 rw [hqx] at hrx hrx1 HLS
 rw [hqy] at hry hry1 HLS
 have t1 : px.tmod S = rx := by rw [Int.tmod_eq_emod_of_nonneg hmx.1]; exact hqx
 have t2 : py.tmod S = ry := by rw [Int.tmod_eq_emod_of_nonneg hmy.1]; exact hqy
 have m3 : IntKind.i64.wrap rx = rx := IntWalk.i64_in _ (by omega)
 have m4 : IntKind.i64.wrap ry = ry := IntWalk.i64_in _ (by omega)
 have n0 : (S == 0) = false := by rw [beq_eq_false_iff_ne]; omega
 have n1 : ¬ S = 0 := by omega
 obtain ⟨i1, i2⟩ := hx
 obtain ⟨i3, i4⟩ := hy
 have HBB := Lib.hid (Nat.lt_of_lt_of_le hb hB)
 have HBT := Lib.hid hbt
 have HBW := Lib.hid hbw
 have HBS := Lib.hid hbs
 have HT := Lib.hid ht
 have HW := Lib.hid hw
 have HS := Lib.hid hs
 have HX := Lib.hid hcx
 have HY := Lib.hid hcy
 clear hr hB hc hv hwx hwy hs0 hs1 hrx hry hrx1 hry1 hmx hmy hqx hqy hb hbt hbw hbs ht hw hs hcx hcy
 go_enter Tryz.func84, Tryz.ntmps84
 go_wp2_with fail
 have hv0 : Below w.heap.size w w.drew := (Below.refl _ _).drew
 refine wp_region_held_drew (S := fun W => Below w.heap.size w W) (by kernel_rfl) (hv0) (fun hHeld => ?_)
 refine wpAnyH_take (i := 0) (oi := { dst := some 8, op := Op.load 3 (Operand.tmp 2), type := 3, pos := "split.go:52", after := #[], guard := none }) (v := ?v0_1) rfl (by kernel_rfl) (by kernel_rfl) (by kernel_rfl) (fun _ _ _ h => h) (Or.inl ⟨by rfl, ?h0_1⟩) (by assumption) ?r0_1
 case h0_1 =>
  intro W hSW
  try dsimp only at hSW
  have hcc := (hSW.cell (p := ⟨bt, 0, none⟩) HBT.out).trans HT.out
  go_simp
  try with_reducible rfl
 try simp only [PT]
 refine wpAnyH_take (i := 1) (oi := { dst := some 9, op := Op.load 27 (Operand.tmp 3), type := 27, pos := "split.go:52", after := #[], guard := none }) (v := ?v1_2) rfl (by kernel_rfl) (by kernel_rfl) (by kernel_rfl) (fun _ _ _ h => h) (Or.inl ⟨by rfl, ?h1_2⟩) (by assumption) ?r1_2
 case h1_2 =>
  intro W hSW
  try dsimp only at hSW
  have hcc := (hSW.cell (p := ⟨bw, 0, none⟩) HBW.out).trans HW.out
  go_simp
  try with_reducible rfl
 try simp only [PT]
 refine wpAnyH_take (i := 2) (oi := { dst := some 10, op := Op.move (Operand.tmp 1), type := 3, pos := "split.go:52", after := #[], guard := none }) (v := ?v2_3) rfl (by kernel_rfl) (by kernel_rfl) (by kernel_rfl) (fun _ _ _ h => h) (Or.inl ⟨by rfl, ?h2_3⟩) (by assumption) ?r2_3
 case h2_3 =>
  intro W hSW
  try dsimp only at hSW
  go_simp
  try with_reducible rfl
 try simp only [PT]
 refine wpAnyH_take (i := 3) (oi := { dst := some 11, op := Op.indexAddr 27 (Operand.tmp 9) (Operand.tmp 10), type := 0, pos := "split.go:52", after := #[{ on := 1, ground := Ground.data }, { on := 2, ground := Ground.data }], guard := none }) (v := ?v3_4) rfl (by kernel_rfl) (by kernel_rfl) (by kernel_rfl) (fun _ _ _ h => h) (Or.inl ⟨by rfl, ?h3_4⟩) (by assumption) ?r3_4
 case h3_4 =>
  intro W hSW
  try dsimp only at hSW
  go_simp
  try with_reducible rfl
 try simp only [PT]
 refine wpAnyH_take (i := 4) (oi := { dst := some 12, op := Op.load 3 (Operand.tmp 11), type := 3, pos := "split.go:52", after := #[{ on := 3, ground := Ground.data }], guard := none }) (v := ?v4_5) rfl (by kernel_rfl) (by kernel_rfl) (by kernel_rfl) (fun _ _ _ h => h) (Or.inl ⟨by rfl, ?h4_5⟩) (by assumption) ?r4_5
 case h4_5 =>
  intro W hSW
  try dsimp only at hSW
  have hcc := (hSW.cell (p := ⟨b, off + yn, none⟩) HBB.out).trans HY.out
  go_simp
  try with_reducible rfl
 try simp only [PT]
 refine wpAnyH_take (i := 5) (oi := { dst := some 13, op := Op.binOp BinOp.mul 3 (Operand.tmp 8) (Operand.tmp 12) 3, type := 3, pos := "split.go:52", after := #[{ on := 0, ground := Ground.data }, { on := 4, ground := Ground.data }], guard := none }) (v := ?v5_6) rfl (by kernel_rfl) (by kernel_rfl) (by kernel_rfl) (fun _ _ _ h => h) (Or.inl ⟨by rfl, ?h5_6⟩) (by assumption) ?r5_6
 case h5_6 =>
  intro W hSW
  try dsimp only at hSW
  go_simp
  try with_reducible rfl
 try simp only [PT]
 refine wpAnyH_take (i := 6) (oi := { dst := some 14, op := Op.load 3 (Operand.tmp 4), type := 3, pos := "split.go:52", after := #[], guard := none }) (v := ?v6_7) rfl (by kernel_rfl) (by kernel_rfl) (by kernel_rfl) (fun _ _ _ h => h) (Or.inl ⟨by rfl, ?h6_7⟩) (by assumption) ?r6_7
 case h6_7 =>
  intro W hSW
  try dsimp only at hSW
  have hcc := (hSW.cell (p := ⟨bs, 0, none⟩) HBS.out).trans HS.out
  go_simp
  try with_reducible rfl
 try simp only [PT]
 refine wpAnyH_take (i := 7) (oi := { dst := some 15, op := Op.binOp BinOp.rem 3 (Operand.tmp 13) (Operand.tmp 14) 3, type := 3, pos := "split.go:52", after := #[{ on := 5, ground := Ground.data }, { on := 6, ground := Ground.data }], guard := none }) (v := ?v7_8) rfl (by kernel_rfl) (by kernel_rfl) (by kernel_rfl) (fun _ _ _ h => h) (Or.inl ⟨by rfl, ?h7_8⟩) (by assumption) ?r7_8
 case h7_8 =>
  intro W hSW
  try dsimp only at hSW
  go_simp
  try with_reducible rfl
 try simp only [PT]
 refine wpAnyH_take (i := 8) (oi := { dst := some 16, op := Op.load 3 (Operand.tmp 2), type := 3, pos := "split.go:52", after := #[], guard := none }) (v := ?v8_9) rfl (by kernel_rfl) (by kernel_rfl) (by kernel_rfl) (fun _ _ _ h => h) (Or.inl ⟨by rfl, ?h8_9⟩) (by assumption) ?r8_9
 case h8_9 =>
  intro W hSW
  try dsimp only at hSW
  have hcc := (hSW.cell (p := ⟨bt, 0, none⟩) HBT.out).trans HT.out
  go_simp
  try with_reducible rfl
 try simp only [PT]
 refine wpAnyH_take (i := 9) (oi := { dst := some 17, op := Op.load 27 (Operand.tmp 3), type := 27, pos := "split.go:52", after := #[], guard := none }) (v := ?v9_10) rfl (by kernel_rfl) (by kernel_rfl) (by kernel_rfl) (fun _ _ _ h => h) (Or.inl ⟨by rfl, ?h9_10⟩) (by assumption) ?r9_10
 case h9_10 =>
  intro W hSW
  try dsimp only at hSW
  have hcc := (hSW.cell (p := ⟨bw, 0, none⟩) HBW.out).trans HW.out
  go_simp
  try with_reducible rfl
 try simp only [PT]
 refine wpAnyH_take (i := 10) (oi := { dst := some 18, op := Op.move (Operand.tmp 0), type := 3, pos := "split.go:52", after := #[], guard := none }) (v := ?v10_11) rfl (by kernel_rfl) (by kernel_rfl) (by kernel_rfl) (fun _ _ _ h => h) (Or.inl ⟨by rfl, ?h10_11⟩) (by assumption) ?r10_11
 case h10_11 =>
  intro W hSW
  try dsimp only at hSW
  go_simp
  try with_reducible rfl
 try simp only [PT]
 refine wpAnyH_take (i := 11) (oi := { dst := some 19, op := Op.indexAddr 27 (Operand.tmp 17) (Operand.tmp 18), type := 0, pos := "split.go:52", after := #[{ on := 9, ground := Ground.data }, { on := 10, ground := Ground.data }], guard := none }) (v := ?v11_12) rfl (by kernel_rfl) (by kernel_rfl) (by kernel_rfl) (fun _ _ _ h => h) (Or.inl ⟨by rfl, ?h11_12⟩) (by assumption) ?r11_12
 case h11_12 =>
  intro W hSW
  try dsimp only at hSW
  go_simp
  try with_reducible rfl
 try simp only [PT]
 refine wpAnyH_take (i := 12) (oi := { dst := some 20, op := Op.load 3 (Operand.tmp 19), type := 3, pos := "split.go:52", after := #[{ on := 11, ground := Ground.data }], guard := none }) (v := ?v12_13) rfl (by kernel_rfl) (by kernel_rfl) (by kernel_rfl) (fun _ _ _ h => h) (Or.inl ⟨by rfl, ?h12_13⟩) (by assumption) ?r12_13
 case h12_13 =>
  intro W hSW
  try dsimp only at hSW
  have hcc := (hSW.cell (p := ⟨b, off + xn, none⟩) HBB.out).trans HX.out
  go_simp
  try with_reducible rfl
 try simp only [PT]
 refine wpAnyH_take (i := 13) (oi := { dst := some 21, op := Op.binOp BinOp.mul 3 (Operand.tmp 16) (Operand.tmp 20) 3, type := 3, pos := "split.go:52", after := #[{ on := 8, ground := Ground.data }, { on := 12, ground := Ground.data }], guard := none }) (v := ?v13_14) rfl (by kernel_rfl) (by kernel_rfl) (by kernel_rfl) (fun _ _ _ h => h) (Or.inl ⟨by rfl, ?h13_14⟩) (by assumption) ?r13_14
 case h13_14 =>
  intro W hSW
  try dsimp only at hSW
  go_simp
  try with_reducible rfl
 try simp only [PT]
 refine wpAnyH_take (i := 14) (oi := { dst := some 22, op := Op.load 3 (Operand.tmp 4), type := 3, pos := "split.go:52", after := #[], guard := none }) (v := ?v14_15) rfl (by kernel_rfl) (by kernel_rfl) (by kernel_rfl) (fun _ _ _ h => h) (Or.inl ⟨by rfl, ?h14_15⟩) (by assumption) ?r14_15
 case h14_15 =>
  intro W hSW
  try dsimp only at hSW
  have hcc := (hSW.cell (p := ⟨bs, 0, none⟩) HBS.out).trans HS.out
  go_simp
  try with_reducible rfl
 try simp only [PT]
 refine wpAnyH_take (i := 15) (oi := { dst := some 23, op := Op.binOp BinOp.rem 3 (Operand.tmp 21) (Operand.tmp 22) 3, type := 3, pos := "split.go:52", after := #[{ on := 13, ground := Ground.data }, { on := 14, ground := Ground.data }], guard := none }) (v := ?v15_16) rfl (by kernel_rfl) (by kernel_rfl) (by kernel_rfl) (fun _ _ _ h => h) (Or.inl ⟨by rfl, ?h15_16⟩) (by assumption) ?r15_16
 case h15_16 =>
  intro W hSW
  try dsimp only at hSW
  go_simp
  try with_reducible rfl
 try simp only [PT]
 refine wpAnyH_ready (rs := [16]) (by kernel_rfl) (by simp) ?_
 refine AllReadyH.cons (o := { dst := some 24, op := Op.call { callee := Callee.value (Operand.func 85), args := #[Operand.tmp 15, Operand.tmp 23], argTypes := #[3, 3] }, type := 3, pos := "split.go:52", after := #[{ on := 7, ground := Ground.data }, { on := 15, ground := Ground.data }], guard := none }) rfl (fun K hK => ?_) AllReadyH.nil
 go_simp
 refine (compare_b ry rx _).mono ?_
 rintro e w1 ⟨rfl, b1⟩
 have hv1 : Below w.heap.size w w1 := hv0.trans (b1.mono hv0.size)
 go_wp2_with fail
 refine hK.out _ _ (hv1) (fun hHeld => ?_)
 clear hK K
 try simp only [PT]
 refine wpAnyH_take (i := 17) (oi := { dst := some 7, op := Op.assign (Operand.tmp 24), type := 3, pos := "split.go:52", after := #[{ on := 16, ground := Ground.data }, { on := 16, ground := Ground.chain }, { on := 0, ground := Ground.phase }, { on := 1, ground := Ground.phase }, { on := 2, ground := Ground.phase }, { on := 3, ground := Ground.phase }, { on := 4, ground := Ground.phase }, { on := 5, ground := Ground.phase }, { on := 6, ground := Ground.phase }, { on := 7, ground := Ground.phase }, { on := 8, ground := Ground.phase }, { on := 9, ground := Ground.phase }, { on := 10, ground := Ground.phase }, { on := 11, ground := Ground.phase }, { on := 12, ground := Ground.phase }, { on := 13, ground := Ground.phase }, { on := 14, ground := Ground.phase }, { on := 15, ground := Ground.phase }, { on := 16, ground := Ground.phase }], guard := none }) (v := ?v17_17) rfl (by kernel_rfl) (by kernel_rfl) (by kernel_rfl) (fun _ _ _ h => h) (Or.inl ⟨by rfl, ?h17_17⟩) (by assumption) ?r17_17
 case h17_17 =>
  intro W hSW
  try dsimp only at hSW
  go_simp
  try with_reducible rfl
 try simp only [PT]
 refine wpAnyH_done (by kernel_rfl) ?_ _
 go_wp2
 go_ret
 refine ⟨cmpI ry rx, rfl, ?_, hv1⟩
 rw [HLS.out]; unfold cmpI; rw [Bool.eq_iff_iff, decide_eq_true_eq, decide_eq_true_eq]; split <;> (try split) <;> omega
theorem cmpOk_of (T S : Int) (ws : List Int) (hv : VW T S ws) (g bt bw bs : Nat) (A : Option Addr) (n c : Nat) (hl : ws.length = n) (hn : n ≤ 1000) (B : Nat) (w : World) (hr : ∀ W, w.grownBy W (some g) → Rd W B 1 A n (ivs ws)) (hB : B ≤ w.heap.size) (hbt : bt < w.heap.size) (hbw : bw < w.heap.size) (hbs : bs < w.heap.size) (gt : bt ≠ g) (gw : bw ≠ g) (gs : bs ≠ g)
  (ht : w.cell? ⟨bt, 0, none⟩ = some (.int .i64 T)) (hw : w.cell? ⟨bw, 0, none⟩ = some (.slice A n c)) (hs : w.cell? ⟨bs, 0, none⟩ = some (.int .i64 S)) : CmpOk w g n bt bw bs (lsI T S ws) :=
 fun W hW x y h1 h2 h3 h4 => first_any T S ws hv bt bw bs A n c hl hn B W (hr W hW) (Nat.le_trans hB hW.size) (Nat.lt_of_lt_of_le hbt hW.size) (Nat.lt_of_lt_of_le hbw hW.size) (Nat.lt_of_lt_of_le hbs hW.size) (far_grown hW ht hbt gt) (far_grown hW hw hbw gw) (far_grown hW hs hbs gs) x y ⟨h1, h2⟩ ⟨h3, h4⟩
def rI (T S : Int) (ws : List Int) (x y : Int) : Prop := keyI T S ws y < keyI T S ws x ∨ keyI T S ws x = keyI T S ws y ∧ x < y
theorem rI_ord (T S : Int) (ws : List Int) : So.Ord (rI T S ws) := ⟨fun {x y z} h1 h2 => by unfold rI at *; omega, fun {x y} h1 h2 => by unfold rI at *; omega⟩
theorem rI_inc (T S : Int) (ws : List Int) (n : Nat) : So.Inc (rI T S ws) (lsI T S ws) (fun t => (t : Int)) n := by
 intro x y hxy _
 unfold So.Cr rI lsI
 simp only [decide_eq_true_eq, decide_eq_false_iff_not]
 omega
theorem ordr_of {T S : Int} {ws : List Int} {n : Nat} {f : Nat → Int} (hm : So.Mv 0 n (fun t => (t : Int)) f) (hs : So.Srt (rI T S ws) f 0 n) : ∃ p : Nat → Nat, (∀ t, f t = (p t : Int)) ∧ Spl.Ordr (fun t => T * ws.getD t 0 % S) n p := by
 obtain ⟨p, p1, p2, p3, p4⟩ := hm
 refine ⟨p, p4, ⟨fun t ht => (p2 t (Nat.zero_le _) ht).2, fun s t _ _ h => p3 s t h, fun s t hst ht => ?_⟩⟩
 have h := hs s t (Nat.zero_le _) hst ht
 rw [p4, p4] at h
 unfold rI keyI at h
 unfold Spl.Bef
 simp only [Int.toNat_natCast] at h ⊢
 omega
end W
end
section
namespace W
open Go.RowKit
theorem alloc_size1 (w : World) (o : Obj) : (w.alloc o).heap.size = w.heap.size + 1 := by simp
abbrev wOf (ws : List Int) (t : Nat) : Int := ws.getD t 0
def OkTo (ws : List Int) (k : Nat) : Prop := ∀ i, i < k → 0 ≤ ws.getD i 0 ∧ Spl.sumTo (wOf ws) (i + 1) ≤ 2147483647
def SumIs (ws : List Int) (n : Nat) (S : Int) : Prop := (OkTo ws n ∧ S = Spl.sumTo (wOf ws) n ∧ 0 ≤ S ∧ S ≤ 2147483647) ∨ (¬ OkTo ws n ∧ S = 0)
theorem OkTo.nonneg {ws : List Int} {k : Nat} (h : OkTo ws k) : 0 ≤ Spl.sumTo (wOf ws) k := (Spl.sum_bound (f := wOf ws) (n := k) (b := 2147483647) fun t ht => ⟨(h t ht).1, by
 have h1 := (h t ht).2
 have h2 : 0 ≤ Spl.sumTo (wOf ws) t := by
  have : ∀ j, j ≤ t → 0 ≤ Spl.sumTo (wOf ws) j := by
   intro j
   induction j with
   | zero => intro _; exact Int.le_refl _
   | succ j ih => intro hj; have := ih (by omega); have := (h j (by omega)).1; show 0 ≤ Spl.sumTo (wOf ws) j + wOf ws j; unfold wOf at *; omega
  exact this t (Nat.le_refl _)
 have h3 : Spl.sumTo (wOf ws) (t + 1) = Spl.sumTo (wOf ws) t + wOf ws t := rfl
 omega⟩).1
theorem OkTo.le {ws : List Int} {k : Nat} (h : OkTo ws k) {t : Nat} (ht : t < k) : ws.getD t 0 ≤ 2147483647 := by
 have h1 := (h t ht).2
 have h2 := OkTo.nonneg (k := t) (ws := ws) fun i hi => h i (by omega)
 have h3 : Spl.sumTo (wOf ws) (t + 1) = Spl.sumTo (wOf ws) t + ws.getD t 0 := rfl
 omega
set_option maxHeartbeats 1600000 in
theorem sum_any (A : Option Addr) (n c : Nat) (ws : List Int) (hl : ws.length = n) (hn : n ≤ 1000) (B : Nat) (w : World) (hr : Rd w B 1 A n (ivs ws)) :
  Calls Tryz.prog 83 #[.slice A n c] w fun e w' => (∃ S, e = .returned (.int .i64 S) ∧ SumIs ws n S) ∧ w' = w := by
 have hn1 : ¬ ((65536 : Int) < (n : Int)) := by omega
 have HR := Lib.hid hr
 have HL := Lib.hid hl
 clear hr hl
 go_enter Tryz.func83, Tryz.ntmps83
 go_wp2
 go_loop [3, 11] (fun u3 u11 => ∃ (k : Nat) (s : Int), k ≤ n ∧ u3 = .int .i64 s ∧ u11 = .int .i64 k ∧ 0 ≤ s ∧ s ≤ 2147483647 ∧ Hid (OkTo ws k ∧ s = Spl.sumTo (wOf ws) k)) (fun _ u11 => n - (intOf u11).toNat)
 case atStart => exact ⟨0, 0, Nat.zero_le _, rfl, rfl, by decide, by decide, fun i hi => absurd hi (Nat.not_lt_zero _), rfl⟩
 case round =>
  obtain ⟨k, s, hk, rfl, rfl, s0, s1, HS⟩ := hrel
  by_cases hlt : k < n
  ·
   obtain ⟨b, off, rfl, _, hc⟩ := HR.out.int HL.out (by omega)
   have hck := hc k hlt
   have i0 : (0 : Int) ≤ (k : Int) := by omega
   have i1 : (k : Int) < (n : Int) := by omega
   have hsu : Spl.sumTo (wOf ws) (k + 1) = Spl.sumTo (wOf ws) k + ws.getD k 0 := rfl
   rw [← HS.out.2] at hsu
   obtain ⟨x, hx⟩ : ∃ x, ws.getD k 0 = x := ⟨_, rfl⟩
   rw [hx] at hck hsu
   have HX := Lib.hid hx
   have HSU := Lib.hid hsu
   have w1 : IntKind.i64.wrap (2147483647 - s) = 2147483647 - s := IntWalk.i64_in _ (by omega)
   clear hc hsu hx
   by_cases h1 : x < 0
   ·
    have HNO : Hid (¬ OkTo ws n) := Lib.hid fun h => by have := (h k (by omega)).1; rw [HX.out] at this; omega
    go_wp2_with fail
    go_ret
    exact ⟨⟨0, rfl, Or.inr ⟨HNO.out, rfl⟩⟩, rfl⟩
   ·
    by_cases h2 : 2147483647 - s < x
    ·
     have HNO : Hid (¬ OkTo ws n) := Lib.hid fun h => by have := (h k (by omega)).2; rw [HSU.out] at this; omega
     go_wp2_with fail
     go_ret
     exact ⟨⟨0, rfl, Or.inr ⟨HNO.out, rfl⟩⟩, rfl⟩
    ·
     have w2 : IntKind.i64.wrap (s + x) = s + x := IntWalk.i64_in _ (by omega)
     go_wp2_with fail
     go_round
     case rel =>
      refine ⟨k + 1, s + x, by omega, rfl, by go_num, by omega, by omega, fun i hi => ?_, HSU.out.symm⟩
      by_cases e : i = k
      ·
       subst e; rw [HX.out, HSU.out]; omega
      ·
       exact HS.out.1 i (by omega)
     case measure => simp [intOf]; omega
  ·
   obtain rfl : k = n := by omega
   go_wp2_with fail
   go_ret
   exact ⟨⟨s, rfl, Or.inl ⟨HS.out.1, HS.out.2, s0, s1⟩⟩, rfl⟩
theorem intT : ElemT Tryz.prog 27 3 (.int .i64 0) 1 8 := ⟨Tryz.underlying27, by kernel_rfl, rfl, by decide, by decide⟩
theorem mkInts (n : Nat) (hn : n ≤ 1000) : ∃ M : Array Value, (∀ t, t < n → M[t]? = some (.int .i64 0)) ∧ ∀ W : World, (Instr.makeSlice 27 (.int .i64 (n : Int)) (.int .i64 (n : Int))).run Tryz.prog W = .ok (.slice (some ⟨W.heap.size, 0, none⟩) n n) (W.alloc (.cells M 3)) := by
 have hi := intT.info
 cases h : Tryz.prog.info? 3 with
 | none => rw [h] at hi; simp at hi
 | some i =>
  rw [h] at hi
  simp only [Option.map_some, Option.some.injEq, Prod.mk.injEq] at hi
  obtain ⟨hz, hs, hb⟩ := hi
  refine ⟨madeCells (Value.int .i64 0).cells ((n : Int).toNat * i.size), fun t ht => ?_, fun W => ?_⟩
  ·
   have hc : (Value.int .i64 0).cells = #[.int .i64 0] := rfl
   rw [hs, hc]; simp [madeCells, ht, Nat.mod_one]
  ·
   have := run_make (P := Tryz.prog) W 27 3 i (.int .i64 0) Tryz.underlying27 h hz .i64 .i64 n n (by omega) (Int.le_refl _) (by rw [hb]; omega) (by omega)
   simpa using this
theorem new_ints {w w' : World} {M : Array Value} {ty : TypeId} {n : Nat} (h : w.alloc (.cells M ty) = w') (hM : ∀ t, t < n → M[t]? = some (.int .i64 0)) : FRow w' w.heap.size n (fun _ => 0) ∧ w'.heap.size = w.heap.size + 1 ∧ Below w.heap.size w w' := by
 subst h
 refine ⟨⟨by rw [alloc_size1]; omega, fun t ht => ?_, fun t _ => World.frozen?_alloc_new _ _ _ _⟩, alloc_size1 _ _, (Below.refl _ _).alloc (Nat.le_refl _) _⟩
 rw [cell_of_row _ _ _ _ _ _ (heap_alloc_new w _)]; exact hM t ht
theorem new_cell {w w' : World} {v : Value} {ty : TypeId} (h : w.alloc (.cells #[v] ty) = w') : w'.cell? ⟨w.heap.size, 0, none⟩ = some v ∧ w'.heap.size = w.heap.size + 1 ∧ Below w.heap.size w w' := by
 subst h
 exact ⟨by rw [cell_of_row _ _ _ _ _ _ (heap_alloc_new w _)]; rfl, alloc_size1 _ _, (Below.refl _ _).alloc (Nat.le_refl _) _⟩
def baseOf (T S : Int) (ws : List Int) (t : Nat) : Int := T * ws.getD t 0 / S
def baseL (T S : Int) (ws : List Int) (n : Nat) : List Int := (List.range n).map (baseOf T S ws)
theorem baseL_get (T S : Int) (ws : List Int) {n t : Nat} (h : t < n) : (baseL T S ws n).getD t 0 = baseOf T S ws t := by simp [baseL, List.getD, h]
def WOk (T S : Int) (ws : List Int) (n : Nat) (w : World) (e : Ending) (w' : World) : Prop := ∃ (g c : Nat) (p : Nat → Nat) (k : Nat), e = .returned (.tuple #[.slice (some ⟨g, 0, none⟩) n c, .int .i64 0]) ∧ n ≤ c ∧ FRow w' g n (fun t => (Spl.bump p (baseL T S ws n) k).getD t 0) ∧
 Spl.Ordr (fun t => T * ws.getD t 0 % S) n p ∧ (k : Int) = T - Spl.sumTo (baseOf T S ws) n ∧ k ≤ n ∧ w.heap.size ≤ g ∧ Below w.heap.size w w'
set_option maxRecDepth 100000 in
set_option maxHeartbeats 4000000 in
theorem weighted_bad (T : Int) (A : Option Addr) (n c : Nat) (ws : List Int) (hl : ws.length = n) (hn : n ≤ 1000) (B : Nat) (w : World) (hr : Rd w B 1 A n (ivs ws)) (hB : B ≤ w.heap.size) (hbad : T < 0 ∨ 2147483647 < T ∨ ¬ OkTo ws n ∨ Spl.sumTo (wOf ws) n = 0) :
  Calls Tryz.prog 51 #[.int .i64 T, .slice A n c] w fun e w' => e = .returned (.tuple #[.slice none 0 0, .int .i64 1]) ∧ Below w.heap.size w w' := by
 obtain ⟨w1, hw1⟩ : ∃ x, w.alloc (.cells #[.int .i64 T] 3) = x := ⟨_, rfl⟩
 obtain ⟨x1, z1, b1⟩ := new_cell hw1
 obtain ⟨w2, hw2⟩ : ∃ x, w1.alloc (.cells #[.slice A n c] 27) = x := ⟨_, rfl⟩
 obtain ⟨x2, z2, b2⟩ := new_cell hw2
 have hb2 := b1.trans (b2.mono b1.size)
 have HSUM := Lib.hid (sum_any A n c ws hl hn B w2 (hr.below (hb2.mono hB)))
 have X1 := (b2.cell (p := ⟨w.heap.size, 0, none⟩) (by show w.heap.size < w1.heap.size; omega)).trans x1
 have HW := Lib.hid (And.intro hw1 hw2)
 have HZ1 := Lib.hid z1
 have HBAD := Lib.hid hbad
 clear hw1 hw2 x1 z1
 go_enter Tryz.func51, Tryz.ntmps51
 go_upto_region 1 with fail
 rw [HW.out.1]
 try rw [← HZ1.out]
 rw [HW.out.2]
 have z1 := HZ1.out
 obtain ⟨bt, hbt⟩ : ∃ x, w.heap.size = x := ⟨_, rfl⟩
 obtain ⟨bw, hbw⟩ : ∃ x, w1.heap.size = x := ⟨_, rfl⟩
 have hwb : w.heap.size ≤ bt := Nat.le_of_eq hbt
 rw [hbt] at X1 z1 ⊢
 rw [hbw] at x2 z1 z2 ⊢
 have hbtw : bt < bw := by omega
 have hbw2 : bw < w2.heap.size := by omega
 have HB2 := Lib.hid hb2
 clear z1 z2 HW HZ1 hbt hbw b1 b2 hb2
 go_upto_region 2 with (go_at_call 83; refine HSUM.out.mono ?_; rintro e w3 ⟨⟨S, rfl, hS⟩, hw3⟩; rw [hw3]; clear hw3 w3; have HSI := Lib.hid hS; clear hS)
 obtain ⟨w3, hw3⟩ : ∃ x, w2.alloc (.cells #[.int .i64 S] 3) = x := ⟨_, rfl⟩
 rw [hw3]
 obtain ⟨x3, z3, b3⟩ := new_cell hw3
 have y1 := (b3.cell (p := ⟨bt, 0, none⟩) (by show bt < _; omega)).trans X1
 have y2 := (b3.cell (p := ⟨bw, 0, none⟩) (by show bw < _; omega)).trans x2
 obtain ⟨bs, hbs⟩ : ∃ x, w2.heap.size = x := ⟨_, rfl⟩
 rw [hbs] at x3 z3 hbw2 ⊢
 have hbs3 : bs < w3.heap.size := by omega
 have HB3 := Lib.hid (HB2.out.trans (b3.mono HB2.out.size))
 clear hw3 hbs z3 b3 X1 x2
 by_cases hs0 : S = 0
 ·
  subst hs0
  go_wp2_with fail
  go_ret2
  exact ⟨rfl, HB3.out⟩
 ·
  have es : (S == 0) = false := by rw [beq_eq_false_iff_ne]; exact hs0
  have hT : T < 0 ∨ 2147483647 < T := by
   rcases HBAD.out with h | h | h | h
   ·
    exact Or.inl h
   ·
    exact Or.inr h
   ·
    rcases HSI.out with ⟨h1, _⟩ | ⟨_, h2⟩
    ·
     exact absurd h1 h
    ·
     exact absurd h2 hs0
   ·
    rcases HSI.out with ⟨_, h2, _⟩ | ⟨_, h2⟩
    ·
     exact absurd (h2.trans h) hs0
    ·
     exact absurd h2 hs0
  clear hs0
  by_cases h1 : T < 0
  ·
   clear hT
   go_wp2_with fail
   go_ret2
   exact ⟨rfl, HB3.out⟩
  ·
   have h2 : 2147483647 < T := by omega
   clear hT
   go_wp2_with fail
   go_ret2
   exact ⟨rfl, HB3.out⟩
theorem sumTo_le {f : Nat → Int} {n : Nat} (h : ∀ t, t < n → 0 ≤ f t) : ∀ k, k < n → f k ≤ Spl.sumTo f n := by
 induction n with
 | zero => intro k hk; omega
 | succ n ih =>
  intro k hk
  have h0 : 0 ≤ Spl.sumTo f n := by
   have : ∀ j, j ≤ n → 0 ≤ Spl.sumTo f j := by
    intro j
    induction j with
    | zero => intro _; exact Int.le_refl _
    | succ j ihj => intro hj; have := ihj (by omega); have := h j (by omega); show 0 ≤ Spl.sumTo f j + f j; omega
   exact this n (Nat.le_refl _)
  show f k ≤ Spl.sumTo f n + f n
  rcases Nat.lt_or_ge k n with h1 | h1
  ·
   have := ih (fun t ht => h t (by omega)) k h1; have := h n (by omega); omega
  ·
   obtain rfl : k = n := by omega
   omega
theorem vw_of {T : Int} {ws : List Int} {n : Nat} (hl : ws.length = n) (t0 : 0 ≤ T) (t1 : T ≤ 2147483647) (h : OkTo ws n) (s0 : 0 < Spl.sumTo (wOf ws) n) (s1 : Spl.sumTo (wOf ws) n ≤ 2147483647) : VW T (Spl.sumTo (wOf ws) n) ws ∧ ∀ k, 0 ≤ baseOf T (Spl.sumTo (wOf ws) n) ws k ∧ baseOf T (Spl.sumTo (wOf ws) n) ws k ≤ T := by
 have hw : ∀ k : Nat, 0 ≤ ws.getD k 0 ∧ ws.getD k 0 ≤ Spl.sumTo (wOf ws) n := fun k => by
  rcases Nat.lt_or_ge k n with hk | hk
  ·
   exact ⟨(h k hk).1, sumTo_le (fun t ht => (h t ht).1) k hk⟩
  ·
   have : ws.getD k 0 = 0 := by simp [List.getD, List.getElem?_eq_none (show ws.length ≤ k by omega)]
   omega
 refine ⟨⟨t0, t1, s0, s1, fun k => ⟨(hw k).1, by have := (hw k).2; omega⟩⟩, fun k => ?_⟩
 unfold baseOf
 have h1 := Int.mul_nonneg t0 (hw k).1
 refine ⟨Int.ediv_nonneg h1 (by omega), ?_⟩
 have h2 : T * ws.getD k 0 ≤ T * Spl.sumTo (wOf ws) n := Int.mul_le_mul_of_nonneg_left (hw k).2 t0
 have h3 := Int.ediv_le_ediv s0 h2
 rwa [Int.mul_ediv_cancel _ (by omega)] at h3
set_option maxRecDepth 100000 in
set_option maxHeartbeats 8000000 in
theorem weighted_ok (T : Int) (A : Option Addr) (n c : Nat) (ws : List Int) (hl : ws.length = n) (hn : n ≤ 1000) (B : Nat) (w : World) (hr : Rd w B 1 A n (ivs ws)) (hB : B ≤ w.heap.size) (t0 : 0 ≤ T) (t1 : T ≤ 2147483647) (hok : OkTo ws n) (hsp : Spl.sumTo (wOf ws) n ≠ 0) :
  Calls Tryz.prog 51 #[.int .i64 T, .slice A n c] w (WOk T (Spl.sumTo (wOf ws) n) ws n w) := by
 obtain ⟨w1, hw1⟩ : ∃ x, w.alloc (.cells #[.int .i64 T] 3) = x := ⟨_, rfl⟩
 obtain ⟨x1, z1, b1⟩ := new_cell hw1
 obtain ⟨w2, hw2⟩ : ∃ x, w1.alloc (.cells #[.slice A n c] 27) = x := ⟨_, rfl⟩
 obtain ⟨x2, z2, b2⟩ := new_cell hw2
 have hb2 := b1.trans (b2.mono b1.size)
 have HSUM := Lib.hid (sum_any A n c ws hl hn B w2 (hr.below (hb2.mono hB)))
 have X1 := (b2.cell (p := ⟨w.heap.size, 0, none⟩) (by show w.heap.size < w1.heap.size; omega)).trans x1
 have HW := Lib.hid (And.intro hw1 hw2)
 have HZ1 := Lib.hid z1
 have HOK := Lib.hid hok
 have HSP := Lib.hid hsp
 have HR := Lib.hid hr
 clear hw1 hw2 x1 z1
 go_enter Tryz.func51, Tryz.ntmps51
 go_upto_region 1 with fail
 rw [HW.out.1]
 try rw [← HZ1.out]
 rw [HW.out.2]
 have z1 := HZ1.out
 obtain ⟨bt, hbt⟩ : ∃ x, w.heap.size = x := ⟨_, rfl⟩
 obtain ⟨bw, hbw⟩ : ∃ x, w1.heap.size = x := ⟨_, rfl⟩
 have hwb : w.heap.size ≤ bt := Nat.le_of_eq hbt
 rw [hbt] at X1 z1 ⊢
 rw [hbw] at x2 z1 z2 ⊢
 have hbtw : bt < bw := by omega
 have hbw2 : bw < w2.heap.size := by omega
 have HB2 := Lib.hid hb2
 clear z1 z2 HW HZ1 hbt hbw b1 b2 hb2
 go_upto_region 2 with (go_at_call 83; refine HSUM.out.mono ?_; rintro e w3 ⟨⟨S, rfl, hS⟩, hw3⟩; rw [hw3]; clear hw3 w3; have HSI := Lib.hid hS; clear hS)
 obtain ⟨w3, hw3⟩ : ∃ x, w2.alloc (.cells #[.int .i64 S] 3) = x := ⟨_, rfl⟩
 rw [hw3]
 obtain ⟨x3, z3, b3⟩ := new_cell hw3
 have y1 := (b3.cell (p := ⟨bt, 0, none⟩) (by show bt < _; omega)).trans X1
 have y2 := (b3.cell (p := ⟨bw, 0, none⟩) (by show bw < _; omega)).trans x2
 obtain ⟨bs, hbs⟩ : ∃ x, w2.heap.size = x := ⟨_, rfl⟩
 rw [hbs] at x3 z3 hbw2 ⊢
 have hbs3 : bs < w3.heap.size := by omega
 have HB3 := Lib.hid (HB2.out.trans (b3.mono HB2.out.size))
 clear hw3 hbs z3 b3 X1 x2
 obtain ⟨S0, hS0⟩ : ∃ x, Spl.sumTo (wOf ws) n = x := ⟨_, rfl⟩
 have hSS : S = Spl.sumTo (wOf ws) n ∧ 0 ≤ S ∧ S ≤ 2147483647 := by
  rcases HSI.out with ⟨_, h2, h3, h4⟩ | ⟨h1, _⟩
  ·
   exact ⟨h2, h3, h4⟩
  ·
   exact absurd HOK.out h1
 have hs0 : 0 < S := by have := HSP.out; omega
 have hvw := vw_of (T := T) hl t0 t1 HOK.out (by omega) (by omega)
 rw [← hSS.1] at hvw
 have HSE := Lib.hid hSS.1
 have hn0 : 0 < n := by
  rcases Nat.eq_zero_or_pos n with h | h
  ·
   subst h; have : Spl.sumTo (wOf ws) 0 = 0 := rfl; omega
  ·
   exact h
 have HVW := Lib.hid hvw.1
 have HBS := Lib.hid hvw.2
 have hlr := Spl.left_range (T := T) (w := wOf ws) (n := n) hSS.1.symm hs0 hn0
 have HLR : Hid (0 ≤ T - Spl.sumTo (baseOf T S ws) n ∧ T - Spl.sumTo (baseOf T S ws) n < n) := Lib.hid hlr
 have es : (S == 0) = false := by rw [beq_eq_false_iff_ne]; omega
 have es' : ¬ S = 0 := by omega
 have n1 : ¬ T < 0 := by omega
 have n2 : ¬ 2147483647 < T := by omega
 obtain ⟨M, hM, hmk⟩ := mkInts n hn
 have HM := Lib.hid hM
 have HL := Lib.hid hl
 have HS0 := Lib.hid (And.intro hs0 hSS.2.2)
 have HYY := Lib.hid (And.intro y1 (And.intro y2 x3))
 clear hS0 hSS hvw hlr hM hl hr hs0 HSI hok hsp
 go_upto_region 4 with fail
 go_cut [7, 8, 9] (fun u7 u8 u9 wx => ∃ gs go, u7 = .slice (some ⟨gs, 0, none⟩) n n ∧ u8 = .slice (some ⟨go, 0, none⟩) n n ∧ u9 = .int .i64 T ∧ Hid (gs ≠ go ∧ w3.heap.size ≤ gs ∧ w3.heap.size ≤ go) ∧ FRow wx gs n (fun _ => 0) ∧ FRow wx go n (fun _ => 0) ∧ Below w3.heap.size w3 wx)
 case first =>
  go_wp2_with fail
  have hv0 : Below w3.heap.size w3 w3.drew := (Below.refl _ _).drew
  refine wp_region_held_drew (S := fun W => Below w3.heap.size w3 W) (by kernel_rfl) (hv0) (fun hHeld => ?_)
  refine wpAnyH_take (i := 0) (oi := { dst := some 27, op := Op.load 27 (Operand.tmp 3), type := 27, pos := "split.go:47", after := #[], guard := none }) (v := ?v0_1001) rfl (by kernel_rfl) (by kernel_rfl) (by kernel_rfl) (fun _ _ _ h => h) (Or.inl ⟨by rfl, ?h0_1001⟩) (by assumption) ?r0_1001
  case h0_1001 =>
   intro W hSW
   try dsimp only at hSW
   have hcc := (hSW.cell (p := ⟨bw, 0, none⟩) (by show bw < _; omega)).trans HYY.out.2.1
   go_simp
   try with_reducible rfl
  try simp only [PT]
  refine wpAnyH_take (i := 1) (oi := { dst := some 28, op := Op.call { callee := Callee.builtin Builtin.len, args := #[Operand.tmp 27], argTypes := #[27] }, type := 3, pos := "split.go:47", after := #[{ on := 0, ground := Ground.data }], guard := none }) (v := ?v1_1002) rfl (by kernel_rfl) (by kernel_rfl) (by kernel_rfl) (fun _ _ _ h => h) (Or.inl ⟨by rfl, ?h1_1002⟩) (by assumption) ?r1_1002
  case h1_1002 =>
   intro W hSW
   try dsimp only at hSW
   go_simp
   try with_reducible rfl
  try simp only [PT]
  refine wpAnyH_take (i := 3) (oi := { dst := some 30, op := Op.load 27 (Operand.tmp 3), type := 27, pos := "split.go:47", after := #[], guard := none }) (v := ?v3_1003) rfl (by kernel_rfl) (by kernel_rfl) (by kernel_rfl) (fun _ _ _ h => h) (Or.inl ⟨by rfl, ?h3_1003⟩) (by assumption) ?r3_1003
  case h3_1003 =>
   intro W hSW
   try dsimp only at hSW
   have hcc := (hSW.cell (p := ⟨bw, 0, none⟩) (by show bw < _; omega)).trans HYY.out.2.1
   go_simp
   try with_reducible rfl
  try simp only [PT]
  refine wpAnyH_take (i := 4) (oi := { dst := some 31, op := Op.call { callee := Callee.builtin Builtin.len, args := #[Operand.tmp 30], argTypes := #[27] }, type := 3, pos := "split.go:47", after := #[{ on := 3, ground := Ground.data }], guard := none }) (v := ?v4_1004) rfl (by kernel_rfl) (by kernel_rfl) (by kernel_rfl) (fun _ _ _ h => h) (Or.inl ⟨by rfl, ?h4_1004⟩) (by assumption) ?r4_1004
  case h4_1004 =>
   intro W hSW
   try dsimp only at hSW
   go_simp
   try with_reducible rfl
  try simp only [PT]
  refine wpAnyH_take (i := 6) (oi := { dst := some 33, op := Op.load 3 (Operand.tmp 2), type := 3, pos := "split.go:47", after := #[{ on := 8, ground := Ground.gcOnly Departure.lateStores }], guard := none }) (v := ?v6_1005) rfl (by kernel_rfl) (by kernel_rfl) (by kernel_rfl) (fun _ _ _ h => h) (Or.inl ⟨by rfl, ?h6_1005⟩) (by assumption) ?r6_1005
  case h6_1005 =>
   intro W hSW
   try dsimp only at hSW
   have hcc := (hSW.cell (p := ⟨bt, 0, none⟩) (by show bt < _; omega)).trans HYY.out.1
   go_simp
   try with_reducible rfl
  try simp only [PT]
  refine wpAnyH_ready (rs := [2, 5]) (by kernel_rfl) (by simp) ?_
  refine AllReadyH.cons (o := { dst := some 29, op := Op.makeSlice 27 (Operand.tmp 28) (Operand.tmp 28), type := 27, pos := "split.go:47", after := #[{ on := 1, ground := Ground.data }, { on := 1, ground := Ground.data }], guard := none }) rfl (fun K hK => ?_) ?_
  ·
   skip
   go_simp
   obtain ⟨w40, hw40⟩ : ∃ x, w3.drew.alloc (.cells M 3) = x := ⟨_, rfl⟩
   first | rw [hw40] | rw [show (w3.alloc (.cells M 3)).drew = w40 from hw40]
   obtain ⟨FS, z40, b40⟩ := new_ints hw40 HM.out
   have hv40 : Below w3.heap.size w3 w40 := hv0.trans (b40.mono hv0.size)
   obtain ⟨gs, hggs⟩ : ∃ x, w3.drew.heap.size = x := ⟨_, rfl⟩
   have lgs : w3.heap.size ≤ gs := by rw [← hggs]; exact hv0.size
   try (have hne : gs ≠ go := by have := FO.lt; omega)
   try (have FO := FO.below b40)
   rw [hggs] at FS
   first | rw [hggs] | rw [show w3.heap.size = gs from hggs]
   clear hw40 z40 hggs
   refine hK.out _ _ (hv40) (fun hHeld => ?_)
   clear hK K
   try simp only [PT]
   refine wpAnyH_take (i := 7) (oi := { dst := some 7, op := Op.assign (Operand.tmp 29), type := 27, pos := "split.go:47", after := #[{ on := 2, ground := Ground.data }, { on := 0, ground := Ground.phase }, { on := 1, ground := Ground.phase }, { on := 2, ground := Ground.phase }, { on := 3, ground := Ground.textOnly Departure.lateStores }, { on := 4, ground := Ground.textOnly Departure.lateStoresUnsure }, { on := 5, ground := Ground.textOnly Departure.lateStoresUnsure }, { on := 6, ground := Ground.textOnly Departure.lateStores }], guard := none }) (v := ?v7_1006) rfl (by kernel_rfl) (by kernel_rfl) (by kernel_rfl) (fun _ _ _ h => h) (Or.inl ⟨by rfl, ?h7_1006⟩) (by assumption) ?r7_1006
   case h7_1006 =>
    intro W hSW
    try dsimp only at hSW
    go_simp
    try with_reducible rfl
   try simp only [PT]
   refine wpAnyH_ready (rs := [5]) (by kernel_rfl) (by simp) ?_
   refine AllReadyH.cons (o := { dst := some 32, op := Op.makeSlice 27 (Operand.tmp 31) (Operand.tmp 31), type := 27, pos := "split.go:47", after := #[{ on := 4, ground := Ground.data }, { on := 4, ground := Ground.data }], guard := none }) rfl (fun K hK => ?_) AllReadyH.nil
   go_simp
   obtain ⟨w41, hw41⟩ : ∃ x, w40.alloc (.cells M 3) = x := ⟨_, rfl⟩
   first | rw [hw41] | rw [show (w3.alloc (.cells M 3)).drew = w41 from hw41]
   obtain ⟨FO, z41, b41⟩ := new_ints hw41 HM.out
   have hv41 : Below w3.heap.size w3 w41 := hv40.trans (b41.mono hv40.size)
   obtain ⟨go, hggo⟩ : ∃ x, w40.heap.size = x := ⟨_, rfl⟩
   have lgo : w3.heap.size ≤ go := by rw [← hggo]; exact hv40.size
   try (have hne : gs ≠ go := by have := FS.lt; omega)
   try (have FS := FS.below b41)
   rw [hggo] at FO
   first | rw [hggo] | rw [show w3.heap.size = go from hggo]
   clear hw41 z41 hggo
   refine hK.out _ _ (hv41) (fun hHeld => ?_)
   clear hK K
   try simp only [PT]
   refine wpAnyH_take (i := 8) (oi := { dst := some 8, op := Op.assign (Operand.tmp 32), type := 27, pos := "split.go:47", after := #[{ on := 5, ground := Ground.data }, { on := 7, ground := Ground.chain }, { on := 0, ground := Ground.phase }, { on := 1, ground := Ground.phase }, { on := 2, ground := Ground.phase }, { on := 3, ground := Ground.phase }, { on := 4, ground := Ground.phase }, { on := 5, ground := Ground.phase }, { on := 6, ground := Ground.textOnly Departure.lateStores }, { on := 7, ground := Ground.phase }], guard := none }) (v := ?v8_1007) rfl (by kernel_rfl) (by kernel_rfl) (by kernel_rfl) (fun _ _ _ h => h) (Or.inl ⟨by rfl, ?h8_1007⟩) (by assumption) ?r8_1007
   case h8_1007 =>
    intro W hSW
    try dsimp only at hSW
    go_simp
    try with_reducible rfl
   try simp only [PT]
   refine wpAnyH_take (i := 9) (oi := { dst := some 9, op := Op.assign (Operand.tmp 33), type := 3, pos := "split.go:47", after := #[{ on := 6, ground := Ground.data }, { on := 8, ground := Ground.chain }, { on := 0, ground := Ground.phase }, { on := 1, ground := Ground.phase }, { on := 2, ground := Ground.phase }, { on := 3, ground := Ground.phase }, { on := 4, ground := Ground.phase }, { on := 5, ground := Ground.phase }, { on := 6, ground := Ground.phase }, { on := 7, ground := Ground.phase }, { on := 8, ground := Ground.phase }], guard := none }) (v := ?v9_1008) rfl (by kernel_rfl) (by kernel_rfl) (by kernel_rfl) (fun _ _ _ h => h) (Or.inl ⟨by rfl, ?h9_1008⟩) (by assumption) ?r9_1008
   case h9_1008 =>
    intro W hSW
    try dsimp only at hSW
    go_simp
    try with_reducible rfl
   try simp only [PT]
   refine wpAnyH_done (by kernel_rfl) ?_ _
   go_wp2_with fail
   go_meet
   exact ⟨gs, go, rfl, rfl, rfl, ⟨hne, lgs, lgo⟩, FS, FO, hv41⟩
  ·
   skip
   refine AllReadyH.cons (o := { dst := some 32, op := Op.makeSlice 27 (Operand.tmp 31) (Operand.tmp 31), type := 27, pos := "split.go:47", after := #[{ on := 4, ground := Ground.data }, { on := 4, ground := Ground.data }], guard := none }) rfl (fun K hK => ?_) AllReadyH.nil
   go_simp
   obtain ⟨w40, hw40⟩ : ∃ x, w3.drew.alloc (.cells M 3) = x := ⟨_, rfl⟩
   first | rw [hw40] | rw [show (w3.alloc (.cells M 3)).drew = w40 from hw40]
   obtain ⟨FO, z40, b40⟩ := new_ints hw40 HM.out
   have hv40 : Below w3.heap.size w3 w40 := hv0.trans (b40.mono hv0.size)
   obtain ⟨go, hggo⟩ : ∃ x, w3.drew.heap.size = x := ⟨_, rfl⟩
   have lgo : w3.heap.size ≤ go := by rw [← hggo]; exact hv0.size
   try (have hne : gs ≠ go := by have := FS.lt; omega)
   try (have FS := FS.below b40)
   rw [hggo] at FO
   first | rw [hggo] | rw [show w3.heap.size = go from hggo]
   clear hw40 z40 hggo
   refine hK.out _ _ (hv40) (fun hHeld => ?_)
   clear hK K
   try simp only [PT]
   refine wpAnyH_ready (rs := [2]) (by kernel_rfl) (by simp) ?_
   refine AllReadyH.cons (o := { dst := some 29, op := Op.makeSlice 27 (Operand.tmp 28) (Operand.tmp 28), type := 27, pos := "split.go:47", after := #[{ on := 1, ground := Ground.data }, { on := 1, ground := Ground.data }], guard := none }) rfl (fun K hK => ?_) AllReadyH.nil
   go_simp
   obtain ⟨w41, hw41⟩ : ∃ x, w40.alloc (.cells M 3) = x := ⟨_, rfl⟩
   first | rw [hw41] | rw [show (w3.alloc (.cells M 3)).drew = w41 from hw41]
   obtain ⟨FS, z41, b41⟩ := new_ints hw41 HM.out
   have hv41 : Below w3.heap.size w3 w41 := hv40.trans (b41.mono hv40.size)
   obtain ⟨gs, hggs⟩ : ∃ x, w40.heap.size = x := ⟨_, rfl⟩
   have lgs : w3.heap.size ≤ gs := by rw [← hggs]; exact hv40.size
   try (have hne : gs ≠ go := by have := FO.lt; omega)
   try (have FO := FO.below b41)
   rw [hggs] at FS
   first | rw [hggs] | rw [show w3.heap.size = gs from hggs]
   clear hw41 z41 hggs
   refine hK.out _ _ (hv41) (fun hHeld => ?_)
   clear hK K
   try simp only [PT]
   refine wpAnyH_take (i := 7) (oi := { dst := some 7, op := Op.assign (Operand.tmp 29), type := 27, pos := "split.go:47", after := #[{ on := 2, ground := Ground.data }, { on := 0, ground := Ground.phase }, { on := 1, ground := Ground.phase }, { on := 2, ground := Ground.phase }, { on := 3, ground := Ground.textOnly Departure.lateStores }, { on := 4, ground := Ground.textOnly Departure.lateStoresUnsure }, { on := 5, ground := Ground.textOnly Departure.lateStoresUnsure }, { on := 6, ground := Ground.textOnly Departure.lateStores }], guard := none }) (v := ?v7_1009) rfl (by kernel_rfl) (by kernel_rfl) (by kernel_rfl) (fun _ _ _ h => h) (Or.inl ⟨by rfl, ?h7_1009⟩) (by assumption) ?r7_1009
   case h7_1009 =>
    intro W hSW
    try dsimp only at hSW
    go_simp
    try with_reducible rfl
   try simp only [PT]
   refine wpAnyH_take (i := 8) (oi := { dst := some 8, op := Op.assign (Operand.tmp 32), type := 27, pos := "split.go:47", after := #[{ on := 5, ground := Ground.data }, { on := 7, ground := Ground.chain }, { on := 0, ground := Ground.phase }, { on := 1, ground := Ground.phase }, { on := 2, ground := Ground.phase }, { on := 3, ground := Ground.phase }, { on := 4, ground := Ground.phase }, { on := 5, ground := Ground.phase }, { on := 6, ground := Ground.textOnly Departure.lateStores }, { on := 7, ground := Ground.phase }], guard := none }) (v := ?v8_1010) rfl (by kernel_rfl) (by kernel_rfl) (by kernel_rfl) (fun _ _ _ h => h) (Or.inl ⟨by rfl, ?h8_1010⟩) (by assumption) ?r8_1010
   case h8_1010 =>
    intro W hSW
    try dsimp only at hSW
    go_simp
    try with_reducible rfl
   try simp only [PT]
   refine wpAnyH_take (i := 9) (oi := { dst := some 9, op := Op.assign (Operand.tmp 33), type := 3, pos := "split.go:47", after := #[{ on := 6, ground := Ground.data }, { on := 8, ground := Ground.chain }, { on := 0, ground := Ground.phase }, { on := 1, ground := Ground.phase }, { on := 2, ground := Ground.phase }, { on := 3, ground := Ground.phase }, { on := 4, ground := Ground.phase }, { on := 5, ground := Ground.phase }, { on := 6, ground := Ground.phase }, { on := 7, ground := Ground.phase }, { on := 8, ground := Ground.phase }], guard := none }) (v := ?v9_1011) rfl (by kernel_rfl) (by kernel_rfl) (by kernel_rfl) (fun _ _ _ h => h) (Or.inl ⟨by rfl, ?h9_1011⟩) (by assumption) ?r9_1011
   case h9_1011 =>
    intro W hSW
    try dsimp only at hSW
    go_simp
    try with_reducible rfl
   try simp only [PT]
   refine wpAnyH_done (by kernel_rfl) ?_ _
   go_wp2_with fail
   go_meet
   exact ⟨gs, go, rfl, rfl, rfl, ⟨hne, lgs, lgo⟩, FS, FO, hv41⟩
 case rest =>
 obtain ⟨gs, go, rfl, rfl, rfl, HNE, FS, FO, B4⟩ := hcut
 obtain ⟨w4, hw4⟩ : ∃ x, wc = x := ⟨_, rfl⟩
 try rw [hw4] at FS FO B4 ⊢
 have HB4 := Lib.hid (HB3.out.trans (B4.mono HB3.out.size))
 have HY4 := Lib.hid (show w4.cell? ⟨bt, 0, none⟩ = some (.int .i64 T) ∧ w4.cell? ⟨bw, 0, none⟩ = some (.slice A n c) ∧ w4.cell? ⟨bs, 0, none⟩ = some (.int .i64 S) from
  ⟨(B4.cell (p := ⟨bt, 0, none⟩) (by show bt < _; omega)).trans HYY.out.1, (B4.cell (p := ⟨bw, 0, none⟩) (by show bw < _; omega)).trans HYY.out.2.1, (B4.cell (p := ⟨bs, 0, none⟩) (by show bs < _; omega)).trans HYY.out.2.2⟩)
 have hs34 := B4.size
 obtain ⟨hne, hgs, hgo⟩ := HNE.out
 have HFS := Lib.hid FS
 have HFO := Lib.hid FO
 have HR4 := Lib.hid (HR.out.below (HB4.out.mono hB))
 have v2 := HY4.out.2.1
 clear hw4 FS FO B4 y1 y2 x3
 go_wp2_with fail
 go_loopw [9, 36] (fun u9 u36 wr => ∃ k : Nat, k ≤ n ∧ u9 = .int .i64 (T - Spl.sumTo (baseOf T S ws) k) ∧ u36 = .int .i64 k ∧ Hid (FRow wr gs n (fun t => if t < k then baseOf T S ws t else 0)) ∧ Hid (FRow wr go n (fun t => if t < k then (t : Int) else 0)) ∧ Keep (fun q => q = gs ∨ q = go) w4 wr) (fun _ u36 _ => n - (intOf u36).toNat)
 case atStart => exact ⟨0, Nat.zero_le _, by simp [Spl.sumTo], rfl, HFS.out.congr fun t _ => by simp, HFO.out.congr fun t _ => by simp, Keep.refl _ _⟩
 case round =>
  clear v2
  obtain ⟨k, hk, rfl, rfl, HF1, HF2, hkp⟩ := hrel
  have HKP := Lib.hid hkp
  have ne := fun (q : Nat) (h1 : q < w3.heap.size) (h2 : q = gs ∨ q = go) => (show False by omega)
  have v1 := (hkp.cell (p := ⟨bt, 0, none⟩) (by show bt < _; omega) (ne bt (by omega))).trans HY4.out.1
  have v2 := (hkp.cell (p := ⟨bw, 0, none⟩) (by show bw < _; omega) (ne bw (by omega))).trans HY4.out.2.1
  have v3 := (hkp.cell (p := ⟨bs, 0, none⟩) (by show bs < _; omega) (ne bs (by omega))).trans HY4.out.2.2
  have hr4 := HR4.out.keepS hkp (by have := HB4.out.size; omega) (fun a ha h => by
   obtain ⟨b', off', e', hb', _⟩ := HR4.out.2 hn0
   rw [e'] at ha; have := Option.some.inj ha; subst this
   have : b' = gs ∨ b' = go := h
   have := HB3.out.size; omega)
  clear ne
  by_cases hlt : k < n
  ·
   obtain ⟨b, off, rfl, _, hc⟩ := hr4.int HL.out hn0
   have hck := hc k hlt
   have hmx := HVW.out.mul k
   have hb1 := HBS.out k
   have hbk : baseOf T S ws k = T * ws.getD k 0 / S := rfl
   have hsu : Spl.sumTo (baseOf T S ws) (k + 1) = Spl.sumTo (baseOf T S ws) k + baseOf T S ws k := rfl
   have hsb := Spl.sum_bound (f := baseOf T S ws) (n := k) (b := T) fun t _ => HBS.out t
   have hkT : (k : Int) * T ≤ 1000 * 2147483647 := Int.le_trans (Int.mul_le_mul_of_nonneg_right (by omega) t0) (Int.mul_le_mul_of_nonneg_left t1 (by decide))
   obtain ⟨x, hx⟩ : ∃ x, ws.getD k 0 = x := ⟨_, rfl⟩
   obtain ⟨bk, hbk'⟩ : ∃ x, baseOf T S ws k = x := ⟨_, rfl⟩
   obtain ⟨lv, hlv⟩ : ∃ x, Spl.sumTo (baseOf T S ws) k = x := ⟨_, rfl⟩
   rw [hx] at hck hmx hbk
   rw [hbk'] at hb1 hbk hsu
   rw [hlv] at hsu hsb ⊢
   have m1 : IntKind.i64.wrap (T * x) = T * x := IntWalk.i64_in _ (by omega)
   obtain ⟨px, hpx⟩ : ∃ p, T * x = p := ⟨_, rfl⟩
   rw [hpx] at m1 hmx hbk
   have tq : px.tdiv S = bk := by rw [Int.tdiv_eq_ediv_of_nonneg hmx.1]; exact hbk.symm
   have m2 : IntKind.i64.wrap bk = bk := IntWalk.i64_in _ (by omega)
   have m3 : IntKind.i64.wrap (T - lv - bk) = T - lv - bk := IntWalk.i64_in _ (by omega)
   have i0 : (0 : Int) ≤ (k : Int) := by omega
   have i1 : (k : Int) < (n : Int) := by omega
   have c1 := HF1.out.cell k hlt
   have c2 := HF2.out.cell k hlt
   have f1 := HF1.out.free k hlt
   have f2 := HF2.out.free k hlt
   rw [if_neg (Nat.lt_irrefl k)] at c1 c2
   have HSU := Lib.hid hsu
   have HBK := Lib.hid hbk'
   clear hkp hr4 hc hmx hb1 hbk hsu hsb hkT hx hbk' hlv
   go_wp2_with fail
   go_roundw
   case rel =>
    have G1 := grown_setCell wr gs k (.int .i64 bk)
    have G2 := grown_setCell (wr.setCell ⟨gs, k, none⟩ (.int .i64 bk)) go k (.int .i64 (k : Int))
    have l1 := HF1.out.lt
    have l2 := HF2.out.lt
    have z1 : (wr.setCell ⟨gs, k, none⟩ (.int .i64 bk)).heap.size = wr.heap.size := by simp
    refine ⟨k + 1, by omega, by rw [HSU.out]; congr 1; omega, by go_num, ?_, ?_, ?_⟩
    ·
     refine FRow.congr ((HF1.out.set hlt bk).keep (G2.block gs (by omega) (fun e => hne (Option.some.inj e)))) fun t _ => ?_
     by_cases e : t = k
     ·
      subst e; rw [if_pos (by omega), if_pos rfl, HBK.out]
     ·
      rw [if_neg e]; by_cases h : t < k
      ·
       rw [if_pos h, if_pos (by omega)]
      ·
       rw [if_neg h, if_neg (by omega)]
    ·
     refine FRow.congr ((HF2.out.keep (G1.block go l2 (fun e => hne (Option.some.inj e).symm))).set hlt (k : Int)) fun t _ => ?_
     by_cases e : t = k
     ·
      subst e; rw [if_pos (by omega), if_pos rfl]
     ·
      rw [if_neg e]; by_cases h : t < k
      ·
       rw [if_pos h, if_pos (by omega)]
      ·
       rw [if_neg h, if_neg (by omega)]
    ·
     exact (HKP.out.grown G1 fun j hj => Or.inl (Or.inl (Option.some.inj hj).symm)).grown G2 fun j hj => Or.inl (Or.inr (Option.some.inj hj).symm)
   case measure => simp [intOf]; omega
  ·
   obtain rfl : k = n := by omega
   obtain ⟨kk, hkk⟩ : ∃ kk : Nat, T - Spl.sumTo (baseOf T S ws) k = (kk : Int) := ⟨(T - Spl.sumTo (baseOf T S ws) k).toNat, by have := HLR.out.1; omega⟩
   have hkn : kk ≤ k := by have := HLR.out.2; omega
   have hkn' : (kk : Int) ≤ (k : Int) := by omega
   have hkk0 : (0 : Int) ≤ (kk : Int) := by omega
   rw [hkk]
   have HKK := Lib.hid hkk
   have FO := HF2.out.congr (e := fun t => (t : Int)) fun t ht => by rw [if_pos ht]
   have FS := HF1.out.congr (e := fun t => (Spl.bump (fun t => t) (baseL T S ws k) 0).getD t 0) fun t ht => by rw [if_pos ht]; exact baseL_get T S ws ht
   have hbw' := HB4.out.size
   have hsz := hkp.size
   have HST := Lib.hid (sortStable_any wr go k k bt bw bs (rI T S ws) (lsI T S ws) (rI_ord T S ws) (cmpOk_of T S ws HVW.out go bt bw bs A k c HL.out hn B wr (fun W hW => hr4.grown_far hW (by omega) (fun a ha e => by
     obtain ⟨b', off', e', hb', _⟩ := hr4.2 hn0
     rw [e'] at ha; have := Option.some.inj ha; subst this
     have : b' = go := Option.some.inj e
     have := HB3.out.size; omega)) (by omega) (by omega) (by omega) (by omega) (by omega) (by omega) (by omega) v1 v2 v3) hn (fun t => (t : Int)) (fun t ht => ⟨by show (0 : Int) ≤ (t : Int); omega, by show (t : Int) < (k : Int); omega⟩) (rI_inc T S ws k) wr (World.grownBy.refl _ _) FO)
   have HFS2 := Lib.hid FS
   clear hkk hkp hr4 FO FS v1 v2 v3 hmk
   go_wp2_with (go_at_call 86; refine HST.out.mono ?_; rintro e w5 ⟨rfl, f, F5, M5, S5, G5⟩)
   obtain ⟨p, hp, O⟩ := ordr_of M5 S5
   have HO := Lib.hid O
   have HP := Lib.hid hp
   have FS5 := HFS2.out.keep (G5.block gs HFS2.out.lt (fun e => hne (Option.some.inj e)))
   have HFS5 := Lib.hid FS5
   have HF5 := Lib.hid F5
   have HG5 := Lib.hid G5
   clear hp O FS5 F5 G5 M5 S5
   go_loopw [68] (fun u68 wy => ∃ (wv : World) (j : Nat), wv = wy ∧ j ≤ kk ∧ u68 = .int .i64 j ∧ Hid (FRow wv gs k (fun t => (Spl.bump p (baseL T S ws k) j).getD t 0)) ∧ Hid (FRow wv go k f) ∧ w5.grownBy wv (some gs)) (fun u68 _ => kk - (intOf u68).toNat)
   case atStart => exact ⟨_, 0, rfl, Nat.zero_le _, rfl, HFS5.out, HF5.out, World.grownBy.refl _ _⟩
   case round =>
    obtain ⟨wv, j, rfl, hj, rfl, HF6, HF7, hgv⟩ := hrel
    have HGV := Lib.hid hgv
    by_cases hlt2 : j < kk
    ·
     have hjk : j < k := by omega
     obtain ⟨q, hq⟩ : ∃ q, p j = q := ⟨_, rfl⟩
     have hqk : q < k := by rw [← hq]; exact HO.out.lt j hjk
     have c1 := HF7.out.cell j hjk
     rw [HP.out j, hq] at c1
     have c2 := HF6.out.cell q hqk
     have f2 := HF6.out.free q hqk
     have hbg := Spl.bump_get HO.out (baseL T S ws k) (k := j) (by simp [baseL]) (by omega) q
     rw [baseL_get T S ws hqk] at hbg
     have hb1 := HBS.out q
     have hbu : Spl.bump p (baseL T S ws k) (j + 1) = (Spl.bump p (baseL T S ws k) j).set (p j) ((Spl.bump p (baseL T S ws k) j).getD (p j) 0 + 1) := rfl
     rw [hq] at hbu
     have hbl : q < (Spl.bump p (baseL T S ws k) j).length := by rw [Spl.bump_len]; simpa [baseL] using hqk
     obtain ⟨x, hx⟩ : ∃ x, (Spl.bump p (baseL T S ws k) j).getD q 0 = x := ⟨_, rfl⟩
     rw [hx] at c2 hbg hbu
     have hx1 : 0 ≤ x ∧ x ≤ T + 1 := by split at hbg <;> omega
     have m1 : IntKind.i64.wrap (x + 1) = x + 1 := IntWalk.i64_in _ (by omega)
     have i0 : (0 : Int) ≤ (q : Int) := by omega
     have i1 : (q : Int) < (k : Int) := by omega
     have j1 : (j : Int) < (kk : Int) := by omega
     have HBU := Lib.hid (And.intro hbu hbl)
     have HQK := Lib.hid hqk
     clear hgv hq hbg hb1 hbu hbl hx hx1
     go_wp2_with fail
     go_roundw
     case rel =>
      have G6 := grown_setCell wv gs q (.int .i64 (x + 1))
      refine ⟨_, j + 1, rfl, by omega, by go_num, FRow.congr (HF6.out.set HQK.out (x + 1)) fun t _ => ?_, HF7.out.keep (G6.block go HF7.out.lt (fun e => hne (Option.some.inj e).symm)), HGV.out.trans G6⟩
      rw [HBU.out.1]
      by_cases e : t = q
      ·
       subst e; rw [if_pos rfl]; simp only [List.getD, List.getElem?_set_self HBU.out.2, Option.getD_some]
      ·
       rw [if_neg e]; simp only [List.getD, List.getElem?_set_ne (fun h => e h.symm)]
     case measure => simp [intOf]; omega
    ·
     obtain rfl : j = kk := by omega
     have HBE : Hid (Below w.heap.size w wv) := Lib.hid (Below.then_keep HB4.out ((HKP.out.grown HG5.out fun i hi => Or.inl (Or.inr (Option.some.inj hi).symm)).grown hgv fun i hi => Or.inl (Or.inl (Option.some.inj hi).symm)) (fun i hi => by have := HB3.out.size; rcases hi with h | h <;> omega) (Nat.le_refl _))
     clear hgv
     go_wp2_with fail
     go_ret2
     unfold WOk
     rw [← HSE.out]
     exact ⟨gs, k, p, j, rfl, Nat.le_refl _, HF6.out, HO.out, HKK.out.symm, hkn, by have := HB3.out.size; omega, HBE.out⟩
end W
end
section
namespace W
open Go.RowKit
theorem mul64_1 (n : Nat) (hn : n ≤ 1000) (w : World) : Calls Tryz.prog 124 #[.int .u64 1, .int .u64 (n : Int)] w fun e w' => e = .returned (.tuple #[.int .u64 0, .int .u64 (n : Int)]) ∧ w' = w := by
 have b1 : bits .and .u64 1 4294967295 = 1 := by have := Mul64.maskN 1 (by decide); simpa using this
 have b2 : bits .and .u64 (n : Int) 4294967295 = (n : Int) := by have := Mul64.maskN n (by omega); rw [Nat.mod_eq_of_lt (by omega)] at this; exact this
 have b0 : bits .and .u64 0 4294967295 = 0 := by have := Mul64.maskN 0 (by decide); simpa using this
 have q0 : (n : Int) / 4294967296 = 0 := by omega
 have w1 : IntKind.u64.wrap (n : Int) = (n : Int) := by rw [IntKind.wrap_u64]; omega
 have w0 : IntKind.u64.wrap 0 = 0 := by decide
 go_enter Tryz.func124, Tryz.ntmps124
 go_wp2
 go_ret2
 exact ⟨rfl, rfl⟩
theorem mul_1 (n : Nat) (hn : n ≤ 1000) (w : World) : Calls Tryz.prog 111 #[.int .u64 1, .int .u64 (n : Int)] w fun e w' => e = .returned (.tuple #[.int .u64 0, .int .u64 (n : Int)]) ∧ w' = w := by
 go_enter Tryz.func111, Tryz.ntmps111
 go_wp2_with (go_at_call 124; refine (mul64_1 n hn _).mono ?_; rintro e w1 ⟨rfl, hw1⟩; rw [hw1]; clear hw1 w1)
 go_ret2
 exact ⟨rfl, rfl⟩
theorem FRow.fill {g n : Nat} (v : Int) : ∀ (k o : Nat) (w : World) (d : Nat → Int), FRow w g n d → o + k ≤ n → FRow (w.setCells g o (List.replicate k (.int .i64 v))) g n (fun t => if o ≤ t ∧ t < o + k then v else d t) ∧ w.grownBy (w.setCells g o (List.replicate k (.int .i64 v))) (some g) := by
 intro k
 induction k with
 | zero => intro o w d h _; exact ⟨h.congr fun t _ => by rw [if_neg (by omega)], World.grownBy.refl _ _⟩
 | succ k ih =>
  intro o w d h hk
  rw [List.replicate_succ, World.setCells]
  obtain ⟨h1, h2⟩ := ih (o + 1) (w.setCell ⟨g, o, none⟩ (.int .i64 v)) _ (h.set (k := o) (by omega) v) (by omega)
  refine ⟨h1.congr fun t _ => ?_, (grown_setCell _ _ _ _).trans h2⟩
  by_cases e : t = o
  ·
   subst e; rw [if_pos (by omega), if_neg (by omega), if_pos rfl]
  ·
   by_cases e2 : o + 1 ≤ t ∧ t < o + 1 + k
   ·
    rw [if_pos e2, if_pos (by omega)]
   ·
    rw [if_neg e2, if_neg e, if_neg (by omega)]
theorem copy_fill (W : World) {g n o k : Nat} {d : Nat → Int} (h : FRow W g n d) (hk : o + k ≤ n) (v : Int) (a : Addr) (dLen dCap sLen sCap : Nat) (hn : k = Nat.min sLen dLen) (hsrc : ∀ j, j < k → W.cell? (a.add j) = some (.int .i64 v)) :
  (Builtin.copy_ #[27, 27] 3 #[.slice (some ⟨g, o, none⟩) dLen dCap, .slice (some a) sLen sCap]).run Tryz.prog W = .ok (.int .i64 (k : Int)) (W.setCells g o (List.replicate k (.int .i64 v))) := by
 have hs : (Tryz.prog.info? 3).map (·.size) = some 1 := by
  have hi := intT.info
  cases h : Tryz.prog.info? 3 with
  | none => rw [h] at hi; simp at hi
  | some i => rw [h] at hi; simp only [Option.map_some, Option.some.injEq, Prod.mk.injEq] at hi; simp [hi.2.1]
 have := run_copy_cells (P := Tryz.prog) W 27 27 3 3 g o dLen dCap a sLen sCap (List.replicate k (.int .i64 v)) Tryz.underlying27 hs (by simp [hn]) (fun j u hu => by
   have hj : j < k := by have := (List.getElem?_eq_some_iff.1 hu).1; simpa using this
   have : u = .int .i64 v := by simp [hj] at hu; exact hu.symm
   subst this; exact hsrc j hj) (fun j hj => by rw [h.cell (o + j) (by simp at hj; omega)]; rfl) (fun j hj => h.free (o + j) (by simp at hj; omega)) (fun u hu => by rw [List.eq_of_mem_replicate hu]; rfl)
 simpa [goInt] using this
set_option maxRecDepth 100000 in
set_option maxHeartbeats 4000000 in
theorem repeat_any (v : Int) (bx n : Nat) (h0 : 0 < n) (hn : n ≤ 1000) (w : World) (hb : bx < w.heap.size) (hx : w.cell? ⟨bx, 0, none⟩ = some (.int .i64 v)) :
  Calls Tryz.prog 106 #[.slice (some ⟨bx, 0, none⟩) 1 1, .int .i64 (n : Int)] w fun e w' => ∃ g, e = .returned (.slice (some ⟨g, 0, none⟩) n n) ∧ FRow w' g n (fun _ => v) ∧ w.heap.size ≤ g ∧ Below w.heap.size w w' := by
 have w1 : IntKind.u64.wrap (n : Int) = (n : Int) := by rw [IntKind.wrap_u64]; omega
 have w2 : IntKind.i64.wrap (n : Int) = (n : Int) := IntWalk.i64_in _ (by omega)
 have n1 : ¬ ((n : Int) < 0) := by omega
 have n2 : ¬ ((9223372036854775807 : Int) < (n : Int)) := by omega
 obtain ⟨M, hM, hmk⟩ := mkInts n hn
 have HM := Lib.hid hM
 have HX := Lib.hid hx
 have HMU := Lib.hid (fun W => mul_1 n hn W)
 have HB := Lib.hid hb
 have H0 := Lib.hid h0
 clear hM hx hb h0
 go_enter Tryz.func106, Tryz.ntmps106
 go_upto_region 7 with (go_at_call 111; refine (HMU.out _).mono ?_; rintro e w1 ⟨rfl, hw1⟩; rw [hw1]; clear hw1 w1)
 obtain ⟨w3, hw3⟩ : ∃ x, w.alloc (.cells M 3) = x := ⟨_, rfl⟩
 rw [hw3]
 obtain ⟨F3, z3, b3⟩ := new_ints hw3 HM.out
 have x3 := (b3.cell (p := ⟨bx, 0, none⟩) HB.out).trans HX.out
 obtain ⟨g, hg⟩ : ∃ x, w.heap.size = x := ⟨_, rfl⟩
 have HGE := Lib.hid (Nat.le_of_eq hg)
 rw [hg] at F3 ⊢
 have hcp := copy_fill w3 F3 (o := 0) (k := 1) (by have := H0.out; omega) v ⟨bx, 0, none⟩ n n 1 1 (by have := H0.out; show 1 = min 1 n; omega) (fun j hj => by
  obtain rfl : j = 0 := by omega
  exact x3)
 obtain ⟨F4, G4⟩ := F3.fill v 1 0 w3 _ (by have := H0.out; omega)
 have HCP := Lib.hid hcp
 have HBE := Lib.hid (b3.grown G4 b3.size (fun i hi => by have := Option.some.inj hi; omega))
 obtain ⟨w4, hw4⟩ : ∃ x, w3.setCells g 0 (List.replicate 1 (.int .i64 v)) = x := ⟨_, rfl⟩
 rw [hw4] at HCP F4 HBE
 have HF4 := Lib.hid (F4.congr (e := fun t => if t < 1 then v else 0) fun t _ => by
  by_cases h : t < 1
  ·
   rw [if_pos h, if_pos (by omega)]
  ·
   rw [if_neg h, if_neg (by omega)])
 clear hw3 F3 z3 b3 x3 hg hcp F4 G4 hw4 hmk
 go_wp2_with (refine Go.Proofs.wpList_copy_runI _ rfl (.tmp 31) (.tmp 32) 27 27 rfl _ _ rfl rfl HCP.out ?_)
 go_loopw [8] (fun u8 wr => ∃ m : Nat, 0 < m ∧ m ≤ n ∧ u8 = .int .i64 m ∧ Hid (FRow wr g n (fun t => if t < m then v else 0)) ∧ Below w.heap.size w wr) (fun u8 _ => n - (intOf u8).toNat)
 case atStart => exact ⟨1, by decide, H0.out, rfl, HF4.out, HBE.out⟩
 case round =>
  obtain ⟨m, hm0, hmn, rfl, HF, hbr⟩ := hrel
  have HBR := Lib.hid hbr
  by_cases hlt : m < n
  ·
   have m1 : (m : Int) < (n : Int) := by omega
   have m2 : (0 : Int) ≤ (m : Int) := by omega
   have m3 : (m : Int) ≤ (n : Int) := by omega
   obtain ⟨k, hk⟩ : ∃ k, Nat.min m (n - m) = k := ⟨_, rfl⟩
   have hkb : m + k ≤ n ∧ 0 < k ∧ k ≤ m := by have h1 : min m (n - m) = k := hk; omega
   obtain ⟨m', hm'⟩ : ∃ x, m + k = x := ⟨_, rfl⟩
   have qm : (m : Int) + (k : Int) = (m' : Int) := by omega
   have wm : IntKind.i64.wrap (m' : Int) = (m' : Int) := IntWalk.i64_in _ (by omega)
   have hCP := fun (W : World) (F : FRow W g n (fun t => if t < m then v else 0)) => copy_fill W F (o := m) (k := k) hkb.1 v ⟨g, 0, none⟩ (n - m) (n - m) m n hk.symm (fun j hj => by
    rw [Addr.add_lit, Nat.zero_add]
    have := F.cell j (by omega)
    rwa [if_pos (by omega)] at this)
   have HCP2 := Lib.hid hCP
   have HKB := Lib.hid (And.intro hkb hm')
   have hcut1 := fun W => run_cutFrom (P := Tryz.prog) W intT (some ⟨g, 0, none⟩) n n m .i64 hmn
   have hne : ¬ (n = m) := by omega
   clear hbr hk hkb hm' hCP
   go_wp2_with fail
   have hv0 : Below wr.heap.size wr wr.drew := (Below.refl _ _).drew
   refine wp_region_late (fun W => Below wr.heap.size wr W) [0, 7, 8, 9] (by kernel_rfl) (hv0) (fun hHeld => ?_)
   refine wpAnyL_takeE (i := 0) (oi := { dst := some 38, op := Op.move (Operand.tmp 8), type := 3, pos := "slices.go:528", after := #[], guard := none }) (v := ?v0_1001) rfl (by kernel_rfl) (by kernel_rfl) (by kernel_rfl) (by kernel_rfl) (fun _ _ _ h => h) (Or.inl ⟨by rfl, ?h0_1001⟩) ?r0_1001
   case h0_1001 =>
    intro W
    go_simp
    try with_reducible rfl
   try simp only [PT]
   refine wpAnyL_take (i := 1) (oi := { dst := some 39, op := Op.move (Operand.tmp 7), type := 27, pos := "slices.go:528", after := #[], guard := none }) (v := ?v1_1002) rfl (by kernel_rfl) (by kernel_rfl) (by kernel_rfl) (by kernel_rfl) (fun _ _ _ h => h) (Or.inl ⟨by rfl, ?h1_1002⟩) (by assumption) ?r1_1002
   case h1_1002 =>
    intro W hSW
    try dsimp only at hSW
    go_simp
    try with_reducible rfl
   try simp only [PT]
   refine wpAnyL_take (i := 2) (oi := { dst := some 40, op := Op.move (Operand.tmp 8), type := 3, pos := "slices.go:528", after := #[], guard := none }) (v := ?v2_1003) rfl (by kernel_rfl) (by kernel_rfl) (by kernel_rfl) (by kernel_rfl) (fun _ _ _ h => h) (Or.inl ⟨by rfl, ?h2_1003⟩) (by assumption) ?r2_1003
   case h2_1003 =>
    intro W hSW
    try dsimp only at hSW
    go_simp
    try with_reducible rfl
   try simp only [PT]
   refine wpAnyL_take (i := 3) (oi := { dst := some 41, op := Op.slice 27 (Operand.tmp 39) (some (Operand.tmp 40)) none none, type := 27, pos := "slices.go:528", after := #[{ on := 1, ground := Ground.data }, { on := 2, ground := Ground.data }], guard := none }) (v := ?v3_1004) rfl (by kernel_rfl) (by kernel_rfl) (by kernel_rfl) (by kernel_rfl) (fun _ _ _ h => h) (Or.inl ⟨by rfl, ?h3_1004⟩) (by assumption) ?r3_1004
   case h3_1004 =>
    intro W hSW
    try dsimp only at hSW
    have hcc := hcut1 W
    rw [if_neg hne] at hcc
    go_simp
    try with_reducible rfl
   try simp only [PT]
   refine wpAnyL_take (i := 4) (oi := { dst := some 42, op := Op.move (Operand.tmp 7), type := 27, pos := "slices.go:528", after := #[], guard := none }) (v := ?v4_1005) rfl (by kernel_rfl) (by kernel_rfl) (by kernel_rfl) (by kernel_rfl) (fun _ _ _ h => h) (Or.inl ⟨by rfl, ?h4_1005⟩) (by assumption) ?r4_1005
   case h4_1005 =>
    intro W hSW
    try dsimp only at hSW
    go_simp
    try with_reducible rfl
   try simp only [PT]
   refine wpAnyL_take (i := 5) (oi := { dst := some 43, op := Op.move (Operand.tmp 8), type := 3, pos := "slices.go:528", after := #[], guard := none }) (v := ?v5_1006) rfl (by kernel_rfl) (by kernel_rfl) (by kernel_rfl) (by kernel_rfl) (fun _ _ _ h => h) (Or.inl ⟨by rfl, ?h5_1006⟩) (by assumption) ?r5_1006
   case h5_1006 =>
    intro W hSW
    try dsimp only at hSW
    go_simp
    try with_reducible rfl
   try simp only [PT]
   refine wpAnyL_take (i := 6) (oi := { dst := some 44, op := Op.slice 27 (Operand.tmp 42) none (some (Operand.tmp 43)) none, type := 27, pos := "slices.go:528", after := #[{ on := 4, ground := Ground.data }, { on := 5, ground := Ground.data }], guard := none }) (v := ?v6_1007) rfl (by kernel_rfl) (by kernel_rfl) (by kernel_rfl) (by kernel_rfl) (fun _ _ _ h => h) (Or.inl ⟨by rfl, ?h6_1007⟩) (by assumption) ?r6_1007
   case h6_1007 =>
    intro W hSW
    try dsimp only at hSW
    go_simp
    try with_reducible rfl
   try simp only [PT]
   refine wpAnyL_ready (rs := [7]) (by kernel_rfl) (by simp) ?_
   refine AllReadyL.late (o := { dst := some 45, op := Op.call { callee := Callee.builtin Builtin.copy, args := #[Operand.tmp 41, Operand.tmp 44], argTypes := #[27, 27] }, type := 3, pos := "slices.go:528", after := #[{ on := 3, ground := Ground.data }, { on := 6, ground := Ground.data }], guard := none }) rfl (by rfl) (fun K hK => ?_) AllReadyL.nil
   rw [if_pos (by rfl)]
   refine Go.Proofs.wp_copy_runI wr.drew (.tmp 41) (.tmp 44) 27 27 rfl (.slice (some ⟨g, m, none⟩) (n - m) (n - m)) (.slice (some ⟨g, 0, none⟩) m n) ?hd7 rfl (HCP2.out wr.drew (HF.out.below hv0)) ?_
   case hd7 => first | rfl | simp
   obtain ⟨F9, G9⟩ := (HF.out.below hv0).fill v k m wr.drew _ HKB.out.1.1
   obtain ⟨w50, hw50⟩ : ∃ x, wr.drew.setCells g m (List.replicate k (.int .i64 v)) = x := ⟨_, rfl⟩
   rw [hw50] at F9 G9 ⊢
   have B9 := (HBR.out.trans (hv0.mono HBR.out.size)).grown G9 (Nat.le_trans HBR.out.size hv0.size) (fun i hi => by have := Option.some.inj hi; have := HGE.out; omega)
   clear hw50
   have hv50 := hv0
   refine hK.out _ _ ?_
   clear hK K
   try simp only [PT]
   refine wpAnyL_takeE (i := 8) (oi := { dst := some 46, op := Op.binOp BinOp.add 3 (Operand.tmp 38) (Operand.tmp 45) 3, type := 3, pos := "slices.go:528", after := #[{ on := 0, ground := Ground.data }, { on := 7, ground := Ground.data }], guard := none }) (v := ?v8_1008) rfl (by kernel_rfl) (by kernel_rfl) (by kernel_rfl) (by kernel_rfl) (fun _ _ _ h => h) (Or.inl ⟨by rfl, ?h8_1008⟩) ?r8_1008
   case h8_1008 =>
    intro W
    go_simp
    try with_reducible rfl
   try simp only [PT]
   refine wpAnyL_takeE (i := 9) (oi := { dst := some 8, op := Op.assign (Operand.tmp 46), type := 3, pos := "slices.go:528", after := #[{ on := 8, ground := Ground.data }, { on := 7, ground := Ground.chain }, { on := 0, ground := Ground.phase }, { on := 1, ground := Ground.phase }, { on := 2, ground := Ground.phase }, { on := 3, ground := Ground.phase }, { on := 4, ground := Ground.phase }, { on := 5, ground := Ground.phase }, { on := 6, ground := Ground.phase }, { on := 7, ground := Ground.phase }, { on := 8, ground := Ground.phase }], guard := none }) (v := ?v9_1009) rfl (by kernel_rfl) (by kernel_rfl) (by kernel_rfl) (by kernel_rfl) (fun _ _ _ h => h) (Or.inl ⟨by rfl, ?h9_1009⟩) ?r9_1009
   case h9_1009 =>
    intro W
    go_simp
    try with_reducible rfl
   try simp only [PT]
   refine wpAnyL_done (by kernel_rfl) ?_ _
   go_wp2_with fail
   go_roundw
   case rel =>
    obtain ⟨⟨hk1, hk2, hk3⟩, hm'⟩ := HKB.out
    exact ⟨m', by omega, by omega, by go_num, F9.congr fun t _ => (by
     by_cases h1 : t < m
     ·
      rw [if_pos (by omega), if_neg (by omega), if_pos h1]
     ·
      by_cases h2 : t < m'
      ·
       rw [if_pos h2, if_pos (by omega)]
      ·
       rw [if_neg h2, if_neg (by omega), if_neg h1]), B9⟩
   case measure => have := HKB.out; simp [intOf]; omega
  ·
   obtain rfl : m = n := by omega
   have F := HF.out.congr (e := fun _ => v) fun t ht => by rw [if_pos ht]
   have HFF := Lib.hid F
   clear F hbr
   go_wp2_with fail
   go_ret
   exact ⟨g, rfl, HFF.out, HGE.out, HBR.out⟩
def evenOf (T : Int) (n t : Nat) : Int := T / (n : Int) + if (t : Int) < T % (n : Int) then 1 else 0
def EOk (T : Int) (n : Nat) (w : World) (e : Ending) (w' : World) : Prop := ∃ g, e = .returned (.tuple #[.slice (some ⟨g, 0, none⟩) n n, .int .i64 0]) ∧ FRow w' g n (evenOf T n) ∧ w.heap.size ≤ g ∧ Below w.heap.size w w'
set_option maxRecDepth 100000 in
set_option maxHeartbeats 4000000 in
theorem even_ok (T : Int) (n : Nat) (h0 : 0 < n) (hn : n ≤ 1000) (t0 : 0 ≤ T) (t1 : T ≤ 2147483647) (w : World) :
  Calls Tryz.prog 77 #[.int .i64 T, .int .i64 (n : Int)] w (EOk T n w) := by
 have hq1 := Int.ediv_nonneg t0 (show (0 : Int) ≤ (n : Int) by omega)
 have hq2 : T / (n : Int) ≤ T := Int.ediv_le_self _ t0
 have hr1 := Int.emod_nonneg T (show (n : Int) ≠ 0 by omega)
 have hr2 := Int.emod_lt_of_pos T (show (0 : Int) < (n : Int) by omega)
 have HEV : Hid (∀ t, evenOf T n t = T / (n : Int) + if (t : Int) < T % (n : Int) then 1 else 0) := Lib.hid fun _ => rfl
 obtain ⟨q, hq⟩ : ∃ q, T / (n : Int) = q := ⟨_, rfl⟩
 obtain ⟨r, hr⟩ : ∃ r : Nat, T % (n : Int) = (r : Int) := ⟨(T % (n : Int)).toNat, by omega⟩
 rw [hq] at hq1 hq2 HEV
 rw [hr] at hr1 hr2 HEV
 have d1 : T.tdiv (n : Int) = q := by rw [Int.tdiv_eq_ediv_of_nonneg t0]; exact hq
 have d2 : T.tmod (n : Int) = (r : Int) := by rw [Int.tmod_eq_emod_of_nonneg t0]; exact hr
 have w1 : IntKind.i64.wrap q = q := IntWalk.i64_in _ (by omega)
 have w2 : IntKind.i64.wrap (r : Int) = (r : Int) := IntWalk.i64_in _ (by omega)
 have w3 : IntKind.i64.wrap (q + 1) = q + 1 := IntWalk.i64_in _ (by omega)
 have e0 : ((n : Int) == 0) = false := by rw [beq_eq_false_iff_ne]; omega
 have e0' : ¬ ((n : Int) = 0) := by omega
 have n1 : ¬ T < 0 := by omega
 have n2 : ¬ 2147483647 < T := by omega
 have n3 : ¬ ((n : Int) < 1) := by omega
 have n4 : ¬ ((65536 : Int) < (n : Int)) := by omega
 have hrn : r < n := by omega
 have HREP := Lib.hid (repeat_any q w.heap.size n h0 hn (w.alloc (.cells #[.int .i64 q] 3)) (by simp) (by rw [cell_of_row _ _ _ _ _ _ (heap_alloc_new w _)]; rfl))
 have HB1 := Lib.hid ((Below.refl w.heap.size w).alloc (Nat.le_refl _) (.cells #[.int .i64 q] 3))
 clear hq hr hr1 hr2 h0 hn
 go_enter Tryz.func77, Tryz.ntmps77
 go_wp2_with (go_at_call 106; refine HREP.out.mono ?_; rintro e w2 ⟨g, rfl, F2, hg, b2⟩)
 have HGE := Lib.hid (Nat.le_trans (show w.heap.size ≤ (w.alloc (.cells #[.int .i64 q] 3)).heap.size by simp) hg)
 have HB2 := Lib.hid (HB1.out.trans (b2.mono (by simp)))
 have HF2 := Lib.hid F2
 clear F2 hg b2
 go_loopw [31] (fun u31 wr => ∃ i : Nat, i ≤ r ∧ u31 = .int .i64 i ∧ Hid (FRow wr g n (fun t => q + if t < i then 1 else 0)) ∧ Below w.heap.size w wr) (fun u31 _ => r - (intOf u31).toNat)
 case atStart => exact ⟨0, Nat.zero_le _, rfl, HF2.out.congr fun t _ => by simp, HB2.out⟩
 case round =>
  obtain ⟨i, hi, rfl, HF, hbr⟩ := hrel
  have HBR := Lib.hid hbr
  by_cases hlt : i < r
  ·
   have hin : i < n := by omega
   have c1 := HF.out.cell i hin
   have f1 := HF.out.free i hin
   rw [if_neg (Nat.lt_irrefl i), Int.add_zero] at c1
   have i0 : (0 : Int) ≤ (i : Int) := by omega
   have i1 : (i : Int) < (n : Int) := by omega
   have i2 : (i : Int) < (r : Int) := by omega
   have HIN := Lib.hid hin
   clear hbr hin
   go_wp2_with fail
   go_roundw
   case rel =>
    refine ⟨i + 1, by omega, by go_num, FRow.congr (HF.out.set HIN.out (q + 1)) fun t _ => ?_, HBR.out.setCell (by have := HGE.out; show w.heap.size ≤ g; exact this) _⟩
    by_cases e : t = i
    ·
     subst e; rw [if_pos (by omega), if_pos rfl]
    ·
     rw [if_neg e]; by_cases h : t < i
     ·
      rw [if_pos h, if_pos (by omega)]
     ·
      rw [if_neg h, if_neg (by omega)]
   case measure => simp [intOf]; omega
  ·
   obtain rfl : i = r := by omega
   have FE := HF.out.congr (e := evenOf T n) fun t _ => by
    rw [HEV.out]; by_cases h : t < i
    ·
     rw [if_pos h, if_pos (by omega)]
    ·
     rw [if_neg h, if_neg (by omega)]
   have HFE := Lib.hid FE
   clear FE hbr
   go_wp2_with fail
   go_ret2
   exact ⟨g, rfl, HFE.out, HGE.out, HBR.out⟩
end W
end
section
namespace W
open Go.RowKit
theorem take_succ_eq {α : Type} {xs ys : List α} {k : Nat} (hx : k < xs.length) (hy : k < ys.length) (h : xs.take k = ys.take k) (e : xs[k] = ys[k]) : xs.take (k + 1) = ys.take (k + 1) := by
 rw [List.take_succ_eq_append_getElem hx, List.take_succ_eq_append_getElem hy, h, e]
theorem ne_of_get {α : Type} {xs ys : List α} {k : Nat} (hx : k < xs.length) (hy : k < ys.length) (e : xs[k] ≠ ys[k]) : xs ≠ ys := by
 intro h; subst h; exact e rfl
theorem eq_of_take {α : Type} {xs ys : List α} {k : Nat} (h : xs.take k = ys.take k) (h1 : xs.length ≤ k) (h2 : ys.length ≤ k) : xs = ys := by
 rwa [List.take_of_length_le h1, List.take_of_length_le h2] at h

theorem ex_drew2 (w : World) (a b : Nat) : ∃ n, (w.drewN a).drewN b = w.drewN n := ⟨a + b, by rw [World.drewN_drewN]⟩
set_option maxHeartbeats 400000 in
theorem same33_any (A B : Option Addr) (ca cb : Nat) (xs ys : List Int) (w : World) (hL : xs.length ≤ maxLen) (B1 B2 : Nat)
  (ha : Rd w B1 1 A xs.length (ivs xs)) (hb : Rd w B2 1 B ys.length (ivs ys)) :
  Calls Tryz.prog 42 #[.slice A xs.length ca, .slice B ys.length cb] w fun e w' => e = .returned (.bool (decide (xs = ys))) ∧ ∃ n, w' = w.drewN n := by
 unfold maxLen at hL
 by_cases hlen : xs.length = ys.length
 ·
  have hne : ((xs.length : Int) != ys.length) = false := by rw [bne_eq_false_iff_eq]; omega
  have HL := Lib.hid hlen; clear hlen
  go_enter Tryz.func42, Tryz.ntmps42
  go_wp2
  go_loopw [5] (fun i wr => ∃ k n : Nat, k ≤ xs.length ∧ i = .int .i64 k ∧ wr = w.drewN n ∧ Hid (xs.take k = ys.take k)) (fun i _ => xs.length - (intOf i).toNat)
  case atStart => exact ⟨0, 0, Nat.zero_le _, rfl, rfl, by simp [Hid]⟩
  case round =>
   obtain ⟨k, n, hk, rfl, rfl, HT⟩ := hrel
   by_cases hlt : k < xs.length
   ·
    have hky : k < ys.length := by have := HL.out; omega
    obtain ⟨ba, oa, rfl, _, h1⟩ := ha.get hlt
    obtain ⟨bb, ob, rfl, _, h2⟩ := hb.get hky
    clear ha hb
    by_cases hxy : (xs[k] != ys[k]) = true
    ·
     have HN := Lib.hid (ne_of_get hlt hky (by simpa using hxy))
     go_wp2
     go_quiet (fail)
     go_wp2
     go_ret
     exact ⟨ret_bool (decide_eq_false HN.out).symm, ex_drew2 _ _ _⟩
    ·
     have hxy : (xs[k] != ys[k]) = false := by simpa using hxy
     have HN := Lib.hid (take_succ_eq hlt hky HT.out (by simpa using hxy))
     go_wp2
     go_quiet (fail)
     go_wp2
     go_roundw
     case rel => exact ⟨k + 1, _, by omega, by go_num, rfl, HN⟩
     case measure => simp [intOf] <;> omega
   ·
    go_wp2
    go_ret
    exact ⟨ret_bool (decide_eq_true (eq_of_take HT.out (by omega) (by have := HL.out; omega))).symm, n, rfl⟩
 ·
  have hne : ((xs.length : Int) != ys.length) = true := by rw [bne_iff_ne]; omega
  have HL := Lib.hid hlen; clear hlen
  go_enter Tryz.func42, Tryz.ntmps42
  go_wp2
  go_ret
  exact ⟨ret_bool (decide_eq_false fun h => HL.out (by rw [h])).symm, 0, rfl⟩

theorem same33_len (A B : Option Addr) (ca cb la lb : Nat) (xs ys : List Int) (w : World) (hla : xs.length = la) (hlb : ys.length = lb) (hL : la ≤ maxLen) (B1 B2 : Nat) (ha : Rd w B1 1 A la (ivs xs)) (hb : Rd w B2 1 B lb (ivs ys)) (S : Bool) (hS : decide (xs = ys) = S) :
  Calls Tryz.prog 42 #[.slice A la ca, .slice B lb cb] w fun e w' => e = .returned (.bool S) ∧ ∃ n, w' = w.drewN n := by
 subst hla hlb hS
 exact same33_any A B ca cb xs ys w hL B1 B2 ha hb
theorem same33_b (A B : Option Addr) (ca cb la lb : Nat) (xs ys : List Int) (w : World) (hla : xs.length = la) (hlb : ys.length = lb) (hL : la ≤ maxLen) (B1 B2 : Nat) (ha : Rd w B1 1 A la (ivs xs)) (hb : Rd w B2 1 B lb (ivs ys)) (S : Bool) (hS : decide (xs = ys) = S) :
  Calls Tryz.prog 42 #[.slice A la ca, .slice B lb cb] w fun e w' => e = .returned (.bool S) ∧ Below w.heap.size w w' :=
 (same33_len A B ca cb la lb xs ys w hla hlb hL B1 B2 ha hb S hS).mono fun _ _ ⟨he, n, hn⟩ => ⟨he, by rw [hn]; exact below_of_drewN _ _ _⟩
theorem FRow.rd {w : World} {g n : Nat} {d : Nat → Int} (h : FRow w g n d) (L : List Int) (hL : L.length = n) (he : ∀ t, t < n → L.getD t 0 = d t) : Rd w w.heap.size 1 (some ⟨g, 0, none⟩) n (ivs L) := by
 refine ⟨by simp [ivs, hL], fun _ => ⟨g, 0, rfl, h.lt, fun j u hu => ?_⟩⟩
 have hj : j < n := by have := (List.getElem?_eq_some_iff.1 hu).1; simpa [ivs, hL] using this
 have h1 := h.cell j hj
 rw [← he j hj] at h1
 have : u = .int .i64 (L.getD j 0) := by
  simp [ivs, List.getElem?_map] at hu
  obtain ⟨x, hx, rfl⟩ := hu
  simp [List.getD, hx]
 rw [this, Nat.zero_add]; exact h1
def rowL (n : Nat) (d : Nat → Int) : List Int := (List.range n).map d
theorem rowL_get {n t : Nat} (d : Nat → Int) (h : t < n) : (rowL n d).getD t 0 = d t := by simp [rowL, List.getD, h]
theorem rowL_len (n : Nat) (d : Nat → Int) : (rowL n d).length = n := by simp [rowL]
theorem FRow.rdL {w : World} {g n : Nat} {d : Nat → Int} (h : FRow w g n d) : Rd w w.heap.size 1 (some ⟨g, 0, none⟩) n (ivs (rowL n d)) := h.rd _ (rowL_len n d) fun t ht => rowL_get d ht
end W
end
section
namespace W
open Go.RowKit
def shOf (T : Int) (ws : List Int) (n : Nat) (p : Nat → Nat) (k t : Nat) : Int := (Spl.bump p (baseL T (Spl.sumTo (wOf ws) n) ws n) k).getD t 0
theorem not_val {T : Int} {ws : List Int} {n : Nat} (h : ¬ (0 ≤ T ∧ T ≤ 2147483647 ∧ OkTo ws n ∧ Spl.sumTo (wOf ws) n ≠ 0)) : T < 0 ∨ 2147483647 < T ∨ ¬ OkTo ws n ∨ Spl.sumTo (wOf ws) n = 0 := by
 by_cases h1 : T < 0
 ·
  exact Or.inl h1
 ·
  by_cases h2 : 2147483647 < T
  ·
   exact Or.inr (Or.inl h2)
  ·
   by_cases h3 : OkTo ws n
   ·
    by_cases h4 : Spl.sumTo (wOf ws) n = 0
    ·
     exact Or.inr (Or.inr (Or.inr h4))
    ·
     exact absurd ⟨by omega, by omega, h3, h4⟩ h
   ·
    exact Or.inr (Or.inr (Or.inl h3))
theorem OkTo.sum_le {ws : List Int} {n : Nat} (h : OkTo ws n) {k : Nat} (hk : k ≤ n) : 0 ≤ Spl.sumTo (wOf ws) k ∧ Spl.sumTo (wOf ws) k ≤ 2147483647 := by
 refine ⟨OkTo.nonneg fun i hi => h i (by omega), ?_⟩
 cases k with
 | zero => show (0 : Int) ≤ 2147483647; decide
 | succ k => exact (h k (by omega)).2
theorem val_pos {T : Int} {ws : List Int} {n : Nat} (h : 0 ≤ T ∧ T ≤ 2147483647 ∧ OkTo ws n ∧ Spl.sumTo (wOf ws) n ≠ 0) : 0 < Spl.sumTo (wOf ws) n ∧ Spl.sumTo (wOf ws) n ≤ 2147483647 := by
 have := h.2.2.1.sum_le (Nat.le_refl n)
 have := h.2.2.2
 omega
theorem sh_eq {T : Int} {ws : List Int} {n : Nat} {p : Nat → Nat} {k t : Nat} (O : Spl.Ordr (fun t => T * ws.getD t 0 % Spl.sumTo (wOf ws) n) n p) (hk : k ≤ n) (ht : t < n) : shOf T ws n p k t = T * ws.getD t 0 / Spl.sumTo (wOf ws) n + if Spl.Fst p k t then 1 else 0 := by
 unfold shOf
 rw [Spl.bump_get O _ (by simp [baseL]) hk, baseL_get _ _ _ ht]; rfl
theorem sh_range {T : Int} {ws : List Int} {n : Nat} {p : Nat → Nat} {k t : Nat} (hl : ws.length = n) (hv : 0 ≤ T ∧ T ≤ 2147483647 ∧ OkTo ws n ∧ Spl.sumTo (wOf ws) n ≠ 0) (O : Spl.Ordr (fun t => T * ws.getD t 0 % Spl.sumTo (wOf ws) n) n p) (hk : k ≤ n) (ht : t < n) : 0 ≤ shOf T ws n p k t ∧ shOf T ws n p k t ≤ T + 1 := by
 rw [sh_eq O hk ht]
 have h1 := (vw_of hl hv.1 hv.2.1 hv.2.2.1 (val_pos hv).1 (val_pos hv).2).2 t
 unfold baseOf at h1
 split <;> omega
end W
end
section
namespace W
open Go.RowKit
def RSum (ws : List Int) (n : Nat) (e : Ending) : Prop := (e = .returned (.tuple #[.int .i64 (Spl.sumTo (wOf ws) n), .bool true]) ∧ OkTo ws n ∧ 0 < Spl.sumTo (wOf ws) n ∧ Spl.sumTo (wOf ws) n ≤ 2147483647) ∨ (∃ x, e = .returned (.tuple #[.int .i64 x, .bool false]) ∧ (¬ OkTo ws n ∨ Spl.sumTo (wOf ws) n = 0))
set_option maxRecDepth 100000 in
set_option maxHeartbeats 1600000 in
theorem refSum_any (A : Option Addr) (n c : Nat) (ws : List Int) (hl : ws.length = n) (hn : n ≤ 1000) (B : Nat) (w : World) (hr : Rd w B 1 A n (ivs ws)) :
  Calls Tryz.prog 88 #[.slice A n c] w fun e w' => RSum ws n e ∧ w' = w := by
 have hn1 : ¬ ((65536 : Int) < (n : Int)) := by omega
 have HR := Lib.hid hr
 have HL := Lib.hid hl
 clear hr hl
 by_cases h0 : n = 0
 ·
  subst h0
  go_enter Tryz.func88, Tryz.ntmps88
  go_wp2
  go_ret2
  exact ⟨Or.inr ⟨0, rfl, Or.inr rfl⟩, rfl⟩
 have e0 : ((n : Int) == 0) = false := by rw [beq_eq_false_iff_ne]; omega
 go_enter Tryz.func88, Tryz.ntmps88
 go_wp2
 go_loop [4, 5] (fun u4 u5 => ∃ (k : Nat) (s : Int), k ≤ n ∧ u4 = .int .i64 s ∧ u5 = .int .i64 k ∧ 0 ≤ s ∧ s ≤ 2147483647 ∧ Hid (OkTo ws k ∧ s = Spl.sumTo (wOf ws) k)) (fun _ u5 => n - (intOf u5).toNat)
 case atStart => exact ⟨0, 0, Nat.zero_le _, rfl, rfl, by decide, by decide, fun i hi => absurd hi (Nat.not_lt_zero _), rfl⟩
 case round =>
  obtain ⟨k, s, hk, rfl, rfl, s0, s1, HS⟩ := hrel
  by_cases hlt : k < n
  ·
   obtain ⟨b, off, rfl, _, hc⟩ := HR.out.int HL.out (by omega)
   have hck := hc k hlt
   have i0 : (0 : Int) ≤ (k : Int) := by omega
   have i1 : (k : Int) < (n : Int) := by omega
   have hsu : Spl.sumTo (wOf ws) (k + 1) = Spl.sumTo (wOf ws) k + ws.getD k 0 := rfl
   rw [← HS.out.2] at hsu
   obtain ⟨x, hx⟩ : ∃ x, ws.getD k 0 = x := ⟨_, rfl⟩
   rw [hx] at hck hsu
   have HX := Lib.hid hx
   have HSU := Lib.hid hsu
   clear hc hsu hx
   by_cases h1 : x < 0
   ·
    have HNO : Hid (¬ OkTo ws n) := Lib.hid fun h => by have := (h k (by omega)).1; rw [HX.out] at this; omega
    go_wp2_with fail
    go_ret2
    exact ⟨Or.inr ⟨0, rfl, Or.inl HNO.out⟩, rfl⟩
   ·
    by_cases h2 : 2147483647 < x
    ·
     have HNO : Hid (¬ OkTo ws n) := Lib.hid fun h => by have := h.le (t := k) (by omega); rw [HX.out] at this; omega
     go_wp2_with fail
     go_ret2
     exact ⟨Or.inr ⟨0, rfl, Or.inl HNO.out⟩, rfl⟩
    ·
     have w2 : IntKind.i64.wrap (s + x) = s + x := IntWalk.i64_in _ (by omega)
     by_cases h3 : 2147483647 < s + x
     ·
      have HNO : Hid (¬ OkTo ws n) := Lib.hid fun h => by have := (h k (by omega)).2; rw [HSU.out] at this; omega
      go_wp2_with fail
      go_ret2
      exact ⟨Or.inr ⟨0, rfl, Or.inl HNO.out⟩, rfl⟩
     ·
      go_wp2_with fail
      go_round
      case rel =>
       refine ⟨k + 1, s + x, by omega, rfl, by go_num, by omega, by omega, fun i hi => ?_, HSU.out.symm⟩
       by_cases e : i = k
       ·
        subst e; rw [HX.out, HSU.out]; omega
       ·
        exact HS.out.1 i (by omega)
      case measure => simp [intOf]; omega
  ·
   obtain rfl : k = n := by omega
   by_cases hs : 0 < s
   ·
    go_wp2_with fail
    go_ret2
    refine ⟨Or.inl ⟨by rw [← HS.out.2]; simp [hs], HS.out.1, ?_, ?_⟩, rfl⟩
    ·
     rw [← HS.out.2]; exact hs
    ·
     rw [← HS.out.2]; exact s1
   ·
    have hz : s = 0 := by omega
    subst hz
    go_wp2_with fail
    go_ret2
    exact ⟨Or.inr ⟨0, rfl, Or.inr HS.out.2.symm⟩, rfl⟩
def REOwn (T : Int) (n : Nat) (w : World) (e : Ending) (w' : World) : Prop := ∃ P c, e = .returned (.tuple #[.slice P n c, .int .i64 0]) ∧ w'.ownsRow w.heap.size 3 1 (.slice P n c) n (ivs (rowL n (evenOf T n))) ∧ Below w.heap.size w w'
set_option maxRecDepth 100000 in
set_option maxHeartbeats 4000000 in
theorem refEven_own (T : Int) (n : Nat) (h0 : 0 < n) (hn : n ≤ 1000) (t0 : 0 ≤ T) (t1 : T ≤ 2147483647) (w : World) :
  Calls Tryz.prog 47 #[.int .i64 T, .int .i64 (n : Int)] w (REOwn T n w) := by
 have hq1 := Int.ediv_nonneg t0 (show (0 : Int) ≤ (n : Int) by omega)
 have hq2 : T / (n : Int) ≤ T := Int.ediv_le_self _ t0
 have hr1 := Int.emod_nonneg T (show (n : Int) ≠ 0 by omega)
 have hr2 := Int.emod_lt_of_pos T (show (0 : Int) < (n : Int) by omega)
 have HEV : Hid (∀ t, evenOf T n t = T / (n : Int) + if (t : Int) < T % (n : Int) then 1 else 0) := Lib.hid fun _ => rfl
 obtain ⟨q, hq⟩ : ∃ q, T / (n : Int) = q := ⟨_, rfl⟩
 obtain ⟨r, hr⟩ : ∃ r : Nat, T % (n : Int) = (r : Int) := ⟨(T % (n : Int)).toNat, by omega⟩
 rw [hq] at hq1 hq2 HEV
 rw [hr] at hr1 hr2 HEV
 have d1 : T.tdiv (n : Int) = q := by rw [Int.tdiv_eq_ediv_of_nonneg t0]; exact hq
 have d2 : T.tmod (n : Int) = (r : Int) := by rw [Int.tmod_eq_emod_of_nonneg t0]; exact hr
 have w1 : IntKind.i64.wrap q = q := IntWalk.i64_in _ (by omega)
 have w2 : IntKind.i64.wrap (r : Int) = (r : Int) := IntWalk.i64_in _ (by omega)
 have w3 : IntKind.i64.wrap (q + 1) = q + 1 := IntWalk.i64_in _ (by omega)
 have e0 : ((n : Int) == 0) = false := by rw [beq_eq_false_iff_ne]; omega
 have e0' : ¬ ((n : Int) = 0) := by omega
 have n1 : ¬ T < 0 := by omega
 have n2 : ¬ 2147483647 < T := by omega
 have n3 : ¬ ((n : Int) < 1) := by omega
 have n4 : ¬ ((65536 : Int) < (n : Int)) := by omega
 have HEVT := Lib.hid (fun (t : Nat) (h : (t : Int) < (r : Int)) => show evenOf T n t = q + 1 by rw [HEV.out, if_pos h])
 have HEVF := Lib.hid (fun (t : Nat) (h : ¬ (t : Int) < (r : Int)) => show evenOf T n t = q by rw [HEV.out, if_neg h]; omega)
 clear hq hr hr1 hr2
 go_enter Tryz.func47, Tryz.ntmps47
 go_wp2_with fail
 go_loopw [6, 7] (fun u6 u7 wr => ∃ (i : Nat) (AP : Option Addr) (cp : Nat), i ≤ n ∧ u6 = .slice AP i cp ∧ u7 = .int .i64 i ∧ Hid (wr.ownsRow w.heap.size 3 1 (.slice AP i cp) i (ivs (rowL i (evenOf T n)))) ∧ Below w.heap.size w wr) (fun _ u7 _ => n - (intOf u7).toNat)
 case atStart => exact ⟨0, none, 0, Nat.zero_le _, rfl, rfl, World.ownsRow_nil _ _ _ _, Below.refl _ _⟩
 case round =>
  obtain ⟨i, AP, cp, hi, rfl, rfl, HOW, hbr⟩ := hrel
  by_cases hlt : i < n
  ·
   have i1 : (i : Int) < (n : Int) := by omega
   have own1 := HOW.out
   have hsz := hbr.size
   have hsucc : rowL (i + 1) (evenOf T n) = rowL i (evenOf T n) ++ [evenOf T n i] := by simp [rowL, List.range_succ]
   by_cases hir : (i : Int) < (r : Int)
   ·
    have HE := Lib.hid (HEVT.out i hir)
    have HSU := Lib.hid hsucc
    clear hsucc
    go_wp2_with (first
     | (at_builtin; refine wpList_app1 rfl (.tmp 38) (.tmp 40) 27 rfl w.heap.size 3 _ 8 intT AP i cp _ _ rfl rfl own1 hbr rfl (by omega) (Nat.le_refl _) hsz ?_; intro g7 c7 w7 own7 hbel7 hg7)
     | fail)
    go_roundw
    case rel => exact ⟨i + 1, _, c7, by omega, rfl, by go_num, by rw [HSU.out, HE.out]; unfold Hid; simpa [ivs] using own7, hbel7⟩
    case measure => simp [intOf]; omega
   ·
    have HE := Lib.hid (HEVF.out i (by omega))
    have HSU := Lib.hid hsucc
    clear hsucc
    go_wp2_with (first
     | (at_builtin; refine wpList_app1 rfl (.tmp 38) (.tmp 40) 27 rfl w.heap.size 3 _ 8 intT AP i cp _ _ rfl rfl own1 hbr rfl (by omega) (Nat.le_refl _) hsz ?_; intro g7 c7 w7 own7 hbel7 hg7)
     | fail)
    go_roundw
    case rel => exact ⟨i + 1, _, c7, by omega, rfl, by go_num, by rw [HSU.out, HE.out]; unfold Hid; simpa [ivs] using own7, hbel7⟩
    case measure => simp [intOf]; omega
  ·
   obtain rfl : i = n := by omega
   have HBR := Lib.hid hbr
   clear hbr
   go_wp2_with fail
   go_ret2
   exact ⟨AP, cp, rfl, HOW.out, HBR.out⟩
end W
end
end Go.Proofs.YtfllkaeaanahmaaGreat
