/- Layer 33's closure: it compares two remainders. Conditions: the weights are valid. -/
import Derived.Test.YtegjfobanjkimaaSrt6
namespace Go.Proofs.Ytegjfobanjkimaa
set_option linter.unusedVariables false
set_option linter.unusedSimpArgs false
open Go.RowKit
theorem isNaN_any (x : Int) (w : World) : Calls Try.prog 21 #[.int .i64 x] w fun e w' => e = .returned (.bool false) ∧ w' = w := by
  go_enter Try.func21, Try.ntmps21
  go_wp2
  go_ret
  exact ⟨by simp, rfl⟩
/-- -1, 0 or 1 -/
def cmpI (x y : Int) : Int := if x < y then -1 else if y < x then 1 else 0
theorem compare_any (x y : Int) (w : World) : Calls Try.prog 17 #[.int .i64 x, .int .i64 y] w fun e w' => e = .returned (.int .i64 (cmpI x y)) ∧ w' = w := by
  have HC := Lib.hid (show cmpI x y = if x < y then -1 else if y < x then 1 else 0 from rfl)
  generalize cmpI x y = q at *
  by_cases h1 : x < y
  · go_enter Try.func17, Try.ntmps17
    go_wp2_with (go_at_call 21; refine (isNaN_any _ _).mono ?_; rintro e w' ⟨rfl, rfl⟩)
    go_ret
    exact ⟨ret_int (by rw [HC.out]; split <;> first | rfl | omega | (split <;> first | rfl | omega)), rfl⟩
  · by_cases h2 : y < x
    · go_enter Try.func17, Try.ntmps17
      go_wp2_with (go_at_call 21; refine (isNaN_any _ _).mono ?_; rintro e w' ⟨rfl, rfl⟩)
      go_ret
      exact ⟨ret_int (by rw [HC.out]; split <;> first | rfl | omega | (split <;> first | rfl | omega)), rfl⟩
    · go_enter Try.func17, Try.ntmps17
      go_wp2_with (go_at_call 21; refine (isNaN_any _ _).mono ?_; rintro e w' ⟨rfl, rfl⟩)
      go_ret
      exact ⟨ret_int (by rw [HC.out]; split <;> first | rfl | omega | (split <;> first | rfl | omega)), rfl⟩

theorem compare_b (x y : Int) (w : World) : Calls Try.prog 17 #[.int .i64 x, .int .i64 y] w fun e w' => e = .returned (.int .i64 (cmpI x y)) ∧ Below w.heap.size w w' :=
  (compare_any x y w).mono fun e w' h => ⟨h.1, h.2 ▸ Below.refl _ _⟩
/-- the remainder of an index -/
def keyI (T S : Int) (ws : List Int) (x : Int) : Int := T * ws.getD x.toNat 0 % S
/-- x goes strictly before y by its remainder -/
def lsI (T S : Int) (ws : List Int) (x y : Int) : Bool := decide (keyI T S ws y < keyI T S ws x)
/-- valid weights and total -/
structure VW (T S : Int) (ws : List Int) : Prop where
  t0 : 0 ≤ T
  t1 : T ≤ 2147483647
  s0 : 0 < S
  s1 : S ≤ 2147483647
  w : ∀ k : Nat, 0 ≤ ws.getD k 0 ∧ ws.getD k 0 ≤ 2147483647
theorem VW.mul {T S : Int} {ws : List Int} (h : VW T S ws) (k : Nat) : 0 ≤ T * ws.getD k 0 ∧ T * ws.getD k 0 ≤ 4611686014132420609 := by
  have h1 := h.w k
  refine ⟨Int.mul_nonneg h.t0 h1.1, ?_⟩
  have h2 : T * ws.getD k 0 ≤ 2147483647 * ws.getD k 0 := Int.mul_le_mul_of_nonneg_right h.t1 h1.1
  have h3 : 2147483647 * ws.getD k 0 ≤ 2147483647 * 2147483647 := Int.mul_le_mul_of_nonneg_left h1.2 (by decide)
  omega
theorem Rd.int {w : World} {B n : Nat} {A : Option Addr} {ws : List Int} (h : Rd w B 1 A n (ivs ws)) (hn : ws.length = n) (h0 : 0 < n) : ∃ b off, A = some ⟨b, off, none⟩ ∧ b < B ∧ ∀ k, k < n → w.cell? ⟨b, off + k, none⟩ = some (.int .i64 (ws.getD k 0)) := by
  obtain ⟨b, off, e, hb, hc⟩ := h.2 h0
  refine ⟨b, off, e, hb, fun k hk => ?_⟩
  have hkl : k < ws.length := by omega
  exact hc k _ (by simp [ivs, hkl, List.getD])
set_option maxRecDepth 100000 in
set_option maxHeartbeats 4000000 in
theorem first_any (T S : Int) (ws : List Int) (hv : VW T S ws) (bt bw bs : Nat) (A : Option Addr) (n c : Nat) (hl : ws.length = n) (hn : n ≤ 1000) (B : Nat) (w : World) (hr : Rd w B 1 A n (ivs ws)) (hB : B ≤ w.heap.size) (hbt : bt < w.heap.size) (hbw : bw < w.heap.size) (hbs : bs < w.heap.size)
    (ht : w.cell? ⟨bt, 0, none⟩ = some (.int .i64 T)) (hw : w.cell? ⟨bw, 0, none⟩ = some (.slice A n c)) (hs : w.cell? ⟨bs, 0, none⟩ = some (.int .i64 S)) (x y : Int) (hx : 0 ≤ x ∧ x < n) (hy : 0 ≤ y ∧ y < n) :
    Calls Try.prog 16 #[.int .i64 x, .int .i64 y, .pointer (some ⟨bt, 0, none⟩), .pointer (some ⟨bw, 0, none⟩), .pointer (some ⟨bs, 0, none⟩)] w fun e w' => ∃ c : Int, e = .returned (.int .i64 c) ∧ decide (c < 0) = lsI T S ws x y ∧ Below w.heap.size w w' := by
  obtain ⟨xn, rfl⟩ : ∃ xn : Nat, x = xn := ⟨x.toNat, by omega⟩
  obtain ⟨yn, rfl⟩ : ∃ yn : Nat, y = yn := ⟨y.toNat, by omega⟩
  obtain ⟨b, off, rfl, hb, hc⟩ := hr.int hl (by omega)
  have hcx := hc xn (by omega)
  have hcy := hc yn (by omega)
  have hmx := hv.mul xn
  have hmy := hv.mul yn
  have HLS : Hid (lsI T S ws xn yn = decide (T * ws.getD yn 0 % S < T * ws.getD xn 0 % S)) := Lib.hid rfl
  obtain ⟨wx, hwx⟩ : ∃ v, ws.getD xn 0 = v := ⟨_, rfl⟩
  obtain ⟨wy, hwy⟩ : ∃ v, ws.getD yn 0 = v := ⟨_, rfl⟩
  rw [hwx] at hcx hmx HLS
  rw [hwy] at hcy hmy HLS
  have hs0 := hv.s0
  have hs1 := hv.s1
  have hrx := Int.emod_nonneg (T * wx) (show S ≠ 0 by omega)
  have hry := Int.emod_nonneg (T * wy) (show S ≠ 0 by omega)
  have hrx1 := Int.emod_lt_of_pos (T * wx) hs0
  have hry1 := Int.emod_lt_of_pos (T * wy) hs0
  have m1 : IntKind.i64.wrap (T * wx) = T * wx := IntWalk.i64_in _ (by omega)
  have m2 : IntKind.i64.wrap (T * wy) = T * wy := IntWalk.i64_in _ (by omega)
  obtain ⟨px, hpx⟩ : ∃ p, T * wx = p := ⟨_, rfl⟩
  obtain ⟨py, hpy⟩ : ∃ p, T * wy = p := ⟨_, rfl⟩
  rw [hpx] at m1 hmx hrx hrx1 HLS
  rw [hpy] at m2 hmy hry hry1 HLS
  obtain ⟨rx, hqx⟩ : ∃ p, px % S = p := ⟨_, rfl⟩
  obtain ⟨ry, hqy⟩ : ∃ p, py % S = p := ⟨_, rfl⟩
  rw [hqx] at hrx hrx1 HLS
  rw [hqy] at hry hry1 HLS
  have t1 : px.tmod S = rx := by rw [Int.tmod_eq_emod_of_nonneg hmx.1]; exact hqx
  have t2 : py.tmod S = ry := by rw [Int.tmod_eq_emod_of_nonneg hmy.1]; exact hqy
  have m3 : IntKind.i64.wrap rx = rx := IntWalk.i64_in _ (by omega)
  have m4 : IntKind.i64.wrap ry = ry := IntWalk.i64_in _ (by omega)
  have n0 : (S == 0) = false := by rw [beq_eq_false_iff_ne]; omega
  have n1 : ¬ S = 0 := by omega
  obtain ⟨i1, i2⟩ := hx
  obtain ⟨i3, i4⟩ := hy
  have HBB := Lib.hid (Nat.lt_of_lt_of_le hb hB)
  have HBT := Lib.hid hbt
  have HBW := Lib.hid hbw
  have HBS := Lib.hid hbs
  have HT := Lib.hid ht
  have HW := Lib.hid hw
  have HS := Lib.hid hs
  have HX := Lib.hid hcx
  have HY := Lib.hid hcy
  clear hr hB hc hv hwx hwy hs0 hs1 hrx hry hrx1 hry1 hmx hmy hqx hqy hb hbt hbw hbs ht hw hs hcx hcy
  go_enter Try.func16, Try.ntmps16
  go_wp2_with fail
  have hv0 : Below w.heap.size w w.drew := (Below.refl _ _).drew
  refine wp_region_held_drew (S := fun W => Below w.heap.size w W) (by kernel_rfl) (hv0) (fun hHeld => ?_)
  refine wpAnyH_take (i := 0) (oi := { dst := some 8, op := Op.load 3 (Operand.tmp 2), type := 3, pos := "split.go:52", after := #[], guard := none }) (v := ?v0_1) rfl (by kernel_rfl) (by kernel_rfl) (by kernel_rfl) (fun _ _ _ h => h) (Or.inl ⟨by rfl, ?h0_1⟩) (by assumption) ?r0_1
  case h0_1 =>
    intro W hSW
    try dsimp only at hSW
    have hcc := (hSW.cell (p := ⟨bt, 0, none⟩) HBT.out).trans HT.out
    go_simp
    try with_reducible rfl
  try simp only [Act.put, List.setIfInBounds_toArray, List.set_cons_zero, List.set_cons_succ]
  refine wpAnyH_take (i := 1) (oi := { dst := some 9, op := Op.load 22 (Operand.tmp 3), type := 22, pos := "split.go:52", after := #[], guard := none }) (v := ?v1_2) rfl (by kernel_rfl) (by kernel_rfl) (by kernel_rfl) (fun _ _ _ h => h) (Or.inl ⟨by rfl, ?h1_2⟩) (by assumption) ?r1_2
  case h1_2 =>
    intro W hSW
    try dsimp only at hSW
    have hcc := (hSW.cell (p := ⟨bw, 0, none⟩) HBW.out).trans HW.out
    go_simp
    try with_reducible rfl
  try simp only [Act.put, List.setIfInBounds_toArray, List.set_cons_zero, List.set_cons_succ]
  refine wpAnyH_take (i := 2) (oi := { dst := some 10, op := Op.move (Operand.tmp 1), type := 3, pos := "split.go:52", after := #[], guard := none }) (v := ?v2_3) rfl (by kernel_rfl) (by kernel_rfl) (by kernel_rfl) (fun _ _ _ h => h) (Or.inl ⟨by rfl, ?h2_3⟩) (by assumption) ?r2_3
  case h2_3 =>
    intro W hSW
    try dsimp only at hSW
    go_simp
    try with_reducible rfl
  try simp only [Act.put, List.setIfInBounds_toArray, List.set_cons_zero, List.set_cons_succ]
  refine wpAnyH_take (i := 3) (oi := { dst := some 11, op := Op.indexAddr 22 (Operand.tmp 9) (Operand.tmp 10), type := 0, pos := "split.go:52", after := #[{ on := 1, ground := Ground.data }, { on := 2, ground := Ground.data }], guard := none }) (v := ?v3_4) rfl (by kernel_rfl) (by kernel_rfl) (by kernel_rfl) (fun _ _ _ h => h) (Or.inl ⟨by rfl, ?h3_4⟩) (by assumption) ?r3_4
  case h3_4 =>
    intro W hSW
    try dsimp only at hSW
    go_simp
    try with_reducible rfl
  try simp only [Act.put, List.setIfInBounds_toArray, List.set_cons_zero, List.set_cons_succ]
  refine wpAnyH_take (i := 4) (oi := { dst := some 12, op := Op.load 3 (Operand.tmp 11), type := 3, pos := "split.go:52", after := #[{ on := 3, ground := Ground.data }], guard := none }) (v := ?v4_5) rfl (by kernel_rfl) (by kernel_rfl) (by kernel_rfl) (fun _ _ _ h => h) (Or.inl ⟨by rfl, ?h4_5⟩) (by assumption) ?r4_5
  case h4_5 =>
    intro W hSW
    try dsimp only at hSW
    have hcc := (hSW.cell (p := ⟨b, off + yn, none⟩) HBB.out).trans HY.out
    go_simp
    try with_reducible rfl
  try simp only [Act.put, List.setIfInBounds_toArray, List.set_cons_zero, List.set_cons_succ]
  refine wpAnyH_take (i := 5) (oi := { dst := some 13, op := Op.binOp BinOp.mul 3 (Operand.tmp 8) (Operand.tmp 12) 3, type := 3, pos := "split.go:52", after := #[{ on := 0, ground := Ground.data }, { on := 4, ground := Ground.data }], guard := none }) (v := ?v5_6) rfl (by kernel_rfl) (by kernel_rfl) (by kernel_rfl) (fun _ _ _ h => h) (Or.inl ⟨by rfl, ?h5_6⟩) (by assumption) ?r5_6
  case h5_6 =>
    intro W hSW
    try dsimp only at hSW
    go_simp
    try with_reducible rfl
  try simp only [Act.put, List.setIfInBounds_toArray, List.set_cons_zero, List.set_cons_succ]
  refine wpAnyH_take (i := 6) (oi := { dst := some 14, op := Op.load 3 (Operand.tmp 4), type := 3, pos := "split.go:52", after := #[], guard := none }) (v := ?v6_7) rfl (by kernel_rfl) (by kernel_rfl) (by kernel_rfl) (fun _ _ _ h => h) (Or.inl ⟨by rfl, ?h6_7⟩) (by assumption) ?r6_7
  case h6_7 =>
    intro W hSW
    try dsimp only at hSW
    have hcc := (hSW.cell (p := ⟨bs, 0, none⟩) HBS.out).trans HS.out
    go_simp
    try with_reducible rfl
  try simp only [Act.put, List.setIfInBounds_toArray, List.set_cons_zero, List.set_cons_succ]
  refine wpAnyH_take (i := 7) (oi := { dst := some 15, op := Op.binOp BinOp.rem 3 (Operand.tmp 13) (Operand.tmp 14) 3, type := 3, pos := "split.go:52", after := #[{ on := 5, ground := Ground.data }, { on := 6, ground := Ground.data }], guard := none }) (v := ?v7_8) rfl (by kernel_rfl) (by kernel_rfl) (by kernel_rfl) (fun _ _ _ h => h) (Or.inl ⟨by rfl, ?h7_8⟩) (by assumption) ?r7_8
  case h7_8 =>
    intro W hSW
    try dsimp only at hSW
    go_simp
    try with_reducible rfl
  try simp only [Act.put, List.setIfInBounds_toArray, List.set_cons_zero, List.set_cons_succ]
  refine wpAnyH_take (i := 8) (oi := { dst := some 16, op := Op.load 3 (Operand.tmp 2), type := 3, pos := "split.go:52", after := #[], guard := none }) (v := ?v8_9) rfl (by kernel_rfl) (by kernel_rfl) (by kernel_rfl) (fun _ _ _ h => h) (Or.inl ⟨by rfl, ?h8_9⟩) (by assumption) ?r8_9
  case h8_9 =>
    intro W hSW
    try dsimp only at hSW
    have hcc := (hSW.cell (p := ⟨bt, 0, none⟩) HBT.out).trans HT.out
    go_simp
    try with_reducible rfl
  try simp only [Act.put, List.setIfInBounds_toArray, List.set_cons_zero, List.set_cons_succ]
  refine wpAnyH_take (i := 9) (oi := { dst := some 17, op := Op.load 22 (Operand.tmp 3), type := 22, pos := "split.go:52", after := #[], guard := none }) (v := ?v9_10) rfl (by kernel_rfl) (by kernel_rfl) (by kernel_rfl) (fun _ _ _ h => h) (Or.inl ⟨by rfl, ?h9_10⟩) (by assumption) ?r9_10
  case h9_10 =>
    intro W hSW
    try dsimp only at hSW
    have hcc := (hSW.cell (p := ⟨bw, 0, none⟩) HBW.out).trans HW.out
    go_simp
    try with_reducible rfl
  try simp only [Act.put, List.setIfInBounds_toArray, List.set_cons_zero, List.set_cons_succ]
  refine wpAnyH_take (i := 10) (oi := { dst := some 18, op := Op.move (Operand.tmp 0), type := 3, pos := "split.go:52", after := #[], guard := none }) (v := ?v10_11) rfl (by kernel_rfl) (by kernel_rfl) (by kernel_rfl) (fun _ _ _ h => h) (Or.inl ⟨by rfl, ?h10_11⟩) (by assumption) ?r10_11
  case h10_11 =>
    intro W hSW
    try dsimp only at hSW
    go_simp
    try with_reducible rfl
  try simp only [Act.put, List.setIfInBounds_toArray, List.set_cons_zero, List.set_cons_succ]
  refine wpAnyH_take (i := 11) (oi := { dst := some 19, op := Op.indexAddr 22 (Operand.tmp 17) (Operand.tmp 18), type := 0, pos := "split.go:52", after := #[{ on := 9, ground := Ground.data }, { on := 10, ground := Ground.data }], guard := none }) (v := ?v11_12) rfl (by kernel_rfl) (by kernel_rfl) (by kernel_rfl) (fun _ _ _ h => h) (Or.inl ⟨by rfl, ?h11_12⟩) (by assumption) ?r11_12
  case h11_12 =>
    intro W hSW
    try dsimp only at hSW
    go_simp
    try with_reducible rfl
  try simp only [Act.put, List.setIfInBounds_toArray, List.set_cons_zero, List.set_cons_succ]
  refine wpAnyH_take (i := 12) (oi := { dst := some 20, op := Op.load 3 (Operand.tmp 19), type := 3, pos := "split.go:52", after := #[{ on := 11, ground := Ground.data }], guard := none }) (v := ?v12_13) rfl (by kernel_rfl) (by kernel_rfl) (by kernel_rfl) (fun _ _ _ h => h) (Or.inl ⟨by rfl, ?h12_13⟩) (by assumption) ?r12_13
  case h12_13 =>
    intro W hSW
    try dsimp only at hSW
    have hcc := (hSW.cell (p := ⟨b, off + xn, none⟩) HBB.out).trans HX.out
    go_simp
    try with_reducible rfl
  try simp only [Act.put, List.setIfInBounds_toArray, List.set_cons_zero, List.set_cons_succ]
  refine wpAnyH_take (i := 13) (oi := { dst := some 21, op := Op.binOp BinOp.mul 3 (Operand.tmp 16) (Operand.tmp 20) 3, type := 3, pos := "split.go:52", after := #[{ on := 8, ground := Ground.data }, { on := 12, ground := Ground.data }], guard := none }) (v := ?v13_14) rfl (by kernel_rfl) (by kernel_rfl) (by kernel_rfl) (fun _ _ _ h => h) (Or.inl ⟨by rfl, ?h13_14⟩) (by assumption) ?r13_14
  case h13_14 =>
    intro W hSW
    try dsimp only at hSW
    go_simp
    try with_reducible rfl
  try simp only [Act.put, List.setIfInBounds_toArray, List.set_cons_zero, List.set_cons_succ]
  refine wpAnyH_take (i := 14) (oi := { dst := some 22, op := Op.load 3 (Operand.tmp 4), type := 3, pos := "split.go:52", after := #[], guard := none }) (v := ?v14_15) rfl (by kernel_rfl) (by kernel_rfl) (by kernel_rfl) (fun _ _ _ h => h) (Or.inl ⟨by rfl, ?h14_15⟩) (by assumption) ?r14_15
  case h14_15 =>
    intro W hSW
    try dsimp only at hSW
    have hcc := (hSW.cell (p := ⟨bs, 0, none⟩) HBS.out).trans HS.out
    go_simp
    try with_reducible rfl
  try simp only [Act.put, List.setIfInBounds_toArray, List.set_cons_zero, List.set_cons_succ]
  refine wpAnyH_take (i := 15) (oi := { dst := some 23, op := Op.binOp BinOp.rem 3 (Operand.tmp 21) (Operand.tmp 22) 3, type := 3, pos := "split.go:52", after := #[{ on := 13, ground := Ground.data }, { on := 14, ground := Ground.data }], guard := none }) (v := ?v15_16) rfl (by kernel_rfl) (by kernel_rfl) (by kernel_rfl) (fun _ _ _ h => h) (Or.inl ⟨by rfl, ?h15_16⟩) (by assumption) ?r15_16
  case h15_16 =>
    intro W hSW
    try dsimp only at hSW
    go_simp
    try with_reducible rfl
  try simp only [Act.put, List.setIfInBounds_toArray, List.set_cons_zero, List.set_cons_succ]
  refine wpAnyH_ready (rs := [16]) (by kernel_rfl) (by simp) ?_
  refine AllReadyH.cons (o := { dst := some 24, op := Op.call { callee := Callee.value (Operand.func 17), args := #[Operand.tmp 15, Operand.tmp 23], argTypes := #[3, 3] }, type := 3, pos := "split.go:52", after := #[{ on := 7, ground := Ground.data }, { on := 15, ground := Ground.data }], guard := none }) rfl (fun K hK => ?_) AllReadyH.nil
  go_simp
  refine (compare_b ry rx _).mono ?_
  rintro e w1 ⟨rfl, b1⟩
  have hv1 : Below w.heap.size w w1 := hv0.trans (b1.mono hv0.size)
  go_wp2_with fail
  refine hK.out _ _ (hv1) (fun hHeld => ?_)
  clear hK K
  try simp only [Act.put, List.setIfInBounds_toArray, List.set_cons_zero, List.set_cons_succ]
  refine wpAnyH_take (i := 17) (oi := { dst := some 7, op := Op.assign (Operand.tmp 24), type := 3, pos := "split.go:52", after := #[{ on := 16, ground := Ground.data }, { on := 16, ground := Ground.chain }, { on := 0, ground := Ground.phase }, { on := 1, ground := Ground.phase }, { on := 2, ground := Ground.phase }, { on := 3, ground := Ground.phase }, { on := 4, ground := Ground.phase }, { on := 5, ground := Ground.phase }, { on := 6, ground := Ground.phase }, { on := 7, ground := Ground.phase }, { on := 8, ground := Ground.phase }, { on := 9, ground := Ground.phase }, { on := 10, ground := Ground.phase }, { on := 11, ground := Ground.phase }, { on := 12, ground := Ground.phase }, { on := 13, ground := Ground.phase }, { on := 14, ground := Ground.phase }, { on := 15, ground := Ground.phase }, { on := 16, ground := Ground.phase }], guard := none }) (v := ?v17_17) rfl (by kernel_rfl) (by kernel_rfl) (by kernel_rfl) (fun _ _ _ h => h) (Or.inl ⟨by rfl, ?h17_17⟩) (by assumption) ?r17_17
  case h17_17 =>
    intro W hSW
    try dsimp only at hSW
    go_simp
    try with_reducible rfl
  try simp only [Act.put, List.setIfInBounds_toArray, List.set_cons_zero, List.set_cons_succ]
  refine wpAnyH_done (by kernel_rfl) ?_ _
  go_wp2
  go_ret
  refine ⟨cmpI ry rx, rfl, ?_, hv1⟩
  rw [HLS.out]; unfold cmpI; rw [Bool.eq_iff_iff, decide_eq_true_eq, decide_eq_true_eq]; split <;> (try split) <;> omega
/-- the closure's contract behind whatever has turned in block g -/
theorem cmpOk_of (T S : Int) (ws : List Int) (hv : VW T S ws) (g bt bw bs : Nat) (A : Option Addr) (n c : Nat) (hl : ws.length = n) (hn : n ≤ 1000) (B : Nat) (w : World) (hr : ∀ W, w.grownBy W (some g) → Rd W B 1 A n (ivs ws)) (hB : B ≤ w.heap.size) (hbt : bt < w.heap.size) (hbw : bw < w.heap.size) (hbs : bs < w.heap.size) (gt : bt ≠ g) (gw : bw ≠ g) (gs : bs ≠ g)
    (ht : w.cell? ⟨bt, 0, none⟩ = some (.int .i64 T)) (hw : w.cell? ⟨bw, 0, none⟩ = some (.slice A n c)) (hs : w.cell? ⟨bs, 0, none⟩ = some (.int .i64 S)) : CmpOk w g n bt bw bs (lsI T S ws) :=
  fun W hW x y h1 h2 h3 h4 => first_any T S ws hv bt bw bs A n c hl hn B W (hr W hW) (Nat.le_trans hB hW.size) (Nat.lt_of_lt_of_le hbt hW.size) (Nat.lt_of_lt_of_le hbw hW.size) (Nat.lt_of_lt_of_le hbs hW.size) (far_grown hW ht hbt gt) (far_grown hW hw hbw gw) (far_grown hW hs hbs gs) x y ⟨h1, h2⟩ ⟨h3, h4⟩
/-- the order of the indices -/
def rI (T S : Int) (ws : List Int) (x y : Int) : Prop := keyI T S ws y < keyI T S ws x ∨ keyI T S ws x = keyI T S ws y ∧ x < y
theorem rI_ord (T S : Int) (ws : List Int) : So.Ord (rI T S ws) := ⟨fun {x y z} h1 h2 => by unfold rI at *; omega, fun {x y} h1 h2 => by unfold rI at *; omega⟩
theorem rI_inc (T S : Int) (ws : List Int) (n : Nat) : So.Inc (rI T S ws) (lsI T S ws) (fun t => (t : Int)) n := by
  intro x y hxy _
  unfold So.Cr rI lsI
  simp only [decide_eq_true_eq, decide_eq_false_iff_not]
  omega
/-- the sorted row lists the indices by their remainders -/
theorem ordr_of {T S : Int} {ws : List Int} {n : Nat} {f : Nat → Int} (hm : So.Mv 0 n (fun t => (t : Int)) f) (hs : So.Srt (rI T S ws) f 0 n) : ∃ p : Nat → Nat, (∀ t, f t = (p t : Int)) ∧ Spl.Ordr (fun t => T * ws.getD t 0 % S) n p := by
  obtain ⟨p, p1, p2, p3, p4⟩ := hm
  refine ⟨p, p4, ⟨fun t ht => (p2 t (Nat.zero_le _) ht).2, fun s t _ _ h => p3 s t h, fun s t hst ht => ?_⟩⟩
  have h := hs s t (Nat.zero_le _) hst ht
  rw [p4, p4] at h
  unfold rI keyI at h
  unfold Spl.Bef
  simp only [Int.toNat_natCast] at h ⊢
  omega
end Go.Proofs.Ytegjfobanjkimaa
