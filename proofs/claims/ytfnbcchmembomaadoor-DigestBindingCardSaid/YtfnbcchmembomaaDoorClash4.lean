/- digest.Clash where both proofs have their inputs, whose last ones begin with the same digest: the greatest place of difference. -/
import Derived.Test.YtfnbcchmembomaaDoorClash3
namespace Go.Proofs.YtfnbcchmembomaaDoor
set_option linter.unusedVariables false
set_option linter.unusedSimpArgs false
open Go.RowKit
def ClashR (L1 L2 : List (List UInt8)) (o : Option Nat) (w : World) (e : Ending) (w' : World) : Prop :=
  (o = none → NoColl w e w') ∧ ∀ t, o = some t → ∃ (A : Option Addr) (N c : Nat) (A' : Option Addr) (N' c' : Nat), e = .returned (.tuple #[.slice A N c, .slice A' N' c', .bool true]) ∧ Below w.heap.size w w' ∧
    N = (L1.getD t []).length ∧ Rd w' w'.heap.size 1 A N (bvs (L1.getD t [])) ∧ N' = (L2.getD t []).length ∧ Rd w' w'.heap.size 1 A' N' (bvs (L2.getD t []))
theorem clash_found {L1 L2 : List (List UInt8)} {M k n : Nat} {w w4 wr w9 : World} {A5 A6 : Option Addr} {N5 c5 N6 c6 : Nat} (HF : Hid (Mk.clashF L1 L2 M = some k)) (HB : Hid (Below w4.heap.size w4 wr)) (HV : Hid (Below wr.heap.size wr w9)) (q4 : Below w.heap.size w w4)
    (R5 : Hid (N5 = (L1.getD k []).length ∧ Rd wr wr.heap.size 1 A5 N5 (bvs (L1.getD k [])))) (R6 : Hid (N6 = (L2.getD k []).length ∧ Rd wr wr.heap.size 1 A6 N6 (bvs (L2.getD k [])))) :
    ClashR L1 L2 (Mk.clashF L1 L2 M) w (.returned (.tuple #[.slice A5 N5 c5, .slice A6 N6 c6, .bool true])) (w9.drewN n) := by
  have q5 := q4.trans (HB.out.mono q4.size)
  have q9 := q5.trans (HV.out.mono q5.size)
  refine ⟨(fun hn => by rw [HF.out] at hn; cases hn), fun t ht => ?_⟩
  rw [HF.out] at ht
  obtain rfl := Option.some.inj ht
  exact ⟨A5, N5, c5, A6, N6, c6, rfl, below_drewN q9 _, R5.out.1, ((R5.out.2.below HV.out).more HV.out.size).drewN n, R6.out.1, ((R6.out.2.below HV.out).more HV.out.size).drewN n⟩
set_option maxRecDepth 100000 in
set_option maxHeartbeats 2000000 in
theorem clash_yes (n i : Int) (a b : List UInt8) (ha : a.length = 16) (hb : b.length = 16) (P Q : Value) (w : World) (m : Nat) (hm : m ≤ 64) (L1 L2 : List (List UInt8)) (x y : List UInt8) (hL1 : L1[m]? = some x) (hL2 : L2[m]? = some y) (hx : x.length ≤ 1000) (hy : y.length ≤ 1000) (hne : Mk.short x = Mk.short y) (hl1 : L1.length = m + 1) (hl2 : L2.length = m + 1) (h40 : ∀ k, (L1.getD k []).length ≤ 1000) (hT : Tabs w)
    (H1 : ∀ W, Below w.heap.size w W → Calls Tryd.prog 49 #[.int .i64 n, .int .i64 i, dv a, P] W fun e W' => ∃ A' c' xs, e = .returned (.slice A' (m + 1) c') ∧ Below W.heap.size W W' ∧ W'.ownsRow W.heap.size 22 1 (.slice A' (m + 1) c') (m + 1) xs ∧ RowsJ W' A' xs L1)
    (H2 : ∀ W, Below w.heap.size w W → Calls Tryd.prog 49 #[.int .i64 n, .int .i64 i, dv b, Q] W fun e W' => ∃ A' c' xs, e = .returned (.slice A' (m + 1) c') ∧ Below W.heap.size W W' ∧ W'.ownsRow W.heap.size 22 1 (.slice A' (m + 1) c') (m + 1) xs ∧ RowsJ W' A' xs L2) :
    Calls Tryd.prog 22 #[.int .i64 n, .int .i64 i, dv a, dv b, P, Q] w (ClashR L1 L2 (Mk.clashF L1 L2 (m + 1)) w) := by
  obtain ⟨M, hM⟩ : ∃ M, m + 1 = M := ⟨_, rfl⟩
  have hw1 : IntKind.i64.wrap ((M : Int) - 1) = (m : Int) := by rw [← hM]; have := IntWalk.i64_in (m : Int) (by omega); rw [show ((m + 1 : Nat) : Int) - 1 = (m : Int) from by omega]; exact this
  have hmM : (m : Int) < (M : Int) := by omega
  have HMM : Hid (m < M) := Lib.hid (by omega)
  have HM := Lib.hid hM
  have hsx := Mk.short_len x
  have hsy := Mk.short_len y
  have hq : ∀ W, (binOp .neq 30 (.agg (bvs (Mk.short x)).toArray) (.agg (bvs (Mk.short y)).toArray)).run Tryd.prog W = .ok (.bool false) W := fun W => by rw [run_neq_digE W hsx hsy]; simp [hne]
  have HSX := Lib.hid (fun (A' : Option Addr) (N' c' : Nat) (hN : N' = x.length) (W : World) (hr : Rd W W.heap.size 1 A' N' (bvs x)) (hT : Tabs W) => short_any A' N' c' x hN.symm (by omega) W.heap.size W hr (Nat.le_refl _) hT)
  have HSY := Lib.hid (fun (A' : Option Addr) (N' c' : Nat) (hN : N' = y.length) (W : World) (hr : Rd W W.heap.size 1 A' N' (bvs y)) (hT : Tabs W) => short_any A' N' c' y hN.symm (by omega) W.heap.size W hr (Nat.le_refl _) hT)
  generalize Mk.short x = sx at *
  generalize Mk.short y = sy at *
  have HT := Lib.hid hT
  rw [hM] at hl1 hl2
  rw [hM]
  have HL1 := Lib.hid hl1
  have HL2 := Lib.hid hl2
  have H40 := Lib.hid h40
  clear hM hsx hsy hx hy hne hT hl1 hl2 h40
  have h2 := rows2 w 30 30 (bvs a) (bvs b)
  have hbw : Below w.heap.size w ((w.alloc (.cells (bvs a).toArray 30)).alloc (.cells (bvs b).toArray 30)) := ((Below.refl _ w).alloc (Nat.le_refl _) _).alloc (by rw [alloc_size1]; omega) _
  obtain ⟨w0, hw0⟩ : ∃ w0, ((w.alloc (.cells (bvs a).toArray 30)).alloc (.cells (bvs b).toArray 30)) = w0 := ⟨_, rfl⟩
  rw [hw0] at h2 hbw
  have ra := h2.1
  have rb := h2.2
  have HW0 := Lib.hid hw0
  have HA := Lib.hid ha
  have HB := Lib.hid hb
  have HX := Lib.hid H1
  have HY := Lib.hid H2
  clear h2 hw0 ha hb H1 H2
  go_enter Tryd.func22, Tryd.ntmps22
  go_wp2_with fail
  rw [HW0.out]
  have hv0 : Below w0.heap.size w0 w0.drew := (Below.refl _ _).drew
  refine wp_region_held_drew (S := fun W => Below w0.heap.size w0 W) (by kernel_rfl) (hv0) (fun hHeld => ?_)
  refine wpAnyH_take (i := 0) (oi := { dst := some 18, op := Op.move (Operand.tmp 0), type := 3, pos := "digest.go:251", after := #[], guard := none }) (v := ?v0_1) rfl (by kernel_rfl) (by kernel_rfl) (by kernel_rfl) (fun _ _ _ h => h) (Or.inl ⟨by rfl, ?h0_1⟩) (by assumption) ?r0_1
  case h0_1 =>
    intro W hSW
    try dsimp only at hSW
    go_simp
    try with_reducible rfl
  try simp only [Act.put, List.setIfInBounds_toArray, List.set_cons_zero, List.set_cons_succ]
  refine wpAnyH_take (i := 1) (oi := { dst := some 19, op := Op.move (Operand.tmp 1), type := 3, pos := "digest.go:251", after := #[], guard := none }) (v := ?v1_2) rfl (by kernel_rfl) (by kernel_rfl) (by kernel_rfl) (fun _ _ _ h => h) (Or.inl ⟨by rfl, ?h1_2⟩) (by assumption) ?r1_2
  case h1_2 =>
    intro W hSW
    try dsimp only at hSW
    go_simp
    try with_reducible rfl
  try simp only [Act.put, List.setIfInBounds_toArray, List.set_cons_zero, List.set_cons_succ]
  refine wpAnyH_take (i := 2) (oi := { dst := some 20, op := Op.load 30 (Operand.tmp 8), type := 30, pos := "digest.go:251", after := #[], guard := none }) (v := _) rfl (by kernel_rfl) (by kernel_rfl) (by kernel_rfl) (fun _ _ _ h => h) (yi_row rfl _ (.tmp 8) rfl rfl (fun W hW => ra.below' hW) Tryd.underlying30 (by rw [bvs_len, HA.out]; exact size16)) (by assumption) ?_
  try simp only [Act.put, List.setIfInBounds_toArray, List.set_cons_zero, List.set_cons_succ]
  refine wpAnyH_take (i := 3) (oi := { dst := some 21, op := Op.move (Operand.tmp 4), type := 34, pos := "digest.go:251", after := #[], guard := none }) (v := ?v3_4) rfl (by kernel_rfl) (by kernel_rfl) (by kernel_rfl) (fun _ _ _ h => h) (Or.inl ⟨by rfl, ?h3_4⟩) (by assumption) ?r3_4
  case h3_4 =>
    intro W hSW
    try dsimp only at hSW
    go_simp
    try with_reducible rfl
  try simp only [Act.put, List.setIfInBounds_toArray, List.set_cons_zero, List.set_cons_succ]
  refine wpAnyH_take (i := 5) (oi := { dst := some 23, op := Op.move (Operand.tmp 0), type := 3, pos := "digest.go:251", after := #[], guard := none }) (v := ?v5_5) rfl (by kernel_rfl) (by kernel_rfl) (by kernel_rfl) (fun _ _ _ h => h) (Or.inl ⟨by rfl, ?h5_5⟩) (by assumption) ?r5_5
  case h5_5 =>
    intro W hSW
    try dsimp only at hSW
    go_simp
    try with_reducible rfl
  try simp only [Act.put, List.setIfInBounds_toArray, List.set_cons_zero, List.set_cons_succ]
  refine wpAnyH_take (i := 6) (oi := { dst := some 24, op := Op.move (Operand.tmp 1), type := 3, pos := "digest.go:251", after := #[], guard := none }) (v := ?v6_6) rfl (by kernel_rfl) (by kernel_rfl) (by kernel_rfl) (fun _ _ _ h => h) (Or.inl ⟨by rfl, ?h6_6⟩) (by assumption) ?r6_6
  case h6_6 =>
    intro W hSW
    try dsimp only at hSW
    go_simp
    try with_reducible rfl
  try simp only [Act.put, List.setIfInBounds_toArray, List.set_cons_zero, List.set_cons_succ]
  refine wpAnyH_take (i := 7) (oi := { dst := some 25, op := Op.load 30 (Operand.tmp 9), type := 30, pos := "digest.go:251", after := #[], guard := none }) (v := _) rfl (by kernel_rfl) (by kernel_rfl) (by kernel_rfl) (fun _ _ _ h => h) (yi_row rfl _ (.tmp 9) rfl rfl (fun W hW => rb.below' hW) Tryd.underlying30 (by rw [bvs_len, HB.out]; exact size16)) (by assumption) ?_
  try simp only [Act.put, List.setIfInBounds_toArray, List.set_cons_zero, List.set_cons_succ]
  refine wpAnyH_take (i := 8) (oi := { dst := some 26, op := Op.move (Operand.tmp 5), type := 34, pos := "digest.go:251", after := #[], guard := none }) (v := ?v8_8) rfl (by kernel_rfl) (by kernel_rfl) (by kernel_rfl) (fun _ _ _ h => h) (Or.inl ⟨by rfl, ?h8_8⟩) (by assumption) ?r8_8
  case h8_8 =>
    intro W hSW
    try dsimp only at hSW
    go_simp
    try with_reducible rfl
  try simp only [Act.put, List.setIfInBounds_toArray, List.set_cons_zero, List.set_cons_succ]
  refine wpAnyH_ready (rs := [4]) (by kernel_rfl) (by simp) ?_
  refine AllReadyH.cons (o := { dst := some 22, op := Op.call { callee := Callee.value (Operand.func 49), args := #[Operand.tmp 18, Operand.tmp 19, Operand.tmp 20, Operand.tmp 21], argTypes := #[3, 3, 30, 34] }, type := 48, pos := "digest.go:251", after := #[{ on := 0, ground := Ground.data }, { on := 1, ground := Ground.data }, { on := 2, ground := Ground.data }, { on := 3, ground := Ground.data }], guard := none }) rfl (fun K hK => ?_) AllReadyH.nil
  go_simp
  refine (HX.out _ (hbw.trans (hv0.mono hbw.size))).mono ?_
  rintro e w1 ⟨A1, c1, xs1, rfl, b1, own1, RJ1⟩
  have RJ1' := Lib.hid RJ1
  clear RJ1
  have rr1 := Rd.of_own own1
  rw [HM.out] at rr1 own1
  rw [HM.out]
  obtain ⟨g1, off1, rfl, hg1, hcell1⟩ := rr1.2 (by have := HM.out; omega)
  have hv1 : Below w0.heap.size w0 w1 := hv0.trans (b1.mono hv0.size)
  go_wp2_with fail
  refine hK.out _ _ (hv1) (fun hHeld => ?_)
  clear hK K
  try simp only [Act.put, List.setIfInBounds_toArray, List.set_cons_zero, List.set_cons_succ]
  refine wpAnyH_ready (rs := [9]) (by kernel_rfl) (by simp) ?_
  refine AllReadyH.cons (o := { dst := some 27, op := Op.call { callee := Callee.value (Operand.func 49), args := #[Operand.tmp 23, Operand.tmp 24, Operand.tmp 25, Operand.tmp 26], argTypes := #[3, 3, 30, 34] }, type := 48, pos := "digest.go:251", after := #[{ on := 5, ground := Ground.data }, { on := 6, ground := Ground.data }, { on := 7, ground := Ground.data }, { on := 8, ground := Ground.data }, { on := 4, ground := Ground.chain }], guard := none }) rfl (fun K hK => ?_) AllReadyH.nil
  go_simp
  refine (HY.out _ (hbw.trans (hv1.mono hbw.size))).mono ?_
  rintro e w2 ⟨A2, c2, xs2, rfl, b2, own2, RJ2⟩
  have RJ2' := Lib.hid RJ2
  clear RJ2
  have rr2 := Rd.of_own own2
  rw [HM.out] at rr2 own2
  rw [HM.out]
  obtain ⟨g2, off2, rfl, hg2, hcell2⟩ := rr2.2 (by have := HM.out; omega)
  have hv2 : Below w0.heap.size w0 w2 := hv1.trans (b2.mono hv1.size)
  go_wp2_with fail
  refine hK.out _ _ (hv2) (fun hHeld => ?_)
  clear hK K
  try simp only [Act.put, List.setIfInBounds_toArray, List.set_cons_zero, List.set_cons_succ]
  refine wpAnyH_take (i := 10) (oi := { dst := some 15, op := Op.assign (Operand.tmp 22), type := 48, pos := "digest.go:251", after := #[{ on := 4, ground := Ground.data }, { on := 9, ground := Ground.chain }, { on := 0, ground := Ground.phase }, { on := 1, ground := Ground.phase }, { on := 2, ground := Ground.phase }, { on := 3, ground := Ground.phase }, { on := 4, ground := Ground.phase }, { on := 5, ground := Ground.textOnly Departure.lateStores }, { on := 6, ground := Ground.textOnly Departure.lateStores }, { on := 7, ground := Ground.textOnly Departure.lateStores }, { on := 8, ground := Ground.textOnly Departure.lateStores }, { on := 9, ground := Ground.textOnly Departure.lateStoresUnsure }], guard := none }) (v := ?v10_9) rfl (by kernel_rfl) (by kernel_rfl) (by kernel_rfl) (fun _ _ _ h => h) (Or.inl ⟨by rfl, ?h10_9⟩) (by assumption) ?r10_9
  case h10_9 =>
    intro W hSW
    try dsimp only at hSW
    go_simp
    try with_reducible rfl
  try simp only [Act.put, List.setIfInBounds_toArray, List.set_cons_zero, List.set_cons_succ]
  refine wpAnyH_take (i := 11) (oi := { dst := some 16, op := Op.assign (Operand.tmp 27), type := 48, pos := "digest.go:251", after := #[{ on := 9, ground := Ground.data }, { on := 10, ground := Ground.chain }, { on := 0, ground := Ground.phase }, { on := 1, ground := Ground.phase }, { on := 2, ground := Ground.phase }, { on := 3, ground := Ground.phase }, { on := 4, ground := Ground.phase }, { on := 5, ground := Ground.phase }, { on := 6, ground := Ground.phase }, { on := 7, ground := Ground.phase }, { on := 8, ground := Ground.phase }, { on := 9, ground := Ground.phase }, { on := 10, ground := Ground.phase }], guard := none }) (v := ?v11_10) rfl (by kernel_rfl) (by kernel_rfl) (by kernel_rfl) (fun _ _ _ h => h) (Or.inl ⟨by rfl, ?h11_10⟩) (by assumption) ?r11_10
  case h11_10 =>
    intro W hSW
    try dsimp only at hSW
    go_simp
    try with_reducible rfl
  try simp only [Act.put, List.setIfInBounds_toArray, List.set_cons_zero, List.set_cons_succ]
  refine wpAnyH_done (by kernel_rfl) ?_ _
  have hef1 : ∀ W, (binOp .eql 48 (.slice (some ⟨g1, off1, none⟩) M c1) (.slice none 0 0)).run Tryd.prog W = .ok (.bool false) W := fun W => Go.Lib.run_eql_slice_nil (P := Tryd.prog) W 48 22 (some ⟨g1, off1, none⟩) M c1 0 0 Tryd.underlying48
  have hef2 : ∀ W, (binOp .eql 48 (.slice (some ⟨g2, off2, none⟩) M c2) (.slice none 0 0)).run Tryd.prog W = .ok (.bool false) W := fun W => Go.Lib.run_eql_slice_nil (P := Tryd.prog) W 48 22 (some ⟨g2, off2, none⟩) M c2 0 0 Tryd.underlying48
  go_wp2_with fail
  have RK1 := RJ1'.out.below b2
  obtain ⟨A3, N3, c3, hx3, hN3, rd3, _⟩ := RK1.2 m x hL1
  obtain ⟨A4, N4, c4, hx4, hN4, rd4, _⟩ := RJ2'.out.2 m y hL2
  have hg1' : g1 < w2.heap.size := by have := b2.size; omega
  have hg2' : g2 < w2.heap.size := by omega
  have HC3 := Lib.hid ((b2.cell (p := ⟨g1, off1 + m, none⟩) (by omega)).trans (hcell1 m _ hx3))
  have HC4 := Lib.hid (hcell2 m _ hx4)
  have qq : Below w.heap.size w w2 := hbw.trans (hv2.mono hbw.size)
  have HS3 := Lib.hid (fun (W : World) (h : Below w2.heap.size w2 W) => HSX.out A3 N3 c3 hN3 W ((rd3.below h).more h.size) ((HT.out.below qq).below h))
  have HS4 := Lib.hid (fun (W : World) (h : Below w2.heap.size w2 W) => HSY.out A4 N4 c4 hN4 W ((rd4.below h).more h.size) ((HT.out.below qq).below h))
  have HCL1 := Lib.hid hcell1
  have HCL2 := Lib.hid hcell2
  clear hcell1 hcell2 hx3 hx4 hN3 hN4 RK1
  have hv0 : Below w2.heap.size w2 w2.drew := (Below.refl _ _).drew
  refine wp_region_held_drew (S := fun W => Below w2.heap.size w2 W) (by kernel_rfl) (hv0) (fun hHeld => ?_)
  refine wpAnyH_take (i := 0) (oi := { dst := some 28, op := Op.move (Operand.tmp 15), type := 48, pos := "digest.go:252", after := #[], guard := none }) (v := ?v0_101) rfl (by kernel_rfl) (by kernel_rfl) (by kernel_rfl) (fun _ _ _ h => h) (Or.inl ⟨by rfl, ?h0_101⟩) (by assumption) ?r0_101
  case h0_101 =>
    intro W hSW
    try dsimp only at hSW
    go_simp
    try with_reducible rfl
  try simp only [Act.put, List.setIfInBounds_toArray, List.set_cons_zero, List.set_cons_succ]
  refine wpAnyH_take (i := 1) (oi := { dst := some 29, op := Op.binOp BinOp.eql 48 (Operand.tmp 28) (Operand.const (Value.slice none 0 0)) 48, type := 4, pos := "digest.go:252", after := #[{ on := 0, ground := Ground.data }], guard := none }) (v := ?v1_102) rfl (by kernel_rfl) (by kernel_rfl) (by kernel_rfl) (fun _ _ _ h => h) (Or.inl ⟨by rfl, ?h1_102⟩) (by assumption) ?r1_102
  case h1_102 =>
    intro W hSW
    try dsimp only at hSW
    go_simp
    try with_reducible rfl
  try simp only [Act.put, List.setIfInBounds_toArray, List.set_cons_zero, List.set_cons_succ]
  refine wpAnyH_take (i := 2) (oi := { dst := some 30, op := Op.move (Operand.tmp 29), type := 4, pos := "digest.go:252", after := #[{ on := 1, ground := Ground.data }], guard := none }) (v := ?v2_103) rfl (by kernel_rfl) (by kernel_rfl) (by kernel_rfl) (fun _ _ _ h => h) (Or.inl ⟨by rfl, ?h2_103⟩) (by assumption) ?r2_103
  case h2_103 =>
    intro W hSW
    try dsimp only at hSW
    go_simp
    try with_reducible rfl
  try simp only [Act.put, List.setIfInBounds_toArray, List.set_cons_zero, List.set_cons_succ]
  refine wpAnyH_take (i := 3) (oi := { dst := some 31, op := Op.move (Operand.tmp 16), type := 48, pos := "digest.go:252", after := #[{ on := 2, ground := Ground.guard }], guard := some (2, false) }) (v := ?v3_104) rfl (by kernel_rfl) (by kernel_rfl) (by kernel_rfl) (fun _ _ _ h => h) (Or.inl ⟨by rfl, ?h3_104⟩) (by assumption) ?r3_104
  case h3_104 =>
    intro W hSW
    try dsimp only at hSW
    go_simp
    try with_reducible rfl
  try simp only [Act.put, List.setIfInBounds_toArray, List.set_cons_zero, List.set_cons_succ]
  refine wpAnyH_take (i := 4) (oi := { dst := some 32, op := Op.binOp BinOp.eql 48 (Operand.tmp 31) (Operand.const (Value.slice none 0 0)) 48, type := 4, pos := "digest.go:252", after := #[{ on := 3, ground := Ground.data }, { on := 2, ground := Ground.guard }], guard := some (2, false) }) (v := ?v4_105) rfl (by kernel_rfl) (by kernel_rfl) (by kernel_rfl) (fun _ _ _ h => h) (Or.inl ⟨by rfl, ?h4_105⟩) (by assumption) ?r4_105
  case h4_105 =>
    intro W hSW
    try dsimp only at hSW
    go_simp
    try with_reducible rfl
  try simp only [Act.put, List.setIfInBounds_toArray, List.set_cons_zero, List.set_cons_succ]
  refine wpAnyH_take (i := 5) (oi := { dst := some 33, op := Op.pick (Operand.tmp 30) (Operand.const (Value.bool true)) (Operand.tmp 32), type := 4, pos := "digest.go:252", after := #[{ on := 2, ground := Ground.data }, { on := 4, ground := Ground.data }], guard := none }) (v := ?v5_106) rfl (by kernel_rfl) (by kernel_rfl) (by kernel_rfl) (fun _ _ _ h => h) (Or.inl ⟨by rfl, ?h5_106⟩) (by assumption) ?r5_106
  case h5_106 =>
    intro W hSW
    try dsimp only at hSW
    go_simp
    try with_reducible rfl
  try simp only [Act.put, List.setIfInBounds_toArray, List.set_cons_zero, List.set_cons_succ]
  refine wpAnyH_take (i := 6) (oi := { dst := some 34, op := Op.move (Operand.tmp 33), type := 4, pos := "digest.go:252", after := #[{ on := 5, ground := Ground.data }, { on := 2, ground := Ground.chain }], guard := none }) (v := ?v6_107) rfl (by kernel_rfl) (by kernel_rfl) (by kernel_rfl) (fun _ _ _ h => h) (Or.inl ⟨by rfl, ?h6_107⟩) (by assumption) ?r6_107
  case h6_107 =>
    intro W hSW
    try dsimp only at hSW
    go_simp
    try with_reducible rfl
  try simp only [Act.put, List.setIfInBounds_toArray, List.set_cons_zero, List.set_cons_succ]
  refine wpAnyH_take (i := 7) (oi := { dst := some 35, op := Op.move (Operand.tmp 15), type := 48, pos := "digest.go:252", after := #[{ on := 6, ground := Ground.guard }], guard := some (6, false) }) (v := ?v7_108) rfl (by kernel_rfl) (by kernel_rfl) (by kernel_rfl) (fun _ _ _ h => h) (Or.inl ⟨by rfl, ?h7_108⟩) (by assumption) ?r7_108
  case h7_108 =>
    intro W hSW
    try dsimp only at hSW
    go_simp
    try with_reducible rfl
  try simp only [Act.put, List.setIfInBounds_toArray, List.set_cons_zero, List.set_cons_succ]
  refine wpAnyH_take (i := 8) (oi := { dst := some 36, op := Op.move (Operand.tmp 15), type := 48, pos := "digest.go:252", after := #[{ on := 6, ground := Ground.guard }], guard := some (6, false) }) (v := ?v8_109) rfl (by kernel_rfl) (by kernel_rfl) (by kernel_rfl) (fun _ _ _ h => h) (Or.inl ⟨by rfl, ?h8_109⟩) (by assumption) ?r8_109
  case h8_109 =>
    intro W hSW
    try dsimp only at hSW
    go_simp
    try with_reducible rfl
  try simp only [Act.put, List.setIfInBounds_toArray, List.set_cons_zero, List.set_cons_succ]
  refine wpAnyH_take (i := 9) (oi := { dst := some 37, op := Op.call { callee := Callee.builtin Builtin.len, args := #[Operand.tmp 36], argTypes := #[48] }, type := 3, pos := "digest.go:252", after := #[{ on := 8, ground := Ground.data }, { on := 6, ground := Ground.guard }], guard := some (6, false) }) (v := ?v9_110) rfl (by kernel_rfl) (by kernel_rfl) (by kernel_rfl) (fun _ _ _ h => h) (Or.inl ⟨by rfl, ?h9_110⟩) (by assumption) ?r9_110
  case h9_110 =>
    intro W hSW
    try dsimp only at hSW
    go_simp
    try with_reducible rfl
  try simp only [Act.put, List.setIfInBounds_toArray, List.set_cons_zero, List.set_cons_succ]
  refine wpAnyH_take (i := 10) (oi := { dst := some 38, op := Op.binOp BinOp.sub 3 (Operand.tmp 37) (Operand.const (Value.int IntKind.i64 1)) 3, type := 3, pos := "digest.go:252", after := #[{ on := 9, ground := Ground.data }, { on := 6, ground := Ground.guard }], guard := some (6, false) }) (v := ?v10_111) rfl (by kernel_rfl) (by kernel_rfl) (by kernel_rfl) (fun _ _ _ h => h) (Or.inl ⟨by rfl, ?h10_111⟩) (by assumption) ?r10_111
  case h10_111 =>
    intro W hSW
    try dsimp only at hSW
    go_simp
    try with_reducible rfl
  try simp only [Act.put, List.setIfInBounds_toArray, List.set_cons_zero, List.set_cons_succ]
  refine wpAnyH_take (i := 11) (oi := { dst := some 39, op := Op.indexAddr 48 (Operand.tmp 35) (Operand.tmp 38), type := 0, pos := "digest.go:252", after := #[{ on := 7, ground := Ground.data }, { on := 10, ground := Ground.data }, { on := 6, ground := Ground.guard }], guard := some (6, false) }) (v := ?v11_112) rfl (by kernel_rfl) (by kernel_rfl) (by kernel_rfl) (fun _ _ _ h => h) (Or.inl ⟨by rfl, ?h11_112⟩) (by assumption) ?r11_112
  case h11_112 =>
    intro W hSW
    try dsimp only at hSW
    go_simp
    try with_reducible rfl
  try simp only [Act.put, List.setIfInBounds_toArray, List.set_cons_zero, List.set_cons_succ]
  refine wpAnyH_take (i := 12) (oi := { dst := some 40, op := Op.load 22 (Operand.tmp 39), type := 22, pos := "digest.go:252", after := #[{ on := 11, ground := Ground.data }, { on := 6, ground := Ground.guard }], guard := some (6, false) }) (v := ?v12_113) rfl (by kernel_rfl) (by kernel_rfl) (by kernel_rfl) (fun _ _ _ h => h) (Or.inl ⟨by rfl, ?h12_113⟩) (by assumption) ?r12_113
  case h12_113 =>
    intro W hSW
    try dsimp only at hSW
    have hcc := (hSW.cell (p := ⟨g1, off1 + m, none⟩) hg1').trans HC3.out
    go_simp
    try with_reducible rfl
  try simp only [Act.put, List.setIfInBounds_toArray, List.set_cons_zero, List.set_cons_succ]
  refine wpAnyH_take (i := 14) (oi := { dst := some 42, op := Op.move (Operand.tmp 16), type := 48, pos := "digest.go:252", after := #[{ on := 6, ground := Ground.guard }], guard := some (6, false) }) (v := ?v14_114) rfl (by kernel_rfl) (by kernel_rfl) (by kernel_rfl) (fun _ _ _ h => h) (Or.inl ⟨by rfl, ?h14_114⟩) (by assumption) ?r14_114
  case h14_114 =>
    intro W hSW
    try dsimp only at hSW
    go_simp
    try with_reducible rfl
  try simp only [Act.put, List.setIfInBounds_toArray, List.set_cons_zero, List.set_cons_succ]
  refine wpAnyH_take (i := 15) (oi := { dst := some 43, op := Op.move (Operand.tmp 16), type := 48, pos := "digest.go:252", after := #[{ on := 6, ground := Ground.guard }], guard := some (6, false) }) (v := ?v15_115) rfl (by kernel_rfl) (by kernel_rfl) (by kernel_rfl) (fun _ _ _ h => h) (Or.inl ⟨by rfl, ?h15_115⟩) (by assumption) ?r15_115
  case h15_115 =>
    intro W hSW
    try dsimp only at hSW
    go_simp
    try with_reducible rfl
  try simp only [Act.put, List.setIfInBounds_toArray, List.set_cons_zero, List.set_cons_succ]
  refine wpAnyH_take (i := 16) (oi := { dst := some 44, op := Op.call { callee := Callee.builtin Builtin.len, args := #[Operand.tmp 43], argTypes := #[48] }, type := 3, pos := "digest.go:252", after := #[{ on := 15, ground := Ground.data }, { on := 6, ground := Ground.guard }], guard := some (6, false) }) (v := ?v16_116) rfl (by kernel_rfl) (by kernel_rfl) (by kernel_rfl) (fun _ _ _ h => h) (Or.inl ⟨by rfl, ?h16_116⟩) (by assumption) ?r16_116
  case h16_116 =>
    intro W hSW
    try dsimp only at hSW
    go_simp
    try with_reducible rfl
  try simp only [Act.put, List.setIfInBounds_toArray, List.set_cons_zero, List.set_cons_succ]
  refine wpAnyH_take (i := 17) (oi := { dst := some 45, op := Op.binOp BinOp.sub 3 (Operand.tmp 44) (Operand.const (Value.int IntKind.i64 1)) 3, type := 3, pos := "digest.go:252", after := #[{ on := 16, ground := Ground.data }, { on := 6, ground := Ground.guard }], guard := some (6, false) }) (v := ?v17_117) rfl (by kernel_rfl) (by kernel_rfl) (by kernel_rfl) (fun _ _ _ h => h) (Or.inl ⟨by rfl, ?h17_117⟩) (by assumption) ?r17_117
  case h17_117 =>
    intro W hSW
    try dsimp only at hSW
    go_simp
    try with_reducible rfl
  try simp only [Act.put, List.setIfInBounds_toArray, List.set_cons_zero, List.set_cons_succ]
  refine wpAnyH_take (i := 18) (oi := { dst := some 46, op := Op.indexAddr 48 (Operand.tmp 42) (Operand.tmp 45), type := 0, pos := "digest.go:252", after := #[{ on := 14, ground := Ground.data }, { on := 17, ground := Ground.data }, { on := 6, ground := Ground.guard }], guard := some (6, false) }) (v := ?v18_118) rfl (by kernel_rfl) (by kernel_rfl) (by kernel_rfl) (fun _ _ _ h => h) (Or.inl ⟨by rfl, ?h18_118⟩) (by assumption) ?r18_118
  case h18_118 =>
    intro W hSW
    try dsimp only at hSW
    go_simp
    try with_reducible rfl
  try simp only [Act.put, List.setIfInBounds_toArray, List.set_cons_zero, List.set_cons_succ]
  refine wpAnyH_take (i := 19) (oi := { dst := some 47, op := Op.load 22 (Operand.tmp 46), type := 22, pos := "digest.go:252", after := #[{ on := 18, ground := Ground.data }, { on := 6, ground := Ground.guard }], guard := some (6, false) }) (v := ?v19_119) rfl (by kernel_rfl) (by kernel_rfl) (by kernel_rfl) (fun _ _ _ h => h) (Or.inl ⟨by rfl, ?h19_119⟩) (by assumption) ?r19_119
  case h19_119 =>
    intro W hSW
    try dsimp only at hSW
    have hcc := (hSW.cell (p := ⟨g2, off2 + m, none⟩) hg2').trans HC4.out
    go_simp
    try with_reducible rfl
  try simp only [Act.put, List.setIfInBounds_toArray, List.set_cons_zero, List.set_cons_succ]
  refine wpAnyH_ready (rs := [13]) (by kernel_rfl) (by simp) ?_
  refine AllReadyH.cons (o := { dst := some 41, op := Op.call { callee := Callee.value (Operand.func 36), args := #[Operand.tmp 40], argTypes := #[22] }, type := 30, pos := "digest.go:252", after := #[{ on := 12, ground := Ground.data }, { on := 6, ground := Ground.chain }, { on := 6, ground := Ground.guard }], guard := some (6, false) }) rfl (fun K hK => ?_) AllReadyH.nil
  go_simp
  refine (HS3.out _ hv0).mono ?_
  rintro e w3 ⟨rfl, b3⟩
  have hv3 : Below w2.heap.size w2 w3 := hv0.trans (b3.mono hv0.size)
  go_wp2_with fail
  refine hK.out _ _ (hv3) (fun hHeld => ?_)
  clear hK K
  try simp only [Act.put, List.setIfInBounds_toArray, List.set_cons_zero, List.set_cons_succ]
  refine wpAnyH_ready (rs := [20]) (by kernel_rfl) (by simp) ?_
  refine AllReadyH.cons (o := { dst := some 48, op := Op.call { callee := Callee.value (Operand.func 36), args := #[Operand.tmp 47], argTypes := #[22] }, type := 30, pos := "digest.go:252", after := #[{ on := 19, ground := Ground.data }, { on := 13, ground := Ground.chain }, { on := 6, ground := Ground.guard }], guard := some (6, false) }) rfl (fun K hK => ?_) AllReadyH.nil
  go_simp
  refine (HS4.out _ hv3).mono ?_
  rintro e w4 ⟨rfl, b4⟩
  have hv4 : Below w2.heap.size w2 w4 := hv3.trans (b4.mono hv3.size)
  go_wp2_with fail
  refine hK.out _ _ (hv4) (fun hHeld => ?_)
  clear hK K
  try simp only [Act.put, List.setIfInBounds_toArray, List.set_cons_zero, List.set_cons_succ]
  refine wpAnyH_take (i := 21) (oi := { dst := some 49, op := Op.binOp BinOp.neq 30 (Operand.tmp 41) (Operand.tmp 48) 30, type := 4, pos := "digest.go:252", after := #[{ on := 13, ground := Ground.data }, { on := 20, ground := Ground.data }, { on := 6, ground := Ground.guard }], guard := some (6, false) }) (v := ?v21_120) rfl (by kernel_rfl) (by kernel_rfl) (by kernel_rfl) (fun _ _ _ h => h) (Or.inl ⟨by rfl, ?h21_120⟩) (by assumption) ?r21_120
  case h21_120 =>
    intro W hSW
    try dsimp only at hSW
    go_simp
    try with_reducible rfl
  try simp only [Act.put, List.setIfInBounds_toArray, List.set_cons_zero, List.set_cons_succ]
  refine wpAnyH_take (i := 22) (oi := { dst := some 50, op := Op.pick (Operand.tmp 34) (Operand.const (Value.bool true)) (Operand.tmp 49), type := 4, pos := "digest.go:252", after := #[{ on := 6, ground := Ground.data }, { on := 21, ground := Ground.data }], guard := none }) (v := ?v22_121) rfl (by kernel_rfl) (by kernel_rfl) (by kernel_rfl) (fun _ _ _ h => h) (Or.inl ⟨by rfl, ?h22_121⟩) (by assumption) ?r22_121
  case h22_121 =>
    intro W hSW
    try dsimp only at hSW
    go_simp
    try with_reducible rfl
  try simp only [Act.put, List.setIfInBounds_toArray, List.set_cons_zero, List.set_cons_succ]
  refine wpAnyH_done (by kernel_rfl) ?_ _
  go_wp2_with fail
  have q4 : Below w.heap.size w w4 := qq.trans (hv4.mono qq.size)
  go_loopw [17] (fun u17 wr => ∃ k : Nat, k ≤ M ∧ u17 = .int .i64 ((k : Int) - 1) ∧ Hid (Below w4.heap.size w4 wr) ∧ Hid (Mk.clashF L1 L2 M = Mk.clashF L1 L2 k)) (fun u17 _ => (intOf u17 + 1).toNat)
  case atStart => exact ⟨M, Nat.le_refl _, by rw [← HM.out]; congr 1; omega, Lib.hid (Below.refl _ _), Lib.hid rfl⟩
  case round =>
    obtain ⟨k, hk, rfl, HBW, HF⟩ := hrel
    have q5 := q4.trans (HBW.out.mono q4.size)
    by_cases h0 : k = 0
    · subst h0
      have HN := Lib.hid (HF.out.trans (show Mk.clashF L1 L2 0 = none from rfl))
      go_wp2
      exact bodyPost_ret (results_tmp3 rfl _ _ _) rfl (show ClashR _ _ _ _ _ _ from ⟨fun _ => ⟨rfl, q5⟩, fun t ht => by rw [HN.out] at ht; cases ht⟩)
    · obtain ⟨k, rfl⟩ : ∃ j, k = j + 1 := ⟨k - 1, by omega⟩
      have e1 : ((k + 1 : Nat) : Int) - 1 = (k : Int) := by omega
      rw [e1]
      have hkM : (k : Int) < (M : Int) := by omega
      have hk0 : (0 : Int) ≤ (k : Int) := by omega
      have hk64 : (k : Int) ≤ 64 := by have := HM.out; omega
      obtain ⟨A5, N5, c5, hx5, hN5, rd5, _⟩ := (RJ1'.out.below b2).2 k (L1.getD k []) (by rw [List.getD, List.getElem?_eq_getElem (by rw [HL1.out]; omega)]; rfl)
      obtain ⟨A6, N6, c6, hx6, hN6, rd6, _⟩ := RJ2'.out.2 k (L2.getD k []) (by rw [List.getD, List.getElem?_eq_getElem (by rw [HL2.out]; omega)]; rfl)
      have hb25 : Below w2.heap.size w2 wr := hv4.trans (HBW.out.mono hv4.size)
      have HC5 := Lib.hid ((hb25.cell (p := ⟨g1, off1 + k, none⟩) hg1').trans ((b2.cell (p := ⟨g1, off1 + k, none⟩) (by omega)).trans (HCL1.out k _ hx5)))
      have HC6 := Lib.hid ((hb25.cell (p := ⟨g2, off2 + k, none⟩) hg2').trans (HCL2.out k _ hx6))
      have hg1r : g1 < wr.heap.size := by have := hb25.size; omega
      have hg2r : g2 < wr.heap.size := by have := hb25.size; omega
      obtain ⟨S, hS⟩ : ∃ S, decide (L1.getD k [] = L2.getD k []) = S := ⟨_, rfl⟩
      have HEQ := Lib.hid (fun (W : World) (h : Below wr.heap.size wr W) => (slEqual_any A5 A6 c5 c6 N5 N6 _ _ W hN5.symm hN6.symm (by have := H40.out k; unfold maxLen; omega) _ _ ((rd5.below hb25).below (h.mono hb25.size)) ((rd6.below hb25).below (h.mono hb25.size)) S hS).mono (fun e w' hh => (⟨hh.1, hh.2.elim fun n h2 => h2 ▸ below_of_drewN _ _ _⟩ : e = .returned (.bool S) ∧ Below W.heap.size W w')))
      have HS := Lib.hid hS
      have RD5 := Lib.hid (And.intro hN5 ((rd5.below hb25).more hb25.size))
      have RD6 := Lib.hid (And.intro hN6 ((rd6.below hb25).more hb25.size))
      clear hS hN5 hN6 rd5 rd6
      clear hx5 hx6
      go_wp2_with fail
      have hv0 : Below wr.heap.size wr wr.drew := (Below.refl _ _).drew
      refine wp_region_held_drew (S := fun W => Below wr.heap.size wr W) (by kernel_rfl) (hv0) (fun hHeld => ?_)
      refine wpAnyH_take (i := 0) (oi := { dst := some 58, op := Op.move (Operand.tmp 15), type := 48, pos := "digest.go:256", after := #[], guard := none }) (v := ?v0_301) rfl (by kernel_rfl) (by kernel_rfl) (by kernel_rfl) (fun _ _ _ h => h) (Or.inl ⟨by rfl, ?h0_301⟩) (by assumption) ?r0_301
      case h0_301 =>
        intro W hSW
        try dsimp only at hSW
        go_simp
        try with_reducible rfl
      try simp only [Act.put, List.setIfInBounds_toArray, List.set_cons_zero, List.set_cons_succ]
      refine wpAnyH_take (i := 1) (oi := { dst := some 59, op := Op.move (Operand.tmp 17), type := 3, pos := "digest.go:256", after := #[], guard := none }) (v := ?v1_302) rfl (by kernel_rfl) (by kernel_rfl) (by kernel_rfl) (fun _ _ _ h => h) (Or.inl ⟨by rfl, ?h1_302⟩) (by assumption) ?r1_302
      case h1_302 =>
        intro W hSW
        try dsimp only at hSW
        go_simp
        try with_reducible rfl
      try simp only [Act.put, List.setIfInBounds_toArray, List.set_cons_zero, List.set_cons_succ]
      refine wpAnyH_take (i := 2) (oi := { dst := some 60, op := Op.indexAddr 48 (Operand.tmp 58) (Operand.tmp 59), type := 0, pos := "digest.go:256", after := #[{ on := 0, ground := Ground.data }, { on := 1, ground := Ground.data }], guard := none }) (v := ?v2_303) rfl (by kernel_rfl) (by kernel_rfl) (by kernel_rfl) (fun _ _ _ h => h) (Or.inl ⟨by rfl, ?h2_303⟩) (by assumption) ?r2_303
      case h2_303 =>
        intro W hSW
        try dsimp only at hSW
        go_simp
        try with_reducible rfl
      try simp only [Act.put, List.setIfInBounds_toArray, List.set_cons_zero, List.set_cons_succ]
      refine wpAnyH_take (i := 3) (oi := { dst := some 61, op := Op.load 22 (Operand.tmp 60), type := 22, pos := "digest.go:256", after := #[{ on := 2, ground := Ground.data }], guard := none }) (v := ?v3_304) rfl (by kernel_rfl) (by kernel_rfl) (by kernel_rfl) (fun _ _ _ h => h) (Or.inl ⟨by rfl, ?h3_304⟩) (by assumption) ?r3_304
      case h3_304 =>
        intro W hSW
        try dsimp only at hSW
        have hcc := (hSW.cell (p := ⟨g1, off1 + k, none⟩) hg1r).trans HC5.out
        go_simp
        try with_reducible rfl
      try simp only [Act.put, List.setIfInBounds_toArray, List.set_cons_zero, List.set_cons_succ]
      refine wpAnyH_take (i := 4) (oi := { dst := some 62, op := Op.move (Operand.tmp 16), type := 48, pos := "digest.go:256", after := #[], guard := none }) (v := ?v4_305) rfl (by kernel_rfl) (by kernel_rfl) (by kernel_rfl) (fun _ _ _ h => h) (Or.inl ⟨by rfl, ?h4_305⟩) (by assumption) ?r4_305
      case h4_305 =>
        intro W hSW
        try dsimp only at hSW
        go_simp
        try with_reducible rfl
      try simp only [Act.put, List.setIfInBounds_toArray, List.set_cons_zero, List.set_cons_succ]
      refine wpAnyH_take (i := 5) (oi := { dst := some 63, op := Op.move (Operand.tmp 17), type := 3, pos := "digest.go:256", after := #[], guard := none }) (v := ?v5_306) rfl (by kernel_rfl) (by kernel_rfl) (by kernel_rfl) (fun _ _ _ h => h) (Or.inl ⟨by rfl, ?h5_306⟩) (by assumption) ?r5_306
      case h5_306 =>
        intro W hSW
        try dsimp only at hSW
        go_simp
        try with_reducible rfl
      try simp only [Act.put, List.setIfInBounds_toArray, List.set_cons_zero, List.set_cons_succ]
      refine wpAnyH_take (i := 6) (oi := { dst := some 64, op := Op.indexAddr 48 (Operand.tmp 62) (Operand.tmp 63), type := 0, pos := "digest.go:256", after := #[{ on := 4, ground := Ground.data }, { on := 5, ground := Ground.data }], guard := none }) (v := ?v6_307) rfl (by kernel_rfl) (by kernel_rfl) (by kernel_rfl) (fun _ _ _ h => h) (Or.inl ⟨by rfl, ?h6_307⟩) (by assumption) ?r6_307
      case h6_307 =>
        intro W hSW
        try dsimp only at hSW
        go_simp
        try with_reducible rfl
      try simp only [Act.put, List.setIfInBounds_toArray, List.set_cons_zero, List.set_cons_succ]
      refine wpAnyH_take (i := 7) (oi := { dst := some 65, op := Op.load 22 (Operand.tmp 64), type := 22, pos := "digest.go:256", after := #[{ on := 6, ground := Ground.data }], guard := none }) (v := ?v7_308) rfl (by kernel_rfl) (by kernel_rfl) (by kernel_rfl) (fun _ _ _ h => h) (Or.inl ⟨by rfl, ?h7_308⟩) (by assumption) ?r7_308
      case h7_308 =>
        intro W hSW
        try dsimp only at hSW
        have hcc := (hSW.cell (p := ⟨g2, off2 + k, none⟩) hg2r).trans HC6.out
        go_simp
        try with_reducible rfl
      try simp only [Act.put, List.setIfInBounds_toArray, List.set_cons_zero, List.set_cons_succ]
      refine wpAnyH_ready (rs := [8]) (by kernel_rfl) (by simp) ?_
      refine AllReadyH.cons (o := { dst := some 66, op := Op.call { callee := Callee.value (Operand.func 50), args := #[Operand.tmp 61, Operand.tmp 65], argTypes := #[22, 22] }, type := 4, pos := "digest.go:256", after := #[{ on := 3, ground := Ground.data }, { on := 7, ground := Ground.data }], guard := none }) rfl (fun K hK => ?_) AllReadyH.nil
      go_simp
      refine (HEQ.out _ hv0).mono ?_
      rintro e w9 ⟨rfl, b9⟩
      have hv9 : Below wr.heap.size wr w9 := hv0.trans (b9.mono hv0.size)
      clear b9
      refine hK.out _ _ (hv9) (fun hHeld => ?_)
      clear hK K
      try simp only [Act.put, List.setIfInBounds_toArray, List.set_cons_zero, List.set_cons_succ]
      refine wpAnyH_take (i := 9) (oi := { dst := some 67, op := Op.unOp UnOp.not 4 (Operand.tmp 66), type := 4, pos := "digest.go:256", after := #[{ on := 8, ground := Ground.data }], guard := none }) (v := ?v9_309) rfl (by kernel_rfl) (by kernel_rfl) (by kernel_rfl) (fun _ _ _ h => h) (Or.inl ⟨by rfl, ?h9_309⟩) (by assumption) ?r9_309
      case h9_309 =>
        intro W hSW
        try dsimp only at hSW
        go_simp
        try with_reducible rfl
      try simp only [Act.put, List.setIfInBounds_toArray, List.set_cons_zero, List.set_cons_succ]
      refine wpAnyH_done (by kernel_rfl) ?_ _
      have HV9 := Lib.hid hv9
      have k5 : w9.cell? ⟨g1, off1 + k, none⟩ = some (.slice A5 N5 c5) := (hv9.cell (p := ⟨g1, off1 + k, none⟩) hg1r).trans HC5.out
      have k6 : w9.cell? ⟨g2, off2 + k, none⟩ = some (.slice A6 N6 c6) := (hv9.cell (p := ⟨g2, off2 + k, none⟩) hg2r).trans HC6.out
      clear hv9 hb25 q5 hHeld
      cases S with
      | true =>
        have HF2 : Hid (Mk.clashF L1 L2 M = Mk.clashF L1 L2 k) := Lib.hid (HF.out.trans (by rw [Mk.clashF, if_pos (of_decide_eq_true HS.out)]))
        go_wp2_with fail
        go_roundw
        case rel => exact ⟨k, by omega, by go_num, Lib.hid (HBW.out.trans (HV9.out.mono HBW.out.size)), HF2⟩
        case measure => simp [intOf] <;> omega
      | false =>
        have HF2 : Hid (Mk.clashF L1 L2 M = some k) := Lib.hid (HF.out.trans (by rw [Mk.clashF, if_neg (of_decide_eq_false HS.out)]))
        go_wp2_with fail
        go_quiet (fail)
        go_wp2_with fail
        refine bodyPost_ret (results_tmp3 rfl _ _ _) rfl ?_
        exact clash_found HF2 HBW HV9 q4 RD5 RD6
end Go.Proofs.YtfnbcchmembomaaDoor
