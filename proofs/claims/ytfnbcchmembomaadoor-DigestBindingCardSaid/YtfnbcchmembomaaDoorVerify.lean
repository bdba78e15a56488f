/- digest.Verify: a walk of its text. -/
import Derived.Test.YtfnbcchmembomaaDoorInputsW
import Derived.Test.YtfnbcchmembomaaDoorDigBase
import Derived.Deep.RegionHeld3
namespace Go.Proofs.YtfnbcchmembomaaDoor
set_option linter.unusedVariables false
set_option linter.unusedSimpArgs false
open Go.RowKit
set_option maxRecDepth 100000 in
set_option maxHeartbeats 1000000 in
theorem verify_no (n i : Int) (r d : List UInt8) (P : Value) (w : World)
    (H : ∀ W, Calls Tryd.prog 49 #[.int .i64 n, .int .i64 i, dv d, P] W fun e W' => e = .returned (.slice none 0 0) ∧ Below W.heap.size W W') (hd : d.length = 16) :
    Calls Tryd.prog 26 #[dv r, .int .i64 n, .int .i64 i, dv d, P] w fun e w' => e = .returned (.bool false) ∧ Below w.heap.size w w' := by
  have h2 := rows2 w 30 30 (bvs r) (bvs d)
  have rd2 := h2.2
  have hne : ∀ W, (binOp .neq 48 (.slice none 0 0) (.slice none 0 0)).run Tryd.prog W = .ok (.bool false) W := fun W => run_neq_slice_nil_any (P := Tryd.prog) W 48 22 none 0 0 0 0 Tryd.underlying48
  have hbw : Below w.heap.size w ((w.alloc (.cells (bvs r).toArray 30)).alloc (.cells (bvs d).toArray 30)) := ((Below.refl _ w).alloc (Nat.le_refl _) _).alloc (by rw [alloc_size1]; omega) _
  clear h2
  go_enter Tryd.func26, Tryd.ntmps26
  go_wp2_with (first
    | (refine wpList_loadRow rfl _ (.tmp 8) rfl rd2 rfl Tryd.underlying30 (by rw [bvs_len, hd]; exact size16) ?_)
    | (go_at_call 49; refine (H _).mono ?_; rintro e w2 ⟨rfl, b2⟩)
    | fail)
  have hb2 : Below w.heap.size w w2 := hbw.trans (b2.mono hbw.size)
  have hv0 : Below w2.heap.size w2 w2.drew := (Below.refl _ _).drew
  refine wp_region_held_drew (S := fun W => Below w2.heap.size w2 W) (by kernel_rfl) (hv0) (fun hHeld => ?_)
  refine wpAnyH_take (i := 0) (oi := { dst := some 17, op := Op.move (Operand.tmp 11), type := 48, pos := "digest.go:184", after := #[], guard := none }) (v := ?v0_1) rfl (by kernel_rfl) (by kernel_rfl) (by kernel_rfl) (fun _ _ _ h => h) (Or.inl ⟨by rfl, ?h0_1⟩) (by assumption) ?r0_1
  case h0_1 =>
    intro W hSW
    try dsimp only at hSW
    go_simp
    try with_reducible rfl
  try simp only [Act.put, List.setIfInBounds_toArray, List.set_cons_zero, List.set_cons_succ]
  refine wpAnyH_take (i := 1) (oi := { dst := some 18, op := Op.binOp BinOp.neq 48 (Operand.tmp 17) (Operand.const (Value.slice none 0 0)) 48, type := 4, pos := "digest.go:184", after := #[{ on := 0, ground := Ground.data }], guard := none }) (v := ?v1_2) rfl (by kernel_rfl) (by kernel_rfl) (by kernel_rfl) (fun _ _ _ h => h) (Or.inl ⟨by rfl, ?h1_2⟩) (by assumption) ?r1_2
  case h1_2 =>
    intro W hSW
    try dsimp only at hSW
    go_simp
    try with_reducible rfl
  try simp only [Act.put, List.setIfInBounds_toArray, List.set_cons_zero, List.set_cons_succ]
  refine wpAnyH_take (i := 2) (oi := { dst := some 19, op := Op.move (Operand.tmp 18), type := 4, pos := "digest.go:184", after := #[{ on := 1, ground := Ground.data }], guard := none }) (v := ?v2_3) rfl (by kernel_rfl) (by kernel_rfl) (by kernel_rfl) (fun _ _ _ h => h) (Or.inl ⟨by rfl, ?h2_3⟩) (by assumption) ?r2_3
  case h2_3 =>
    intro W hSW
    try dsimp only at hSW
    go_simp
    try with_reducible rfl
  try simp only [Act.put, List.setIfInBounds_toArray, List.set_cons_zero, List.set_cons_succ]
  refine wpAnyH_take (i := 3) (oi := { dst := some 20, op := Op.move (Operand.tmp 11), type := 48, pos := "digest.go:184", after := #[{ on := 2, ground := Ground.guard }], guard := some (2, true) }) (v := undef) rfl (by kernel_rfl) (by kernel_rfl) (by kernel_rfl) (fun _ _ _ h => h) (Or.inr ⟨by rfl, rfl⟩) (by assumption) ?_
  try simp only [Act.put, List.setIfInBounds_toArray, List.set_cons_zero, List.set_cons_succ]
  refine wpAnyH_take (i := 4) (oi := { dst := some 21, op := Op.move (Operand.tmp 11), type := 48, pos := "digest.go:184", after := #[{ on := 2, ground := Ground.guard }], guard := some (2, true) }) (v := undef) rfl (by kernel_rfl) (by kernel_rfl) (by kernel_rfl) (fun _ _ _ h => h) (Or.inr ⟨by rfl, rfl⟩) (by assumption) ?_
  try simp only [Act.put, List.setIfInBounds_toArray, List.set_cons_zero, List.set_cons_succ]
  refine wpAnyH_take (i := 5) (oi := { dst := some 22, op := Op.call { callee := Callee.builtin Builtin.len, args := #[Operand.tmp 21], argTypes := #[48] }, type := 3, pos := "digest.go:184", after := #[{ on := 4, ground := Ground.data }, { on := 2, ground := Ground.guard }], guard := some (2, true) }) (v := undef) rfl (by kernel_rfl) (by kernel_rfl) (by kernel_rfl) (fun _ _ _ h => h) (Or.inr ⟨by rfl, rfl⟩) (by assumption) ?_
  try simp only [Act.put, List.setIfInBounds_toArray, List.set_cons_zero, List.set_cons_succ]
  refine wpAnyH_take (i := 6) (oi := { dst := some 23, op := Op.binOp BinOp.sub 3 (Operand.tmp 22) (Operand.const (Value.int IntKind.i64 1)) 3, type := 3, pos := "digest.go:184", after := #[{ on := 5, ground := Ground.data }, { on := 2, ground := Ground.guard }], guard := some (2, true) }) (v := undef) rfl (by kernel_rfl) (by kernel_rfl) (by kernel_rfl) (fun _ _ _ h => h) (Or.inr ⟨by rfl, rfl⟩) (by assumption) ?_
  try simp only [Act.put, List.setIfInBounds_toArray, List.set_cons_zero, List.set_cons_succ]
  refine wpAnyH_take (i := 7) (oi := { dst := some 24, op := Op.indexAddr 48 (Operand.tmp 20) (Operand.tmp 23), type := 0, pos := "digest.go:184", after := #[{ on := 3, ground := Ground.data }, { on := 6, ground := Ground.data }, { on := 2, ground := Ground.guard }], guard := some (2, true) }) (v := undef) rfl (by kernel_rfl) (by kernel_rfl) (by kernel_rfl) (fun _ _ _ h => h) (Or.inr ⟨by rfl, rfl⟩) (by assumption) ?_
  try simp only [Act.put, List.setIfInBounds_toArray, List.set_cons_zero, List.set_cons_succ]
  refine wpAnyH_take (i := 8) (oi := { dst := some 25, op := Op.load 22 (Operand.tmp 24), type := 22, pos := "digest.go:184", after := #[{ on := 7, ground := Ground.data }, { on := 2, ground := Ground.guard }], guard := some (2, true) }) (v := undef) rfl (by kernel_rfl) (by kernel_rfl) (by kernel_rfl) (fun _ _ _ h => h) (Or.inr ⟨by rfl, rfl⟩) (by assumption) ?_
  try simp only [Act.put, List.setIfInBounds_toArray, List.set_cons_zero, List.set_cons_succ]
  refine wpAnyH_take (i := 9) (oi := { dst := some 26, op := Op.call { callee := Callee.value (Operand.func 36), args := #[Operand.tmp 25], argTypes := #[22] }, type := 30, pos := "digest.go:184", after := #[{ on := 8, ground := Ground.data }, { on := 2, ground := Ground.chain }, { on := 2, ground := Ground.guard }], guard := some (2, true) }) (v := undef) rfl (by kernel_rfl) (by kernel_rfl) (by kernel_rfl) (fun _ _ _ h => h) (Or.inr ⟨by rfl, rfl⟩) (by assumption) ?_
  try simp only [Act.put, List.setIfInBounds_toArray, List.set_cons_zero, List.set_cons_succ]
  refine wpAnyH_take (i := 10) (oi := { dst := some 27, op := Op.load 30 (Operand.tmp 5), type := 30, pos := "digest.go:184", after := #[{ on := 2, ground := Ground.guard }], guard := some (2, true) }) (v := undef) rfl (by kernel_rfl) (by kernel_rfl) (by kernel_rfl) (fun _ _ _ h => h) (Or.inr ⟨by rfl, rfl⟩) (by assumption) ?_
  try simp only [Act.put, List.setIfInBounds_toArray, List.set_cons_zero, List.set_cons_succ]
  refine wpAnyH_take (i := 11) (oi := { dst := some 28, op := Op.binOp BinOp.eql 30 (Operand.tmp 26) (Operand.tmp 27) 30, type := 4, pos := "digest.go:184", after := #[{ on := 9, ground := Ground.data }, { on := 10, ground := Ground.data }, { on := 2, ground := Ground.guard }], guard := some (2, true) }) (v := undef) rfl (by kernel_rfl) (by kernel_rfl) (by kernel_rfl) (fun _ _ _ h => h) (Or.inr ⟨by rfl, rfl⟩) (by assumption) ?_
  try simp only [Act.put, List.setIfInBounds_toArray, List.set_cons_zero, List.set_cons_succ]
  refine wpAnyH_take (i := 12) (oi := { dst := some 29, op := Op.pick (Operand.tmp 19) (Operand.tmp 28) (Operand.const (Value.bool false)), type := 4, pos := "digest.go:184", after := #[{ on := 2, ground := Ground.data }, { on := 11, ground := Ground.data }], guard := none }) (v := ?v12_13) rfl (by kernel_rfl) (by kernel_rfl) (by kernel_rfl) (fun _ _ _ h => h) (Or.inl ⟨by rfl, ?h12_13⟩) (by assumption) ?r12_13
  case h12_13 =>
    intro W hSW
    try dsimp only at hSW
    go_simp
    try with_reducible rfl
  try simp only [Act.put, List.setIfInBounds_toArray, List.set_cons_zero, List.set_cons_succ]
  refine wpAnyH_take (i := 13) (oi := { dst := some 10, op := Op.assign (Operand.tmp 29), type := 4, pos := "digest.go:184", after := #[{ on := 12, ground := Ground.data }, { on := 9, ground := Ground.chain }, { on := 0, ground := Ground.phase }, { on := 1, ground := Ground.phase }, { on := 2, ground := Ground.phase }, { on := 3, ground := Ground.phase }, { on := 4, ground := Ground.phase }, { on := 5, ground := Ground.phase }, { on := 6, ground := Ground.phase }, { on := 7, ground := Ground.phase }, { on := 8, ground := Ground.phase }, { on := 9, ground := Ground.phase }, { on := 10, ground := Ground.phase }, { on := 11, ground := Ground.phase }, { on := 12, ground := Ground.phase }], guard := none }) (v := ?v13_14) rfl (by kernel_rfl) (by kernel_rfl) (by kernel_rfl) (fun _ _ _ h => h) (Or.inl ⟨by rfl, ?h13_14⟩) (by assumption) ?r13_14
  case h13_14 =>
    intro W hSW
    try dsimp only at hSW
    go_simp
    try with_reducible rfl
  try simp only [Act.put, List.setIfInBounds_toArray, List.set_cons_zero, List.set_cons_succ]
  refine wpAnyH_done (by kernel_rfl) ?_ _
  go_wp2_with fail
  go_ret
  exact ⟨rfl, hb2.trans (hv0.mono hb2.size)⟩
set_option maxRecDepth 100000 in
set_option maxHeartbeats 1000000 in
theorem verify_yes (n i : Int) (m : Nat) (r d : List UInt8) (P : Value) (w : World) (L : List (List UInt8)) (x : List UInt8) (hL : L[m]? = some x) (hx : x.length ≤ 1000) (hm : m ≤ 64) (hd : d.length = 16) (hr : r.length = 16) (hT : Tabs w)
    (H : ∀ W, Below w.heap.size w W → Calls Tryd.prog 49 #[.int .i64 n, .int .i64 i, dv d, P] W fun e W' => ∃ A' c' xs, e = .returned (.slice A' (m + 1) c') ∧ Below W.heap.size W W' ∧ W'.ownsRow W.heap.size 22 1 (.slice A' (m + 1) c') (m + 1) xs ∧ RowsJ W' A' xs L) :
    Calls Tryd.prog 26 #[dv r, .int .i64 n, .int .i64 i, dv d, P] w fun e w' => e = .returned (.bool (Mk.short x == r)) ∧ Below w.heap.size w w' := by
  obtain ⟨M, hM⟩ : ∃ M, m + 1 = M := ⟨_, rfl⟩
  have h2 := rows2 w 30 30 (bvs r) (bvs d)
  have rd1 := h2.1
  have rd2 := h2.2
  have hbw : Below w.heap.size w ((w.alloc (.cells (bvs r).toArray 30)).alloc (.cells (bvs d).toArray 30)) := ((Below.refl _ w).alloc (Nat.le_refl _) _).alloc (by rw [alloc_size1]; omega) _
  have hw1 : IntKind.i64.wrap ((M : Int) - 1) = (m : Int) := by rw [← hM]; have := IntWalk.i64_in (m : Int) (by omega); rw [show ((m + 1 : Nat) : Int) - 1 = (m : Int) from by omega]; exact this
  have hmM : (m : Int) < (M : Int) := by omega
  have HMM : Hid (m < M) := Lib.hid (by omega)
  have hsx := Mk.short_len x
  obtain ⟨q, hq⟩ : ∃ q, (Mk.short x == r) = q := ⟨_, rfl⟩
  have heq : ∀ W, (binOp .eql 30 (.agg (bvs (Mk.short x)).toArray) (.agg (bvs r).toArray)).run Tryd.prog W = .ok (.bool q) W := fun W => by rw [← hq]; exact run_eql_digE W hsx hr
  have HSH := Lib.hid (fun (A' : Option Addr) (N' c' : Nat) (hN : N' = x.length) (W : World) (hr : Rd W W.heap.size 1 A' N' (bvs x)) (hT : Tabs W) => short_any A' N' c' x hN.symm (by omega) W.heap.size W hr (Nat.le_refl _) hT)
  rw [hq]
  generalize Mk.short x = sx at *
  have HR := Lib.hid hr
  have HM := Lib.hid hM
  have HH := Lib.hid H
  clear h2 hq hsx hM H hr
  go_enter Tryd.func26, Tryd.ntmps26
  go_wp2_with (first
    | (refine wpList_loadRow rfl _ (.tmp 8) rfl rd2 rfl Tryd.underlying30 (by rw [bvs_len, hd]; exact size16) ?_)
    | (go_at_call 49; refine (HH.out _ hbw).mono ?_; rintro e w2 ⟨A2, c2, xs, rfl, b2, own2, RJ⟩; have RJ' := Lib.hid RJ; clear RJ; have rr := Rd.of_own own2; rw [HM.out] at rr own2; rw [HM.out])
    | fail)
  have hb2 : Below w.heap.size w w2 := hbw.trans (b2.mono hbw.size)
  have r1 : IsRow w2 w.heap.size 30 (bvs r) := rd1.below' b2
  obtain ⟨g, off, rfl, hg, hcell⟩ := rr.2 (by have := HMM.out; omega)
  obtain ⟨A', N', c', hxm, hN, rdx, _⟩ := RJ'.out.2 m x hL
  have hcm := hcell m _ hxm
  have hne : ∀ W, (binOp .neq 48 (.slice (some ⟨g, off, none⟩) M c2) (.slice none 0 0)).run Tryd.prog W = .ok (.bool true) W := fun W => run_neq_slice_nil_any (P := Tryd.prog) W 48 22 (some ⟨g, off, none⟩) M c2 0 0 Tryd.underlying48
  have HC := Lib.hid hcm
  have HS := Lib.hid (fun (W : World) (h : Below w2.heap.size w2 W) => HSH.out A' N' c' hN W ((rdx.below h).more h.size) ((hT.below hb2).below h))
  clear hcm hcell hxm hN
  have hv0 : Below w2.heap.size w2 w2.drew := (Below.refl _ _).drew
  refine wp_region_held_drew (S := fun W => Below w2.heap.size w2 W) (by kernel_rfl) (hv0) (fun hHeld => ?_)
  refine wpAnyH_take (i := 0) (oi := { dst := some 17, op := Op.move (Operand.tmp 11), type := 48, pos := "digest.go:184", after := #[], guard := none }) (v := ?v0_1) rfl (by kernel_rfl) (by kernel_rfl) (by kernel_rfl) (fun _ _ _ h => h) (Or.inl ⟨by rfl, ?h0_1⟩) (by assumption) ?r0_1
  case h0_1 =>
    intro W hSW
    try dsimp only at hSW
    go_simp
    try with_reducible rfl
  try simp only [Act.put, List.setIfInBounds_toArray, List.set_cons_zero, List.set_cons_succ]
  refine wpAnyH_take (i := 1) (oi := { dst := some 18, op := Op.binOp BinOp.neq 48 (Operand.tmp 17) (Operand.const (Value.slice none 0 0)) 48, type := 4, pos := "digest.go:184", after := #[{ on := 0, ground := Ground.data }], guard := none }) (v := ?v1_2) rfl (by kernel_rfl) (by kernel_rfl) (by kernel_rfl) (fun _ _ _ h => h) (Or.inl ⟨by rfl, ?h1_2⟩) (by assumption) ?r1_2
  case h1_2 =>
    intro W hSW
    try dsimp only at hSW
    go_simp
    try with_reducible rfl
  try simp only [Act.put, List.setIfInBounds_toArray, List.set_cons_zero, List.set_cons_succ]
  refine wpAnyH_take (i := 2) (oi := { dst := some 19, op := Op.move (Operand.tmp 18), type := 4, pos := "digest.go:184", after := #[{ on := 1, ground := Ground.data }], guard := none }) (v := ?v2_3) rfl (by kernel_rfl) (by kernel_rfl) (by kernel_rfl) (fun _ _ _ h => h) (Or.inl ⟨by rfl, ?h2_3⟩) (by assumption) ?r2_3
  case h2_3 =>
    intro W hSW
    try dsimp only at hSW
    go_simp
    try with_reducible rfl
  try simp only [Act.put, List.setIfInBounds_toArray, List.set_cons_zero, List.set_cons_succ]
  refine wpAnyH_take (i := 3) (oi := { dst := some 20, op := Op.move (Operand.tmp 11), type := 48, pos := "digest.go:184", after := #[{ on := 2, ground := Ground.guard }], guard := some (2, true) }) (v := ?v3_4) rfl (by kernel_rfl) (by kernel_rfl) (by kernel_rfl) (fun _ _ _ h => h) (Or.inl ⟨by rfl, ?h3_4⟩) (by assumption) ?r3_4
  case h3_4 =>
    intro W hSW
    try dsimp only at hSW
    go_simp
    try with_reducible rfl
  try simp only [Act.put, List.setIfInBounds_toArray, List.set_cons_zero, List.set_cons_succ]
  refine wpAnyH_take (i := 4) (oi := { dst := some 21, op := Op.move (Operand.tmp 11), type := 48, pos := "digest.go:184", after := #[{ on := 2, ground := Ground.guard }], guard := some (2, true) }) (v := ?v4_5) rfl (by kernel_rfl) (by kernel_rfl) (by kernel_rfl) (fun _ _ _ h => h) (Or.inl ⟨by rfl, ?h4_5⟩) (by assumption) ?r4_5
  case h4_5 =>
    intro W hSW
    try dsimp only at hSW
    go_simp
    try with_reducible rfl
  try simp only [Act.put, List.setIfInBounds_toArray, List.set_cons_zero, List.set_cons_succ]
  refine wpAnyH_take (i := 5) (oi := { dst := some 22, op := Op.call { callee := Callee.builtin Builtin.len, args := #[Operand.tmp 21], argTypes := #[48] }, type := 3, pos := "digest.go:184", after := #[{ on := 4, ground := Ground.data }, { on := 2, ground := Ground.guard }], guard := some (2, true) }) (v := ?v5_6) rfl (by kernel_rfl) (by kernel_rfl) (by kernel_rfl) (fun _ _ _ h => h) (Or.inl ⟨by rfl, ?h5_6⟩) (by assumption) ?r5_6
  case h5_6 =>
    intro W hSW
    try dsimp only at hSW
    go_simp
    try with_reducible rfl
  try simp only [Act.put, List.setIfInBounds_toArray, List.set_cons_zero, List.set_cons_succ]
  refine wpAnyH_take (i := 6) (oi := { dst := some 23, op := Op.binOp BinOp.sub 3 (Operand.tmp 22) (Operand.const (Value.int IntKind.i64 1)) 3, type := 3, pos := "digest.go:184", after := #[{ on := 5, ground := Ground.data }, { on := 2, ground := Ground.guard }], guard := some (2, true) }) (v := ?v6_7) rfl (by kernel_rfl) (by kernel_rfl) (by kernel_rfl) (fun _ _ _ h => h) (Or.inl ⟨by rfl, ?h6_7⟩) (by assumption) ?r6_7
  case h6_7 =>
    intro W hSW
    try dsimp only at hSW
    go_simp
    try with_reducible rfl
  try simp only [Act.put, List.setIfInBounds_toArray, List.set_cons_zero, List.set_cons_succ]
  refine wpAnyH_take (i := 7) (oi := { dst := some 24, op := Op.indexAddr 48 (Operand.tmp 20) (Operand.tmp 23), type := 0, pos := "digest.go:184", after := #[{ on := 3, ground := Ground.data }, { on := 6, ground := Ground.data }, { on := 2, ground := Ground.guard }], guard := some (2, true) }) (v := ?v7_8) rfl (by kernel_rfl) (by kernel_rfl) (by kernel_rfl) (fun _ _ _ h => h) (Or.inl ⟨by rfl, ?h7_8⟩) (by assumption) ?r7_8
  case h7_8 =>
    intro W hSW
    try dsimp only at hSW
    go_simp
    try with_reducible rfl
  try simp only [Act.put, List.setIfInBounds_toArray, List.set_cons_zero, List.set_cons_succ]
  refine wpAnyH_take (i := 8) (oi := { dst := some 25, op := Op.load 22 (Operand.tmp 24), type := 22, pos := "digest.go:184", after := #[{ on := 7, ground := Ground.data }, { on := 2, ground := Ground.guard }], guard := some (2, true) }) (v := ?v8_9) rfl (by kernel_rfl) (by kernel_rfl) (by kernel_rfl) (fun _ _ _ h => h) (Or.inl ⟨by rfl, ?h8_9⟩) (by assumption) ?r8_9
  case h8_9 =>
    intro W hSW
    try dsimp only at hSW
    have hcc := (hSW.cell (p := ⟨g, off + m, none⟩) hg).trans HC.out
    go_simp
    try with_reducible rfl
  try simp only [Act.put, List.setIfInBounds_toArray, List.set_cons_zero, List.set_cons_succ]
  refine wpAnyH_take (i := 10) (oi := { dst := some 27, op := Op.load 30 (Operand.tmp 5), type := 30, pos := "digest.go:184", after := #[{ on := 2, ground := Ground.guard }], guard := some (2, true) }) (v := dv r) rfl (by kernel_rfl) (by kernel_rfl) (by kernel_rfl) (fun _ _ _ h => h) (yieldsIf_load_mid rfl _ (.tmp 5) rfl w.heap.size 0 rfl (bvs r) _ (fun W hW => fun j v hv => by rw [(r1.below' hW).cell, Nat.zero_add]; exact hv) Tryd.underlying30 rfl (by rw [bvs_len, HR.out]; exact size16)) (by assumption) ?_
  try simp only [Act.put, List.setIfInBounds_toArray, List.set_cons_zero, List.set_cons_succ]
  refine wpAnyH_ready (rs := [9]) (by kernel_rfl) (by simp) ?_
  refine AllReadyH.cons (o := { dst := some 26, op := Op.call { callee := Callee.value (Operand.func 36), args := #[Operand.tmp 25], argTypes := #[22] }, type := 30, pos := "digest.go:184", after := #[{ on := 8, ground := Ground.data }, { on := 2, ground := Ground.chain }, { on := 2, ground := Ground.guard }], guard := some (2, true) }) rfl (fun K hK => ?_) AllReadyH.nil
  go_simp
  refine (HS.out _ hv0).mono ?_
  rintro e w3 ⟨rfl, b3⟩
  have hv3 : Below w2.heap.size w2 w3 := hv0.trans (b3.mono hv0.size)
  go_wp2_with fail
  refine hK.out _ _ (hv3) (fun hHeld => ?_)
  clear hK K
  try simp only [Act.put, List.setIfInBounds_toArray, List.set_cons_zero, List.set_cons_succ]
  refine wpAnyH_take (i := 11) (oi := { dst := some 28, op := Op.binOp BinOp.eql 30 (Operand.tmp 26) (Operand.tmp 27) 30, type := 4, pos := "digest.go:184", after := #[{ on := 9, ground := Ground.data }, { on := 10, ground := Ground.data }, { on := 2, ground := Ground.guard }], guard := some (2, true) }) (v := ?v11_11) rfl (by kernel_rfl) (by kernel_rfl) (by kernel_rfl) (fun _ _ _ h => h) (Or.inl ⟨by rfl, ?h11_11⟩) (by assumption) ?r11_11
  case h11_11 =>
    intro W hSW
    try dsimp only at hSW
    go_simp
    try with_reducible rfl
  try simp only [Act.put, List.setIfInBounds_toArray, List.set_cons_zero, List.set_cons_succ]
  refine wpAnyH_take (i := 12) (oi := { dst := some 29, op := Op.pick (Operand.tmp 19) (Operand.tmp 28) (Operand.const (Value.bool false)), type := 4, pos := "digest.go:184", after := #[{ on := 2, ground := Ground.data }, { on := 11, ground := Ground.data }], guard := none }) (v := ?v12_12) rfl (by kernel_rfl) (by kernel_rfl) (by kernel_rfl) (fun _ _ _ h => h) (Or.inl ⟨by rfl, ?h12_12⟩) (by assumption) ?r12_12
  case h12_12 =>
    intro W hSW
    try dsimp only at hSW
    go_simp
    try with_reducible rfl
  try simp only [Act.put, List.setIfInBounds_toArray, List.set_cons_zero, List.set_cons_succ]
  refine wpAnyH_take (i := 13) (oi := { dst := some 10, op := Op.assign (Operand.tmp 29), type := 4, pos := "digest.go:184", after := #[{ on := 12, ground := Ground.data }, { on := 9, ground := Ground.chain }, { on := 0, ground := Ground.phase }, { on := 1, ground := Ground.phase }, { on := 2, ground := Ground.phase }, { on := 3, ground := Ground.phase }, { on := 4, ground := Ground.phase }, { on := 5, ground := Ground.phase }, { on := 6, ground := Ground.phase }, { on := 7, ground := Ground.phase }, { on := 8, ground := Ground.phase }, { on := 9, ground := Ground.phase }, { on := 10, ground := Ground.phase }, { on := 11, ground := Ground.phase }, { on := 12, ground := Ground.phase }], guard := none }) (v := ?v13_13) rfl (by kernel_rfl) (by kernel_rfl) (by kernel_rfl) (fun _ _ _ h => h) (Or.inl ⟨by rfl, ?h13_13⟩) (by assumption) ?r13_13
  case h13_13 =>
    intro W hSW
    try dsimp only at hSW
    go_simp
    try with_reducible rfl
  try simp only [Act.put, List.setIfInBounds_toArray, List.set_cons_zero, List.set_cons_succ]
  refine wpAnyH_done (by kernel_rfl) ?_ _
  go_wp2_with fail
  go_ret
  exact ⟨rfl, hb2.trans (hv3.mono hb2.size)⟩
end Go.Proofs.YtfnbcchmembomaaDoor
