/- The reference's Verify: a walk of its text. -/
import Derived.Test.YtfnbcchmembomaaDoorRefInA
import Derived.Test.YtfnbcchmembomaaDoorVerify2
namespace Go.Proofs.YtfnbcchmembomaaDoor
set_option linter.unusedVariables false
set_option linter.unusedSimpArgs false
open Go.RowKit
set_option maxRecDepth 100000 in
set_option maxHeartbeats 1000000 in
theorem refVerify_no (n i : Int) (r d : List UInt8) (P : Value) (w : World)
    (H : ∀ W, Below w.heap.size w W → Calls Tryd.prog 24 #[.int .i64 n, .int .i64 i, dv d, P] W (InNo W)) (hd : d.length = 16) :
    Calls Tryd.prog 27 #[dv r, .int .i64 n, .int .i64 i, dv d, P] w fun e w' => e = .returned (.bool false) ∧ Below w.heap.size w w' := by
  have h2 := rows2 w 30 30 (bvs r) (bvs d)
  have rd1 := h2.1
  have rd2 := h2.2
  have hbw : Below w.heap.size w ((w.alloc (.cells (bvs r).toArray 30)).alloc (.cells (bvs d).toArray 30)) := ((Below.refl _ w).alloc (Nat.le_refl _) _).alloc (by rw [alloc_size1]; omega) _
  have HH := Lib.hid H
  clear h2 H rd1
  go_enter Tryd.func27, Tryd.ntmps27
  go_wp2_with (first
    | (refine wpList_loadRow rfl _ (.tmp 8) rfl rd2 rfl Tryd.underlying30 (by rw [bvs_len, hd]; exact size16) ?_)
    | (go_at_call 24; refine (HH.out _ hbw).mono ?_; rintro e w2 ⟨v2, rfl, b2⟩)
    | fail)
  have hb2 : Below w.heap.size w w2 := hbw.trans (b2.mono hbw.size)
  have hv0 : Below w2.heap.size w2 w2.drew := (Below.refl _ _).drew
  refine wp_region_held_drew (S := fun W => Below w2.heap.size w2 W) (by kernel_rfl) (hv0) (fun hHeld => ?_)
  refine wpAnyH_take (i := 0) (oi := { dst := some 21, op := Op.move (Operand.tmp 12), type := 4, pos := "ref.go:181", after := #[], guard := none }) (v := ?v0_1) rfl (by kernel_rfl) (by kernel_rfl) (by kernel_rfl) (fun _ _ _ h => h) (Or.inl ⟨by rfl, ?h0_1⟩) (by assumption) ?r0_1
  case h0_1 =>
    intro W hSW
    try dsimp only at hSW
    go_simp
    try with_reducible rfl
  try simp only [Act.put, List.setIfInBounds_toArray, List.set_cons_zero, List.set_cons_succ]
  refine wpAnyH_take (i := 1) (oi := { dst := some 22, op := Op.move (Operand.tmp 21), type := 4, pos := "ref.go:181", after := #[{ on := 0, ground := Ground.data }], guard := none }) (v := ?v1_2) rfl (by kernel_rfl) (by kernel_rfl) (by kernel_rfl) (fun _ _ _ h => h) (Or.inl ⟨by rfl, ?h1_2⟩) (by assumption) ?r1_2
  case h1_2 =>
    intro W hSW
    try dsimp only at hSW
    go_simp
    try with_reducible rfl
  try simp only [Act.put, List.setIfInBounds_toArray, List.set_cons_zero, List.set_cons_succ]
  refine wpAnyH_take (i := 2) (oi := { dst := some 23, op := Op.move (Operand.tmp 11), type := 48, pos := "ref.go:181", after := #[{ on := 1, ground := Ground.guard }], guard := some (1, true) }) (v := undef) rfl (by kernel_rfl) (by kernel_rfl) (by kernel_rfl) (fun _ _ _ h => h) (Or.inr ⟨by rfl, rfl⟩) (by assumption) ?_
  try simp only [Act.put, List.setIfInBounds_toArray, List.set_cons_zero, List.set_cons_succ]
  refine wpAnyH_take (i := 3) (oi := { dst := some 24, op := Op.move (Operand.tmp 11), type := 48, pos := "ref.go:181", after := #[{ on := 1, ground := Ground.guard }], guard := some (1, true) }) (v := undef) rfl (by kernel_rfl) (by kernel_rfl) (by kernel_rfl) (fun _ _ _ h => h) (Or.inr ⟨by rfl, rfl⟩) (by assumption) ?_
  try simp only [Act.put, List.setIfInBounds_toArray, List.set_cons_zero, List.set_cons_succ]
  refine wpAnyH_take (i := 4) (oi := { dst := some 25, op := Op.call { callee := Callee.builtin Builtin.len, args := #[Operand.tmp 24], argTypes := #[48] }, type := 3, pos := "ref.go:181", after := #[{ on := 3, ground := Ground.data }, { on := 1, ground := Ground.guard }], guard := some (1, true) }) (v := undef) rfl (by kernel_rfl) (by kernel_rfl) (by kernel_rfl) (fun _ _ _ h => h) (Or.inr ⟨by rfl, rfl⟩) (by assumption) ?_
  try simp only [Act.put, List.setIfInBounds_toArray, List.set_cons_zero, List.set_cons_succ]
  refine wpAnyH_take (i := 5) (oi := { dst := some 26, op := Op.binOp BinOp.sub 3 (Operand.tmp 25) (Operand.const (Value.int IntKind.i64 1)) 3, type := 3, pos := "ref.go:181", after := #[{ on := 4, ground := Ground.data }, { on := 1, ground := Ground.guard }], guard := some (1, true) }) (v := undef) rfl (by kernel_rfl) (by kernel_rfl) (by kernel_rfl) (fun _ _ _ h => h) (Or.inr ⟨by rfl, rfl⟩) (by assumption) ?_
  try simp only [Act.put, List.setIfInBounds_toArray, List.set_cons_zero, List.set_cons_succ]
  refine wpAnyH_take (i := 6) (oi := { dst := some 27, op := Op.indexAddr 48 (Operand.tmp 23) (Operand.tmp 26), type := 0, pos := "ref.go:181", after := #[{ on := 2, ground := Ground.data }, { on := 5, ground := Ground.data }, { on := 1, ground := Ground.guard }], guard := some (1, true) }) (v := undef) rfl (by kernel_rfl) (by kernel_rfl) (by kernel_rfl) (fun _ _ _ h => h) (Or.inr ⟨by rfl, rfl⟩) (by assumption) ?_
  try simp only [Act.put, List.setIfInBounds_toArray, List.set_cons_zero, List.set_cons_succ]
  refine wpAnyH_take (i := 7) (oi := { dst := some 28, op := Op.load 22 (Operand.tmp 27), type := 22, pos := "ref.go:181", after := #[{ on := 6, ground := Ground.data }, { on := 1, ground := Ground.guard }], guard := some (1, true) }) (v := undef) rfl (by kernel_rfl) (by kernel_rfl) (by kernel_rfl) (fun _ _ _ h => h) (Or.inr ⟨by rfl, rfl⟩) (by assumption) ?_
  try simp only [Act.put, List.setIfInBounds_toArray, List.set_cons_zero, List.set_cons_succ]
  refine wpAnyH_take (i := 8) (oi := { dst := some 29, op := Op.call { callee := Callee.value (Operand.func 25), args := #[Operand.tmp 28], argTypes := #[22] }, type := 30, pos := "ref.go:181", after := #[{ on := 7, ground := Ground.data }, { on := 1, ground := Ground.chain }, { on := 1, ground := Ground.guard }], guard := some (1, true) }) (v := undef) rfl (by kernel_rfl) (by kernel_rfl) (by kernel_rfl) (fun _ _ _ h => h) (Or.inr ⟨by rfl, rfl⟩) (by assumption) ?_
  try simp only [Act.put, List.setIfInBounds_toArray, List.set_cons_zero, List.set_cons_succ]
  refine wpAnyH_take (i := 9) (oi := { dst := some 30, op := Op.load 30 (Operand.tmp 5), type := 30, pos := "ref.go:181", after := #[{ on := 1, ground := Ground.guard }], guard := some (1, true) }) (v := undef) rfl (by kernel_rfl) (by kernel_rfl) (by kernel_rfl) (fun _ _ _ h => h) (Or.inr ⟨by rfl, rfl⟩) (by assumption) ?_
  try simp only [Act.put, List.setIfInBounds_toArray, List.set_cons_zero, List.set_cons_succ]
  refine wpAnyH_take (i := 10) (oi := { dst := some 31, op := Op.binOp BinOp.eql 30 (Operand.tmp 29) (Operand.tmp 30) 30, type := 4, pos := "ref.go:181", after := #[{ on := 8, ground := Ground.data }, { on := 9, ground := Ground.data }, { on := 1, ground := Ground.guard }], guard := some (1, true) }) (v := undef) rfl (by kernel_rfl) (by kernel_rfl) (by kernel_rfl) (fun _ _ _ h => h) (Or.inr ⟨by rfl, rfl⟩) (by assumption) ?_
  try simp only [Act.put, List.setIfInBounds_toArray, List.set_cons_zero, List.set_cons_succ]
  refine wpAnyH_take (i := 11) (oi := { dst := some 32, op := Op.pick (Operand.tmp 22) (Operand.tmp 31) (Operand.const (Value.bool false)), type := 4, pos := "ref.go:181", after := #[{ on := 1, ground := Ground.data }, { on := 10, ground := Ground.data }], guard := none }) (v := ?v11_12) rfl (by kernel_rfl) (by kernel_rfl) (by kernel_rfl) (fun _ _ _ h => h) (Or.inl ⟨by rfl, ?h11_12⟩) (by assumption) ?r11_12
  case h11_12 =>
    intro W hSW
    try dsimp only at hSW
    go_simp
    try with_reducible rfl
  try simp only [Act.put, List.setIfInBounds_toArray, List.set_cons_zero, List.set_cons_succ]
  refine wpAnyH_take (i := 12) (oi := { dst := some 10, op := Op.assign (Operand.tmp 32), type := 4, pos := "ref.go:181", after := #[{ on := 11, ground := Ground.data }, { on := 8, ground := Ground.chain }, { on := 0, ground := Ground.phase }, { on := 1, ground := Ground.phase }, { on := 2, ground := Ground.phase }, { on := 3, ground := Ground.phase }, { on := 4, ground := Ground.phase }, { on := 5, ground := Ground.phase }, { on := 6, ground := Ground.phase }, { on := 7, ground := Ground.phase }, { on := 8, ground := Ground.phase }, { on := 9, ground := Ground.phase }, { on := 10, ground := Ground.phase }, { on := 11, ground := Ground.phase }], guard := none }) (v := ?v12_13) rfl (by kernel_rfl) (by kernel_rfl) (by kernel_rfl) (fun _ _ _ h => h) (Or.inl ⟨by rfl, ?h12_13⟩) (by assumption) ?r12_13
  case h12_13 =>
    intro W hSW
    try dsimp only at hSW
    go_simp
    try with_reducible rfl
  try simp only [Act.put, List.setIfInBounds_toArray, List.set_cons_zero, List.set_cons_succ]
  refine wpAnyH_done (by kernel_rfl) ?_ _
  go_wp2_with fail
  go_ret
  exact ⟨rfl, hb2.trans (hv0.mono hb2.size)⟩
set_option maxRecDepth 100000 in
set_option maxHeartbeats 1000000 in
theorem refVerify_yes (n i : Int) (m : Nat) (r d : List UInt8) (P : Value) (w : World) (L : List (List UInt8)) (x : List UInt8) (hL : L[m]? = some x) (hx : x.length ≤ 1000) (hm : m ≤ 64) (hd : d.length = 16) (hr : r.length = 16) (hT : RTab w)
    (H : ∀ W, Below w.heap.size w W → Calls Tryd.prog 24 #[.int .i64 n, .int .i64 i, dv d, P] W (InOk L m W)) :
    Calls Tryd.prog 27 #[dv r, .int .i64 n, .int .i64 i, dv d, P] w fun e w' => e = .returned (.bool (Mk.short x == r)) ∧ Below w.heap.size w w' := by
  obtain ⟨M, hM⟩ : ∃ M, m + 1 = M := ⟨_, rfl⟩
  have h2 := rows2 w 30 30 (bvs r) (bvs d)
  have rd1 := h2.1
  have rd2 := h2.2
  have hbw : Below w.heap.size w ((w.alloc (.cells (bvs r).toArray 30)).alloc (.cells (bvs d).toArray 30)) := ((Below.refl _ w).alloc (Nat.le_refl _) _).alloc (by rw [alloc_size1]; omega) _
  have hw1 : IntKind.i64.wrap ((M : Int) - 1) = (m : Int) := by rw [← hM]; have := IntWalk.i64_in (m : Int) (by omega); rw [show ((m + 1 : Nat) : Int) - 1 = (m : Int) from by omega]; exact this
  have hmM : (m : Int) < (M : Int) := by omega
  have HMM : Hid (m < M) := Lib.hid (by omega)
  have hsx := Mk.short_len x
  obtain ⟨q, hq⟩ : ∃ q, (Mk.short x == r) = q := ⟨_, rfl⟩
  have heq : ∀ W, (binOp .eql 30 (.agg (bvs (Mk.short x)).toArray) (.agg (bvs r).toArray)).run Tryd.prog W = .ok (.bool q) W := fun W => by rw [← hq]; exact run_eql_digE W hsx hr
  have HSH := Lib.hid (fun (A' : Option Addr) (N' c' : Nat) (hN : N' = x.length) (W : World) (hr : Rd W W.heap.size 1 A' N' (bvs x)) (hT : RTab W) => refShort_any A' N' c' x hN.symm (by omega) W.heap.size W hr (Nat.le_refl _) hT)
  rw [hq]
  generalize Mk.short x = sx at *
  have HR := Lib.hid hr
  have HM := Lib.hid hM
  have HH := Lib.hid H
  clear h2 hq hsx hM H hr
  go_enter Tryd.func27, Tryd.ntmps27
  go_wp2_with (first
    | (refine wpList_loadRow rfl _ (.tmp 8) rfl rd2 rfl Tryd.underlying30 (by rw [bvs_len, hd]; exact size16) ?_)
    | (go_at_call 24; refine (HH.out _ hbw).mono ?_; rintro e w2 ⟨A2, c2, xs, rfl, b2, own2, RJ⟩; have RJ' := Lib.hid RJ; clear RJ; have rr := Rd.of_own own2; rw [HM.out] at rr own2; rw [HM.out])
    | fail)
  have hb2 : Below w.heap.size w w2 := hbw.trans (b2.mono hbw.size)
  have r1 : IsRow w2 w.heap.size 30 (bvs r) := rd1.below' b2
  obtain ⟨g, off, rfl, hg, hcell⟩ := rr.2 (by have := HMM.out; omega)
  obtain ⟨A', N', c', hxm, hN, rdx, _⟩ := RJ'.out.2 m x hL
  have hcm := hcell m _ hxm
  have HC := Lib.hid hcm
  have HS := Lib.hid (fun (W : World) (h : Below w2.heap.size w2 W) => HSH.out A' N' c' hN W ((rdx.below h).more h.size) ((hT.below hb2).below h))
  clear hcm hcell hxm hN
  have hv0 : Below w2.heap.size w2 w2.drew := (Below.refl _ _).drew
  refine wp_region_held_drew (S := fun W => Below w2.heap.size w2 W) (by kernel_rfl) (hv0) (fun hHeld => ?_)
  refine wpAnyH_take (i := 0) (oi := { dst := some 21, op := Op.move (Operand.tmp 12), type := 4, pos := "ref.go:181", after := #[], guard := none }) (v := ?v0_1) rfl (by kernel_rfl) (by kernel_rfl) (by kernel_rfl) (fun _ _ _ h => h) (Or.inl ⟨by rfl, ?h0_1⟩) (by assumption) ?r0_1
  case h0_1 =>
    intro W hSW
    try dsimp only at hSW
    go_simp
    try with_reducible rfl
  try simp only [Act.put, List.setIfInBounds_toArray, List.set_cons_zero, List.set_cons_succ]
  refine wpAnyH_take (i := 1) (oi := { dst := some 22, op := Op.move (Operand.tmp 21), type := 4, pos := "ref.go:181", after := #[{ on := 0, ground := Ground.data }], guard := none }) (v := ?v1_2) rfl (by kernel_rfl) (by kernel_rfl) (by kernel_rfl) (fun _ _ _ h => h) (Or.inl ⟨by rfl, ?h1_2⟩) (by assumption) ?r1_2
  case h1_2 =>
    intro W hSW
    try dsimp only at hSW
    go_simp
    try with_reducible rfl
  try simp only [Act.put, List.setIfInBounds_toArray, List.set_cons_zero, List.set_cons_succ]
  refine wpAnyH_take (i := 2) (oi := { dst := some 23, op := Op.move (Operand.tmp 11), type := 48, pos := "ref.go:181", after := #[{ on := 1, ground := Ground.guard }], guard := some (1, true) }) (v := ?v2_3) rfl (by kernel_rfl) (by kernel_rfl) (by kernel_rfl) (fun _ _ _ h => h) (Or.inl ⟨by rfl, ?h2_3⟩) (by assumption) ?r2_3
  case h2_3 =>
    intro W hSW
    try dsimp only at hSW
    go_simp
    try with_reducible rfl
  try simp only [Act.put, List.setIfInBounds_toArray, List.set_cons_zero, List.set_cons_succ]
  refine wpAnyH_take (i := 3) (oi := { dst := some 24, op := Op.move (Operand.tmp 11), type := 48, pos := "ref.go:181", after := #[{ on := 1, ground := Ground.guard }], guard := some (1, true) }) (v := ?v3_4) rfl (by kernel_rfl) (by kernel_rfl) (by kernel_rfl) (fun _ _ _ h => h) (Or.inl ⟨by rfl, ?h3_4⟩) (by assumption) ?r3_4
  case h3_4 =>
    intro W hSW
    try dsimp only at hSW
    go_simp
    try with_reducible rfl
  try simp only [Act.put, List.setIfInBounds_toArray, List.set_cons_zero, List.set_cons_succ]
  refine wpAnyH_take (i := 4) (oi := { dst := some 25, op := Op.call { callee := Callee.builtin Builtin.len, args := #[Operand.tmp 24], argTypes := #[48] }, type := 3, pos := "ref.go:181", after := #[{ on := 3, ground := Ground.data }, { on := 1, ground := Ground.guard }], guard := some (1, true) }) (v := ?v4_5) rfl (by kernel_rfl) (by kernel_rfl) (by kernel_rfl) (fun _ _ _ h => h) (Or.inl ⟨by rfl, ?h4_5⟩) (by assumption) ?r4_5
  case h4_5 =>
    intro W hSW
    try dsimp only at hSW
    go_simp
    try with_reducible rfl
  try simp only [Act.put, List.setIfInBounds_toArray, List.set_cons_zero, List.set_cons_succ]
  refine wpAnyH_take (i := 5) (oi := { dst := some 26, op := Op.binOp BinOp.sub 3 (Operand.tmp 25) (Operand.const (Value.int IntKind.i64 1)) 3, type := 3, pos := "ref.go:181", after := #[{ on := 4, ground := Ground.data }, { on := 1, ground := Ground.guard }], guard := some (1, true) }) (v := ?v5_6) rfl (by kernel_rfl) (by kernel_rfl) (by kernel_rfl) (fun _ _ _ h => h) (Or.inl ⟨by rfl, ?h5_6⟩) (by assumption) ?r5_6
  case h5_6 =>
    intro W hSW
    try dsimp only at hSW
    go_simp
    try with_reducible rfl
  try simp only [Act.put, List.setIfInBounds_toArray, List.set_cons_zero, List.set_cons_succ]
  refine wpAnyH_take (i := 6) (oi := { dst := some 27, op := Op.indexAddr 48 (Operand.tmp 23) (Operand.tmp 26), type := 0, pos := "ref.go:181", after := #[{ on := 2, ground := Ground.data }, { on := 5, ground := Ground.data }, { on := 1, ground := Ground.guard }], guard := some (1, true) }) (v := ?v6_7) rfl (by kernel_rfl) (by kernel_rfl) (by kernel_rfl) (fun _ _ _ h => h) (Or.inl ⟨by rfl, ?h6_7⟩) (by assumption) ?r6_7
  case h6_7 =>
    intro W hSW
    try dsimp only at hSW
    go_simp
    try with_reducible rfl
  try simp only [Act.put, List.setIfInBounds_toArray, List.set_cons_zero, List.set_cons_succ]
  refine wpAnyH_take (i := 7) (oi := { dst := some 28, op := Op.load 22 (Operand.tmp 27), type := 22, pos := "ref.go:181", after := #[{ on := 6, ground := Ground.data }, { on := 1, ground := Ground.guard }], guard := some (1, true) }) (v := ?v7_8) rfl (by kernel_rfl) (by kernel_rfl) (by kernel_rfl) (fun _ _ _ h => h) (Or.inl ⟨by rfl, ?h7_8⟩) (by assumption) ?r7_8
  case h7_8 =>
    intro W hSW
    try dsimp only at hSW
    have hcc := (hSW.cell (p := ⟨g, off + m, none⟩) hg).trans HC.out
    go_simp
    try with_reducible rfl
  try simp only [Act.put, List.setIfInBounds_toArray, List.set_cons_zero, List.set_cons_succ]
  refine wpAnyH_take (i := 9) (oi := { dst := some 30, op := Op.load 30 (Operand.tmp 5), type := 30, pos := "ref.go:181", after := #[{ on := 1, ground := Ground.guard }], guard := some (1, true) }) (v := dv r) rfl (by kernel_rfl) (by kernel_rfl) (by kernel_rfl) (fun _ _ _ h => h) (yieldsIf_load_mid rfl _ (.tmp 5) rfl w.heap.size 0 rfl (bvs r) _ (fun W hW => fun j v hv => by rw [(r1.below' hW).cell, Nat.zero_add]; exact hv) Tryd.underlying30 rfl (by rw [bvs_len, HR.out]; exact size16)) (by assumption) ?_
  try simp only [Act.put, List.setIfInBounds_toArray, List.set_cons_zero, List.set_cons_succ]
  refine wpAnyH_ready (rs := [8]) (by kernel_rfl) (by simp) ?_
  refine AllReadyH.cons (o := { dst := some 29, op := Op.call { callee := Callee.value (Operand.func 25), args := #[Operand.tmp 28], argTypes := #[22] }, type := 30, pos := "ref.go:181", after := #[{ on := 7, ground := Ground.data }, { on := 1, ground := Ground.chain }, { on := 1, ground := Ground.guard }], guard := some (1, true) }) rfl (fun K hK => ?_) AllReadyH.nil
  go_simp
  refine (HS.out _ hv0).mono ?_
  rintro e w3 ⟨rfl, b3⟩
  have hv3 : Below w2.heap.size w2 w3 := hv0.trans (b3.mono hv0.size)
  go_wp2_with fail
  refine hK.out _ _ (hv3) (fun hHeld => ?_)
  clear hK K
  try simp only [Act.put, List.setIfInBounds_toArray, List.set_cons_zero, List.set_cons_succ]
  refine wpAnyH_take (i := 10) (oi := { dst := some 31, op := Op.binOp BinOp.eql 30 (Operand.tmp 29) (Operand.tmp 30) 30, type := 4, pos := "ref.go:181", after := #[{ on := 8, ground := Ground.data }, { on := 9, ground := Ground.data }, { on := 1, ground := Ground.guard }], guard := some (1, true) }) (v := ?v10_10) rfl (by kernel_rfl) (by kernel_rfl) (by kernel_rfl) (fun _ _ _ h => h) (Or.inl ⟨by rfl, ?h10_10⟩) (by assumption) ?r10_10
  case h10_10 =>
    intro W hSW
    try dsimp only at hSW
    go_simp
    try with_reducible rfl
  try simp only [Act.put, List.setIfInBounds_toArray, List.set_cons_zero, List.set_cons_succ]
  refine wpAnyH_take (i := 11) (oi := { dst := some 32, op := Op.pick (Operand.tmp 22) (Operand.tmp 31) (Operand.const (Value.bool false)), type := 4, pos := "ref.go:181", after := #[{ on := 1, ground := Ground.data }, { on := 10, ground := Ground.data }], guard := none }) (v := ?v11_11) rfl (by kernel_rfl) (by kernel_rfl) (by kernel_rfl) (fun _ _ _ h => h) (Or.inl ⟨by rfl, ?h11_11⟩) (by assumption) ?r11_11
  case h11_11 =>
    intro W hSW
    try dsimp only at hSW
    go_simp
    try with_reducible rfl
  try simp only [Act.put, List.setIfInBounds_toArray, List.set_cons_zero, List.set_cons_succ]
  refine wpAnyH_take (i := 12) (oi := { dst := some 10, op := Op.assign (Operand.tmp 32), type := 4, pos := "ref.go:181", after := #[{ on := 11, ground := Ground.data }, { on := 8, ground := Ground.chain }, { on := 0, ground := Ground.phase }, { on := 1, ground := Ground.phase }, { on := 2, ground := Ground.phase }, { on := 3, ground := Ground.phase }, { on := 4, ground := Ground.phase }, { on := 5, ground := Ground.phase }, { on := 6, ground := Ground.phase }, { on := 7, ground := Ground.phase }, { on := 8, ground := Ground.phase }, { on := 9, ground := Ground.phase }, { on := 10, ground := Ground.phase }, { on := 11, ground := Ground.phase }], guard := none }) (v := ?v12_12) rfl (by kernel_rfl) (by kernel_rfl) (by kernel_rfl) (fun _ _ _ h => h) (Or.inl ⟨by rfl, ?h12_12⟩) (by assumption) ?r12_12
  case h12_12 =>
    intro W hSW
    try dsimp only at hSW
    go_simp
    try with_reducible rfl
  try simp only [Act.put, List.setIfInBounds_toArray, List.set_cons_zero, List.set_cons_succ]
  refine wpAnyH_done (by kernel_rfl) ?_ _
  go_wp2_with fail
  go_ret
  exact ⟨rfl, hb2.trans (hv3.mono hb2.size)⟩
theorem refVerify_any (n i : Int) (hn : n ≤ 9223372036854775807) (r d : List UInt8) (hr : r.length = 16) (hd : d.length = 16) (A : Option Addr) (m c : Nat) (hmc : m ≤ c) (hc : c ≤ 9223372036854775807) (hm40 : m ≤ 1099511627776) (proof : List (List UInt8)) (hpl : proof.length = m) (hp : D16 proof) (B : Nat) (w : World) (hrd : Rd w B 16 A m (dvs proof)) (hB : B ≤ w.heap.size) (hT : RTab w) :
    Calls Tryd.prog 27 #[dv r, .int .i64 n, .int .i64 i, dv d, .slice A m c] w fun e w' => e = .returned (.bool (Mk.verify r n i d proof)) ∧ Below w.heap.size w w' := by
  by_cases hi : 0 ≤ i ∧ i < n
  · obtain ⟨n', rfl⟩ : ∃ n' : Nat, n = n' := ⟨n.toNat, by omega⟩
    obtain ⟨i', rfl⟩ : ∃ i' : Nat, i = i' := ⟨i.toNat, by omega⟩
    have hi' : i' < n' := by omega
    have hI := fun (W : World) (hW : Below w.heap.size w W) => refInputs_any d hd n' i' m c A proof hpl hp hi' (by omega) hmc hc hm40 B W (hrd.below (hW.mono hB)) (by have := hW.size; omega) (hT.below hW)
    unfold Mk.verify
    rw [if_pos hi, Int.toNat_natCast, Int.toNat_natCast]
    by_cases hl : m = (Mk.steps 0 n' i').length
    · rw [if_pos (by rw [hpl, hl])]
      have h63 := Mk.steps_63 0 n' i' (by omega)
      have hsl : (Mk.sides n' i').length = m := by rw [Mk.sides_count, hl]
      have hx := Mk.ins_get d (Mk.sides n' i') proof m m (Nat.le_refl _)
      have hle := Mk.climb_le d hd (Mk.sides n' i') proof hp m (by omega) (by omega)
      rw [Mk.climb_done _ _ _ _ (by omega)] at hx hle
      exact refVerify_yes n' i' m r d _ w _ _ hx hle (by omega) hd hr hT (fun W hW => (hI W hW).1 hl)
    · rw [if_neg (by rw [hpl]; exact hl)]
      exact refVerify_no n' i' r d _ w (fun W hW => (hI W hW).2 hl) hd
  · unfold Mk.verify
    rw [if_neg hi]
    exact refVerify_no n i r d _ w (fun W _ => refIn_out n i (by omega) d _ W) hd
end Go.Proofs.YtfnbcchmembomaaDoor
