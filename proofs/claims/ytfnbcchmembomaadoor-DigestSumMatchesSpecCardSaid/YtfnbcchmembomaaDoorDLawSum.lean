/- The walk of the statement DigestSumMatchesSpec: it returns true. Conditions: what the argument is, the tables of SHA-256. -/
import Derived.Test.YtfnbcchmembomaaDoorDSan
import Derived.Test.YtfnbcchmembomaaDoorHeld
namespace Go.Proofs.YtfnbcchmembomaaDoor
set_option linter.unusedVariables false
set_option linter.unusedSimpArgs false
open Go.RowKit
theorem run_eql_32 (w : World) {x y : List UInt8} (hx : x.length = 32) (hy : y.length = 32) :
    (binOp .eql 24 (.agg (bvs x).toArray) (.agg (bvs y).toArray)).run Tryd.prog w = .ok (.bool (x == y)) w := by
  rw [run_eql_struct]
  have h := run_equalIn_bytes (P := Tryd.prog) w 9998 24 5 32 Tryd.underlying24 Tryd.underlying5 sizeU8e x y hx hy
  have e : ∀ l : List UInt8, (l.map Extern.Stop.cell) = bvs l := fun l => rfl
  rw [e, e] at h
  rw [h]; rfl
set_option maxRecDepth 100000 in
set_option maxHeartbeats 1000000 in
theorem lawSum (A : Option Addr) (n c : Nat) (b : List UInt8) (hn : b.length = n) (hnc : n ≤ c) (hc : c ≤ 140737488355328) (w : World) (hr : Rd w w.heap.size 1 A n (bvs b)) (hT : Tabs w) (hR : RTab w) :
    Calls Tryd.prog 3 #[.slice A n c] w fun e w' => e = .returned (.bool true) ∧ Below w.heap.size w w' := by
  have HN := Lib.hid hn
  clear hn
  by_cases hbig : 3000 < n
  · have hb' : (3000 : Int) < n := by omega
    go_enter Tryd.func3, Tryd.ntmps3
    go_wp2_with (go_at_call 10; refine (sanity_any _ hT).mono ?_; rintro e w1 ⟨rfl, b1⟩)
    go_ret
    exact ⟨rfl, b1⟩
  have hb' : ¬ (3000 : Int) < n := by omega
  have hSL := Sha.sum_len b
  have hS1 := fun (W : World) (h : Below w.heap.size w W) => sum_any A n c b HN.out (by omega) w.heap.size W (hr.below h) h.size (hT.below h).k (hT.below h).s
  have hS2 := fun (W : World) (h : Below w.heap.size w W) (A' : Option Addr) (m' c' : Nat) (hm : m' = n) (hrd : Rd W W.heap.size 1 A' m' (bvs b)) => refSum_any A' m' c' b (by rw [hm]; exact HN.out) (by omega) W.heap.size W hrd (Nat.le_refl _) (hR.below h).r
  generalize Sha.sum b = s at *
  have hq : ∀ W, (binOp .eql 24 (.agg (bvs s).toArray) (.agg (bvs s).toArray)).run Tryd.prog W = .ok (.bool true) W := fun W => by rw [run_eql_32 W hSL hSL]; simp
  have HSL := Lib.hid hSL
  have HS1 := Lib.hid hS1
  have HS2 := Lib.hid hS2
  clear hS1 hS2 hSL
  go_enter Tryd.func3, Tryd.ntmps3
  go_wp2_with (first
    | (go_at_call 10; refine (sanity_any _ hT).mono ?_; rintro e w1 ⟨rfl, b1⟩; have rd1 := (hr.below b1).more b1.size)
    | (with_reducible refine wpList_toS rfl (.tmp 11) 22 9 5 rfl Tryd.underlying22 Tryd.underlying5 Tryd.underlying9 A n c rfl b rd1 ?_)
    | (go_at_call 11; refine (HS1.out _ b1).mono ?_; rintro e w2 ⟨rfl, b2⟩)
    | (refine wpList_allocRow rfl _ rfl _ info32 ?_; intro w3 r3 b3 z3; have HZ3 := Lib.hid z3; clear z3)
    | (refine wpList_storeRow rfl _ (.tmp 5) (.tmp 14) rfl r3 rfl rfl (by rw [bvs_len, HSL.out]; exact size32) (by rw [bvs_len, HSL.out, List.length_replicate]) (bvs_all _) ?_; intro w4 r4 g4 z4; have HZ4 := Lib.hid z4; clear z4)
    | fail)
  have hb2 : Below w.heap.size w w2 := b1.trans (b2.mono b1.size)
  have hb4 : Below w.heap.size w w4 := (hb2.trans (b3.mono hb2.size)).grown g4 (by have := hb2.size; have := b3.size; omega) (fun j hj => by have hj := Option.some.inj hj; have := hb2.size; omega)
  have rd4 := (hr.below hb4).more hb4.size
  have HNS : Hid ((⟨b.toArray⟩ : ByteArray).size = n) := Lib.hid (by rw [← HN.out]; simp [ByteArray.size])
  have hcv : Hid (∀ W, Below w4.heap.size w4 W → (convert 22 9 (.slice A n c)).run Tryd.prog W = .ok (.string ⟨b.toArray⟩) W) := fun W h => run_toS (P := Tryd.prog) W _ _ 5 Tryd.underlying22 Tryd.underlying5 Tryd.underlying9 A n c _ b (rd4.below h)
  clear hr rd1
  have hv0 : Below w4.heap.size w4 w4.drew := (Below.refl _ _).drew
  refine wp_region_held_drew (S := fun W => Below w4.heap.size w4 W) (by kernel_rfl) (hv0) (fun hHeld => ?_)
  refine wpAnyH_take (i := 0) (oi := { dst := some 15, op := Op.move (Operand.tmp 3), type := 4, pos := "law.go:27", after := #[], guard := none }) (v := ?v0_1) rfl (by kernel_rfl) (by kernel_rfl) (by kernel_rfl) (fun _ _ _ h => h) (Or.inl ⟨by rfl, ?h0_1⟩) (by assumption) ?r0_1
  case h0_1 =>
    intro W hSW
    try dsimp only at hSW
    go_simp
    try with_reducible rfl
  try simp only [Act.put, List.setIfInBounds_toArray, List.set_cons_zero, List.set_cons_succ]
  refine wpAnyH_take (i := 1) (oi := { dst := some 16, op := Op.move (Operand.tmp 15), type := 4, pos := "law.go:27", after := #[{ on := 0, ground := Ground.data }], guard := none }) (v := ?v1_2) rfl (by kernel_rfl) (by kernel_rfl) (by kernel_rfl) (fun _ _ _ h => h) (Or.inl ⟨by rfl, ?h1_2⟩) (by assumption) ?r1_2
  case h1_2 =>
    intro W hSW
    try dsimp only at hSW
    go_simp
    try with_reducible rfl
  try simp only [Act.put, List.setIfInBounds_toArray, List.set_cons_zero, List.set_cons_succ]
  refine wpAnyH_take (i := 2) (oi := { dst := some 17, op := Op.load 24 (Operand.tmp 5), type := 24, pos := "law.go:27", after := #[{ on := 1, ground := Ground.guard }], guard := some (1, true) }) (v := _) rfl (by kernel_rfl) (by kernel_rfl) (by kernel_rfl) (fun _ _ _ h => h) (yi_row rfl _ (.tmp 5) rfl rfl (fun W hW => r4.below' hW) Tryd.underlying24 (by rw [bvs_len, HSL.out]; exact size32)) (by assumption) ?_
  try simp only [Act.put, List.setIfInBounds_toArray, List.set_cons_zero, List.set_cons_succ]
  refine wpAnyH_take (i := 3) (oi := { dst := some 18, op := Op.move (Operand.tmp 4), type := 9, pos := "law.go:27", after := #[{ on := 1, ground := Ground.guard }], guard := some (1, true) }) (v := ?v3_4) rfl (by kernel_rfl) (by kernel_rfl) (by kernel_rfl) (fun _ _ _ h => h) (Or.inl ⟨by rfl, ?h3_4⟩) (by assumption) ?r3_4
  case h3_4 =>
    intro W hSW
    try dsimp only at hSW
    go_simp
    try with_reducible rfl
  try simp only [Act.put, List.setIfInBounds_toArray, List.set_cons_zero, List.set_cons_succ]
  refine wpAnyH_ready (rs := [4]) (by kernel_rfl) (by simp) ?_
  refine AllReadyH.cons (o := { dst := some 19, op := Op.convert 9 22 (Operand.tmp 18), type := 22, pos := "law.go:27", after := #[{ on := 3, ground := Ground.data }, { on := 1, ground := Ground.guard }], guard := some (1, true) }) rfl (fun K hK => ?_) AllReadyH.nil
  rw [if_pos (by rfl)]
  refine wp_ofS (.tmp 18) _ _ 5 rfl Tryd.underlying9 Tryd.underlying22 Tryd.underlying5 ⟨b.toArray⟩ rfl ?_
  intro A5 c5 w5 rd5 b5
  have hv5 : Below w4.heap.size w4 w5 := hv0.trans (b5.mono hv0.size)
  refine hK.out _ _ (hv5) (fun hHeld => ?_)
  clear hK K
  try simp only [Act.put, List.setIfInBounds_toArray, List.set_cons_zero, List.set_cons_succ]
  refine wpAnyH_ready (rs := [5]) (by kernel_rfl) (by simp) ?_
  refine AllReadyH.cons (o := { dst := some 20, op := Op.call { callee := Callee.value (Operand.func 12), args := #[Operand.tmp 19], argTypes := #[22] }, type := 24, pos := "law.go:27", after := #[{ on := 4, ground := Ground.data }, { on := 1, ground := Ground.chain }, { on := 1, ground := Ground.guard }], guard := some (1, true) }) rfl (fun K hK => ?_) AllReadyH.nil
  go_simp
  refine (HS2.out _ (hb4.trans (hv5.mono hb4.size)) _ _ _ HNS.out rd5).mono ?_
  rintro e w6 ⟨rfl, b6⟩
  have hv6 : Below w4.heap.size w4 w6 := hv5.trans (b6.mono hv5.size)
  go_wp2_with fail
  refine hK.out _ _ (hv6) (fun hHeld => ?_)
  clear hK K
  try simp only [Act.put, List.setIfInBounds_toArray, List.set_cons_zero, List.set_cons_succ]
  refine wpAnyH_take (i := 6) (oi := { dst := some 21, op := Op.binOp BinOp.eql 24 (Operand.tmp 17) (Operand.tmp 20) 24, type := 4, pos := "law.go:27", after := #[{ on := 2, ground := Ground.data }, { on := 5, ground := Ground.data }, { on := 1, ground := Ground.guard }], guard := some (1, true) }) (v := ?v6_5) rfl (by kernel_rfl) (by kernel_rfl) (by kernel_rfl) (fun _ _ _ h => h) (Or.inl ⟨by rfl, ?h6_5⟩) (by assumption) ?r6_5
  case h6_5 =>
    intro W hSW
    try dsimp only at hSW
    go_simp
    try with_reducible rfl
  try simp only [Act.put, List.setIfInBounds_toArray, List.set_cons_zero, List.set_cons_succ]
  refine wpAnyH_take (i := 7) (oi := { dst := some 22, op := Op.pick (Operand.tmp 16) (Operand.tmp 21) (Operand.const (Value.bool false)), type := 4, pos := "law.go:27", after := #[{ on := 1, ground := Ground.data }, { on := 6, ground := Ground.data }], guard := none }) (v := ?v7_6) rfl (by kernel_rfl) (by kernel_rfl) (by kernel_rfl) (fun _ _ _ h => h) (Or.inl ⟨by rfl, ?h7_6⟩) (by assumption) ?r7_6
  case h7_6 =>
    intro W hSW
    try dsimp only at hSW
    go_simp
    try with_reducible rfl
  try simp only [Act.put, List.setIfInBounds_toArray, List.set_cons_zero, List.set_cons_succ]
  refine wpAnyH_take (i := 8) (oi := { dst := some 23, op := Op.move (Operand.tmp 22), type := 4, pos := "law.go:27", after := #[{ on := 7, ground := Ground.data }, { on := 5, ground := Ground.chain }], guard := none }) (v := ?v8_7) rfl (by kernel_rfl) (by kernel_rfl) (by kernel_rfl) (fun _ _ _ h => h) (Or.inl ⟨by rfl, ?h8_7⟩) (by assumption) ?r8_7
  case h8_7 =>
    intro W hSW
    try dsimp only at hSW
    go_simp
    try with_reducible rfl
  try simp only [Act.put, List.setIfInBounds_toArray, List.set_cons_zero, List.set_cons_succ]
  refine wpAnyH_take (i := 9) (oi := { dst := some 24, op := Op.move (Operand.tmp 0), type := 22, pos := "law.go:27", after := #[{ on := 8, ground := Ground.guard }], guard := some (8, true) }) (v := ?v9_8) rfl (by kernel_rfl) (by kernel_rfl) (by kernel_rfl) (fun _ _ _ h => h) (Or.inl ⟨by rfl, ?h9_8⟩) (by assumption) ?r9_8
  case h9_8 =>
    intro W hSW
    try dsimp only at hSW
    go_simp
    try with_reducible rfl
  try simp only [Act.put, List.setIfInBounds_toArray, List.set_cons_zero, List.set_cons_succ]
  refine wpAnyH_take (i := 10) (oi := { dst := some 25, op := Op.convert 22 9 (Operand.tmp 24), type := 9, pos := "law.go:27", after := #[{ on := 9, ground := Ground.data }, { on := 8, ground := Ground.guard }], guard := some (8, true) }) (v := ?v10_9) rfl (by kernel_rfl) (by kernel_rfl) (by kernel_rfl) (fun _ _ _ h => h) (Or.inl ⟨by rfl, ?h10_9⟩) (by assumption) ?r10_9
  case h10_9 =>
    intro W hSW
    try dsimp only at hSW
    have hcc := hcv.out W hSW
    go_simp
    try with_reducible rfl
  try simp only [Act.put, List.setIfInBounds_toArray, List.set_cons_zero, List.set_cons_succ]
  refine wpAnyH_take (i := 11) (oi := { dst := some 26, op := Op.move (Operand.tmp 4), type := 9, pos := "law.go:27", after := #[{ on := 8, ground := Ground.guard }], guard := some (8, true) }) (v := ?v11_10) rfl (by kernel_rfl) (by kernel_rfl) (by kernel_rfl) (fun _ _ _ h => h) (Or.inl ⟨by rfl, ?h11_10⟩) (by assumption) ?r11_10
  case h11_10 =>
    intro W hSW
    try dsimp only at hSW
    go_simp
    try with_reducible rfl
  try simp only [Act.put, List.setIfInBounds_toArray, List.set_cons_zero, List.set_cons_succ]
  refine wpAnyH_take (i := 12) (oi := { dst := some 27, op := Op.binOp BinOp.eql 9 (Operand.tmp 25) (Operand.tmp 26) 9, type := 4, pos := "law.go:27", after := #[{ on := 10, ground := Ground.data }, { on := 11, ground := Ground.data }, { on := 8, ground := Ground.guard }], guard := some (8, true) }) (v := ?v12_11) rfl (by kernel_rfl) (by kernel_rfl) (by kernel_rfl) (fun _ _ _ h => h) (Or.inl ⟨by rfl, ?h12_11⟩) (by assumption) ?r12_11
  case h12_11 =>
    intro W hSW
    try dsimp only at hSW
    go_simp
    try with_reducible rfl
  try simp only [Act.put, List.setIfInBounds_toArray, List.set_cons_zero, List.set_cons_succ]
  refine wpAnyH_take (i := 13) (oi := { dst := some 28, op := Op.pick (Operand.tmp 23) (Operand.tmp 27) (Operand.const (Value.bool false)), type := 4, pos := "law.go:27", after := #[{ on := 8, ground := Ground.data }, { on := 12, ground := Ground.data }], guard := none }) (v := ?v13_12) rfl (by kernel_rfl) (by kernel_rfl) (by kernel_rfl) (fun _ _ _ h => h) (Or.inl ⟨by rfl, ?h13_12⟩) (by assumption) ?r13_12
  case h13_12 =>
    intro W hSW
    try dsimp only at hSW
    go_simp
    try with_reducible rfl
  try simp only [Act.put, List.setIfInBounds_toArray, List.set_cons_zero, List.set_cons_succ]
  refine wpAnyH_take (i := 14) (oi := { dst := some 2, op := Op.assign (Operand.tmp 28), type := 4, pos := "law.go:27", after := #[{ on := 13, ground := Ground.data }, { on := 8, ground := Ground.chain }, { on := 0, ground := Ground.phase }, { on := 1, ground := Ground.phase }, { on := 2, ground := Ground.phase }, { on := 3, ground := Ground.phase }, { on := 4, ground := Ground.phase }, { on := 5, ground := Ground.phase }, { on := 6, ground := Ground.phase }, { on := 7, ground := Ground.phase }, { on := 8, ground := Ground.phase }, { on := 9, ground := Ground.phase }, { on := 10, ground := Ground.phase }, { on := 11, ground := Ground.phase }, { on := 12, ground := Ground.phase }, { on := 13, ground := Ground.phase }], guard := none }) (v := ?v14_13) rfl (by kernel_rfl) (by kernel_rfl) (by kernel_rfl) (fun _ _ _ h => h) (Or.inl ⟨by rfl, ?h14_13⟩) (by assumption) ?r14_13
  case h14_13 =>
    intro W hSW
    try dsimp only at hSW
    go_simp
    try with_reducible rfl
  try simp only [Act.put, List.setIfInBounds_toArray, List.set_cons_zero, List.set_cons_succ]
  refine wpAnyH_done (by kernel_rfl) ?_ _
  go_wp2_with fail
  go_ret
  exact ⟨rfl, hb4.trans (hv6.mono hb4.size)⟩
end Go.Proofs.YtfnbcchmembomaaDoor
