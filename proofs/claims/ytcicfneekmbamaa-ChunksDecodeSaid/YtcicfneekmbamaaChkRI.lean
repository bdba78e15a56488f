/- The reference's Do, and two tables side by side: the program's and the reference's. Conditions: the tables are kept; the print has 32 bits. -/
import Derived.Test.YtcicfneekmbamaaChkRH
namespace Go.Proofs.Ytcicfneekmbamaa
set_option linter.unusedVariables false
set_option linter.unusedSimpArgs false
open Go.RowKit
def RStep (w : World) (F S : Nat → Prop) (a : Nat) (R : List Chk.Ck × Int × Int) (e : Ending) (w' : World) : Prop := e = .returned (.tuple #[.int .i64 R.2.1, .int .i64 R.2.2]) ∧ ROp w F S a R.1 w'
theorem ROp.before {w w0 w' : World} {F S : Nat → Prop} {a : Nat} {l : List Chk.Ck} (h0 : Below w.heap.size w w0) (h : ROp w0 F S a l w') : ROp w F S a l w' := by
  obtain ⟨F', S', h1, h2, h3, h4, h5⟩ := h
  have hs := h0.size
  exact ⟨F', S', h1, (Keep.of_below h0).trans h2, h3, fun b hb => (h4 b hb).imp id fun h => by omega, fun b hb => (h5 b hb).imp id fun h => by omega⟩
set_option maxRecDepth 100000 in
set_option maxHeartbeats 1600000 in
theorem rdo_add {w : World} {F S : Nat → Prop} {a : Nat} {t : RM} {l : List Chk.Ck} (h : RAt w F S a t l) (hb : ∀ b, F b ∨ S b → b < w.heap.size) (o : Chk.Op) (hp : Chk.inR o.pr 4294967296) (hk : o.kind = 1) :
    Calls Try.prog 13 #[.pointer (some ⟨a, 0, none⟩), opV o] w (RStep w F S a (Chk.step l o)) := by
  have hbz : Below w.heap.size w (w.alloc (.cells (opL o).toArray 37)) := (Below.refl _ _).alloc (Nat.le_refl _) _
  have hrz := IsRow.new w 37 (opL o)
  have h0 := h.below hbz
  have hb0 : ∀ b, F b ∨ S b → b < (w.alloc (.cells (opL o).toArray 37)).heap.size := fun b hb' => Nat.lt_of_lt_of_le (hb b hb') hbz.size
  have hnS : ¬ S w.heap.size := fun e => by have := hb _ (.inr e); omega
  have hlt : w.heap.size < (w.alloc (.cells (opL o).toArray 37)).heap.size := by simp
  obtain ⟨w0, hw0⟩ : ∃ y, w.alloc (.cells (opL o).toArray 37) = y := ⟨_, rfl⟩
  rw [hw0] at hbz hrz h0 hb0 hlt
  have HW0 : Hid (w.alloc (.cells #[.int .i64 o.kind, .int .i64 o.id, .int .i64 o.t, .int .i64 o.n, .int .i64 o.u.r, .int .i64 o.u.g, .int .i64 o.u.u, .int .u8 (o.d.toNat : Int), .int .u32 o.pr] 37) = w0) := Lib.hid hw0
  have HB0 := Lib.hid hbz
  have HNS := Lib.hid (And.intro hnS hlt)
  have x0 := hrz.cell 0
  have x1 := hrz.cell 1
  have x2 := hrz.cell 2
  have x3 := hrz.cell 3
  have x4 := hrz.cell 4
  have x5 := hrz.cell 5
  have x6 := hrz.cell 6
  have x7 := hrz.cell 7
  have x8 := hrz.cell 8
  unfold opL at x0 x1 x2 x3 x4 x5 x6 x7 x8
  dsimp only [List.getElem?_cons_zero, List.getElem?_cons_succ] at x0 x1 x2 x3 x4 x5 x6 x7 x8
  have HST : Hid (Chk.step l o = Chk.add l (Chk.dig o.d) o.pr o.u o.t) := Lib.hid (by unfold Chk.step; rw [if_pos hk])
  rw [HST.out]
  rw [hk] at x0 HW0
  have HDG := Lib.hid (fun W => digest_any o.d W)
  have HAD := Lib.hid (fun (W : World) (hW : Below w0.heap.size w0 W) => radd_any (h0.below hW) (fun b hb' => Nat.lt_of_lt_of_le (hb0 b hb') hW.size) (Chk.dig o.d) (by unfold Chk.dig; simp) o.pr hp o.u o.t)
  unfold unV at HAD
  have HX := Lib.hid (And.intro x2 (And.intro x4 (And.intro x5 (And.intro x6 (And.intro x7 x8)))))
  obtain ⟨R, hR⟩ : ∃ R, Chk.add l (Chk.dig o.d) o.pr o.u o.t = R := ⟨_, rfl⟩
  rw [hR] at HAD ⊢
  clear x1 x2 x3 x4 x5 x6 x7 x8 hR
  clear HST
  clear hw0 hbz hrz h0 hb0 hlt hnS h hb hp
  unfold opV
  rw [hk]
  go_enter Try.func13, Try.ntmps13
  go_upto_region 1 with fail
  rw [HW0.out]
  clear hk
  go_upto_region 3 with fail
  clear x0
  have hv0 : Below w0.heap.size w0 w0.drew := (Below.refl _ _).drew
  refine wp_region_held_drew (S := fun W => Keep S w0 W) (by kernel_rfl) (Keep.of_below hv0) (fun hHeld => ?_)
  refine wpAnyH_take (i := 0) (oi := { dst := some 12, op := Op.move (Operand.tmp 0), type := 31, pos := "ref.go:393", after := #[], guard := none }) (v := ?v0_1) rfl (by kernel_rfl) (by kernel_rfl) (by kernel_rfl) (fun _ _ _ h => h) (Or.inl ⟨by rfl, ?h0_1⟩) (by assumption) ?r0_1
  case h0_1 =>
    intro W hSW
    try dsimp only at hSW
    go_simp
    try with_reducible rfl
  try simp only [Act.put, List.setIfInBounds_toArray, List.set_cons_zero, List.set_cons_succ]
  refine wpAnyH_take (i := 1) (oi := { dst := some 13, op := Op.fieldAddr 37 (Operand.tmp 3) 5, type := 0, pos := "ref.go:393", after := #[], guard := none }) (v := ?v1_2) rfl (by kernel_rfl) (by kernel_rfl) (by kernel_rfl) (fun _ _ _ h => h) (Or.inl ⟨by rfl, ?h1_2⟩) (by assumption) ?r1_2
  case h1_2 =>
    intro W hSW
    try dsimp only at hSW
    go_simp
    try with_reducible rfl
  try simp only [Act.put, List.setIfInBounds_toArray, List.set_cons_zero, List.set_cons_succ]
  refine wpAnyH_take (i := 2) (oi := { dst := some 14, op := Op.load 5 (Operand.tmp 13), type := 5, pos := "ref.go:393", after := #[{ on := 1, ground := Ground.data }], guard := none }) (v := ?v2_3) rfl (by kernel_rfl) (by kernel_rfl) (by kernel_rfl) (fun _ _ _ h => h) (Or.inl ⟨by rfl, ?h2_3⟩) (by assumption) ?r2_3
  case h2_3 =>
    intro W hSW
    try dsimp only at hSW
    have c7 := (hSW.cell (p := ⟨w.heap.size, 7, none⟩) HNS.out.2 HNS.out.1).trans HX.out.2.2.2.2.1
    go_simp
    try with_reducible rfl
  try simp only [Act.put, List.setIfInBounds_toArray, List.set_cons_zero, List.set_cons_succ]
  refine wpAnyH_take (i := 4) (oi := { dst := some 16, op := Op.fieldAddr 37 (Operand.tmp 3) 6, type := 0, pos := "ref.go:393", after := #[], guard := none }) (v := ?v4_4) rfl (by kernel_rfl) (by kernel_rfl) (by kernel_rfl) (fun _ _ _ h => h) (Or.inl ⟨by rfl, ?h4_4⟩) (by assumption) ?r4_4
  case h4_4 =>
    intro W hSW
    try dsimp only at hSW
    go_simp
    try with_reducible rfl
  try simp only [Act.put, List.setIfInBounds_toArray, List.set_cons_zero, List.set_cons_succ]
  refine wpAnyH_take (i := 5) (oi := { dst := some 17, op := Op.load 35 (Operand.tmp 16), type := 35, pos := "ref.go:393", after := #[{ on := 4, ground := Ground.data }], guard := none }) (v := ?v5_5) rfl (by kernel_rfl) (by kernel_rfl) (by kernel_rfl) (fun _ _ _ h => h) (Or.inl ⟨by rfl, ?h5_5⟩) (by assumption) ?r5_5
  case h5_5 =>
    intro W hSW
    try dsimp only at hSW
    have c8 := (hSW.cell (p := ⟨w.heap.size, 8, none⟩) HNS.out.2 HNS.out.1).trans HX.out.2.2.2.2.2
    go_simp
    try with_reducible rfl
  try simp only [Act.put, List.setIfInBounds_toArray, List.set_cons_zero, List.set_cons_succ]
  refine wpAnyH_take (i := 6) (oi := { dst := some 18, op := Op.fieldAddr 37 (Operand.tmp 3) 4, type := 0, pos := "ref.go:393", after := #[], guard := none }) (v := ?v6_6) rfl (by kernel_rfl) (by kernel_rfl) (by kernel_rfl) (fun _ _ _ h => h) (Or.inl ⟨by rfl, ?h6_6⟩) (by assumption) ?r6_6
  case h6_6 =>
    intro W hSW
    try dsimp only at hSW
    go_simp
    try with_reducible rfl
  try simp only [Act.put, List.setIfInBounds_toArray, List.set_cons_zero, List.set_cons_succ]
  refine wpAnyH_take (i := 7) (oi := { dst := some 19, op := Op.load 26 (Operand.tmp 18), type := 26, pos := "ref.go:393", after := #[{ on := 6, ground := Ground.data }], guard := none }) (v := ?v7_7) rfl (by kernel_rfl) (by kernel_rfl) (by kernel_rfl) (fun _ _ _ h => h) (Or.inl ⟨by rfl, ?h7_7⟩) (by assumption) ?r7_7
  case h7_7 =>
    intro W hSW
    try dsimp only at hSW
    have c4 := (hSW.cell (p := ⟨w.heap.size, 4, none⟩) HNS.out.2 HNS.out.1).trans HX.out.2.1
    have c5 := (hSW.cell (p := ⟨w.heap.size, 5, none⟩) HNS.out.2 HNS.out.1).trans HX.out.2.2.1
    have c6 := (hSW.cell (p := ⟨w.heap.size, 6, none⟩) HNS.out.2 HNS.out.1).trans HX.out.2.2.2.1
    go_simp
    try with_reducible rfl
  try simp only [Act.put, List.setIfInBounds_toArray, List.set_cons_zero, List.set_cons_succ]
  refine wpAnyH_take (i := 8) (oi := { dst := some 20, op := Op.fieldAddr 37 (Operand.tmp 3) 2, type := 0, pos := "ref.go:393", after := #[], guard := none }) (v := ?v8_8) rfl (by kernel_rfl) (by kernel_rfl) (by kernel_rfl) (fun _ _ _ h => h) (Or.inl ⟨by rfl, ?h8_8⟩) (by assumption) ?r8_8
  case h8_8 =>
    intro W hSW
    try dsimp only at hSW
    go_simp
    try with_reducible rfl
  try simp only [Act.put, List.setIfInBounds_toArray, List.set_cons_zero, List.set_cons_succ]
  refine wpAnyH_take (i := 9) (oi := { dst := some 21, op := Op.load 3 (Operand.tmp 20), type := 3, pos := "ref.go:393", after := #[{ on := 8, ground := Ground.data }], guard := none }) (v := ?v9_9) rfl (by kernel_rfl) (by kernel_rfl) (by kernel_rfl) (fun _ _ _ h => h) (Or.inl ⟨by rfl, ?h9_9⟩) (by assumption) ?r9_9
  case h9_9 =>
    intro W hSW
    try dsimp only at hSW
    have c2 := (hSW.cell (p := ⟨w.heap.size, 2, none⟩) HNS.out.2 HNS.out.1).trans HX.out.1
    go_simp
    try with_reducible rfl
  try simp only [Act.put, List.setIfInBounds_toArray, List.set_cons_zero, List.set_cons_succ]
  refine wpAnyH_ready (rs := [3]) (by kernel_rfl) (by simp) ?_
  refine AllReadyH.cons (o := { dst := some 15, op := Op.call { callee := Callee.value (Operand.func 23), args := #[Operand.tmp 14], argTypes := #[5] }, type := 42, pos := "ref.go:393", after := #[{ on := 2, ground := Ground.data }], guard := none }) rfl (fun K hK => ?_) AllReadyH.nil
  go_simp
  refine (HDG.out _).mono ?_
  rintro e w70 ⟨rfl, b70⟩
  have hv70 : Below w0.heap.size w0 w70 := (hv0).trans (b70.mono (hv0).size)
  clear b70
  refine hK.out _ _ (Keep.of_below hv70) (fun hHeld => ?_)
  clear hK K
  try simp only [Act.put, List.setIfInBounds_toArray, List.set_cons_zero, List.set_cons_succ]
  refine wpAnyH_ready (rs := [10]) (by kernel_rfl) (by simp) ?_
  refine AllReadyH.cons (o := { dst := some 22, op := Op.call { callee := Callee.value (Operand.func 43), args := #[Operand.tmp 12, Operand.tmp 15, Operand.tmp 17, Operand.tmp 19, Operand.tmp 21], argTypes := #[31, 42, 35, 26, 3] }, type := 39, pos := "ref.go:393", after := #[{ on := 0, ground := Ground.data }, { on := 3, ground := Ground.data }, { on := 5, ground := Ground.data }, { on := 7, ground := Ground.data }, { on := 9, ground := Ground.data }, { on := 3, ground := Ground.chain }], guard := none }) rfl (fun K hK => ?_) AllReadyH.nil
  go_simp
  refine (HAD.out _ hv70).mono ?_
  rintro e w71 ⟨rfl, F', S', h1, h2, h3, h4, h5⟩
  have hv71 : Keep S w0 w71 := (Keep.of_below hv70).trans h2
  have hbf := hv70
  have HFIN : Hid (ROp w0 F S a R.1 w71) := Lib.hid ⟨F', S', h1, hv71, h3, fun b hb => (h4 b hb).imp id fun h => Nat.le_trans hbf.size h, fun b hb => (h5 b hb).imp id fun h => Nat.le_trans hbf.size h⟩
  clear h1 h2 h3 h4 h5 hbf
  refine hK.out _ _ hv71 (fun hHeld => ?_)
  clear hK K
  try simp only [Act.put, List.setIfInBounds_toArray, List.set_cons_zero, List.set_cons_succ]
  refine wpAnyH_take (i := 11) (oi := { dst := some 23, op := Op.extract (Operand.tmp 22) 0, type := 3, pos := "ref.go:393", after := #[{ on := 10, ground := Ground.data }], guard := none }) (v := ?v11_10) rfl (by kernel_rfl) (by kernel_rfl) (by kernel_rfl) (fun _ _ _ h => h) (Or.inl ⟨by rfl, ?h11_10⟩) (by assumption) ?r11_10
  case h11_10 =>
    intro W hSW
    try dsimp only at hSW
    go_simp
    try with_reducible rfl
  try simp only [Act.put, List.setIfInBounds_toArray, List.set_cons_zero, List.set_cons_succ]
  refine wpAnyH_take (i := 12) (oi := { dst := some 24, op := Op.extract (Operand.tmp 22) 1, type := 38, pos := "ref.go:393", after := #[{ on := 10, ground := Ground.data }], guard := none }) (v := ?v12_11) rfl (by kernel_rfl) (by kernel_rfl) (by kernel_rfl) (fun _ _ _ h => h) (Or.inl ⟨by rfl, ?h12_11⟩) (by assumption) ?r12_11
  case h12_11 =>
    intro W hSW
    try dsimp only at hSW
    go_simp
    try with_reducible rfl
  try simp only [Act.put, List.setIfInBounds_toArray, List.set_cons_zero, List.set_cons_succ]
  refine wpAnyH_take (i := 13) (oi := { dst := some 4, op := Op.assign (Operand.tmp 23), type := 3, pos := "ref.go:393", after := #[{ on := 11, ground := Ground.data }, { on := 10, ground := Ground.chain }, { on := 0, ground := Ground.phase }, { on := 1, ground := Ground.phase }, { on := 2, ground := Ground.phase }, { on := 3, ground := Ground.phase }, { on := 4, ground := Ground.phase }, { on := 5, ground := Ground.phase }, { on := 6, ground := Ground.phase }, { on := 7, ground := Ground.phase }, { on := 8, ground := Ground.phase }, { on := 9, ground := Ground.phase }, { on := 10, ground := Ground.phase }, { on := 11, ground := Ground.phase }, { on := 12, ground := Ground.phase }], guard := none }) (v := ?v13_12) rfl (by kernel_rfl) (by kernel_rfl) (by kernel_rfl) (fun _ _ _ h => h) (Or.inl ⟨by rfl, ?h13_12⟩) (by assumption) ?r13_12
  case h13_12 =>
    intro W hSW
    try dsimp only at hSW
    go_simp
    try with_reducible rfl
  try simp only [Act.put, List.setIfInBounds_toArray, List.set_cons_zero, List.set_cons_succ]
  refine wpAnyH_take (i := 14) (oi := { dst := some 5, op := Op.assign (Operand.tmp 24), type := 38, pos := "ref.go:393", after := #[{ on := 12, ground := Ground.data }, { on := 13, ground := Ground.chain }, { on := 0, ground := Ground.phase }, { on := 1, ground := Ground.phase }, { on := 2, ground := Ground.phase }, { on := 3, ground := Ground.phase }, { on := 4, ground := Ground.phase }, { on := 5, ground := Ground.phase }, { on := 6, ground := Ground.phase }, { on := 7, ground := Ground.phase }, { on := 8, ground := Ground.phase }, { on := 9, ground := Ground.phase }, { on := 10, ground := Ground.phase }, { on := 11, ground := Ground.phase }, { on := 12, ground := Ground.phase }, { on := 13, ground := Ground.phase }], guard := none }) (v := ?v14_13) rfl (by kernel_rfl) (by kernel_rfl) (by kernel_rfl) (fun _ _ _ h => h) (Or.inl ⟨by rfl, ?h14_13⟩) (by assumption) ?r14_13
  case h14_13 =>
    intro W hSW
    try dsimp only at hSW
    go_simp
    try with_reducible rfl
  try simp only [Act.put, List.setIfInBounds_toArray, List.set_cons_zero, List.set_cons_succ]
  refine wpAnyH_done (by kernel_rfl) ?_ _
  go_wp2_with fail
  go_ret2
  exact ⟨rfl, ROp.before HB0.out HFIN.out⟩
set_option maxRecDepth 100000 in
set_option maxHeartbeats 1600000 in
theorem rdo_refer {w : World} {F S : Nat → Prop} {a : Nat} {t : RM} {l : List Chk.Ck} (h : RAt w F S a t l) (hb : ∀ b, F b ∨ S b → b < w.heap.size) (o : Chk.Op) (hp : Chk.inR o.pr 4294967296) (hk : o.kind = 2) :
    Calls Try.prog 13 #[.pointer (some ⟨a, 0, none⟩), opV o] w (RStep w F S a (Chk.step l o)) := by
  have hbz : Below w.heap.size w (w.alloc (.cells (opL o).toArray 37)) := (Below.refl _ _).alloc (Nat.le_refl _) _
  have hrz := IsRow.new w 37 (opL o)
  have h0 := h.below hbz
  have hb0 : ∀ b, F b ∨ S b → b < (w.alloc (.cells (opL o).toArray 37)).heap.size := fun b hb' => Nat.lt_of_lt_of_le (hb b hb') hbz.size
  have hnS : ¬ S w.heap.size := fun e => by have := hb _ (.inr e); omega
  have hlt : w.heap.size < (w.alloc (.cells (opL o).toArray 37)).heap.size := by simp
  obtain ⟨w0, hw0⟩ : ∃ y, w.alloc (.cells (opL o).toArray 37) = y := ⟨_, rfl⟩
  rw [hw0] at hbz hrz h0 hb0 hlt
  have HW0 : Hid (w.alloc (.cells #[.int .i64 o.kind, .int .i64 o.id, .int .i64 o.t, .int .i64 o.n, .int .i64 o.u.r, .int .i64 o.u.g, .int .i64 o.u.u, .int .u8 (o.d.toNat : Int), .int .u32 o.pr] 37) = w0) := Lib.hid hw0
  have HB0 := Lib.hid hbz
  have HNS := Lib.hid (And.intro hnS hlt)
  have x0 := hrz.cell 0
  have x1 := hrz.cell 1
  have x2 := hrz.cell 2
  have x3 := hrz.cell 3
  have x4 := hrz.cell 4
  have x5 := hrz.cell 5
  have x6 := hrz.cell 6
  have x7 := hrz.cell 7
  have x8 := hrz.cell 8
  unfold opL at x0 x1 x2 x3 x4 x5 x6 x7 x8
  dsimp only [List.getElem?_cons_zero, List.getElem?_cons_succ] at x0 x1 x2 x3 x4 x5 x6 x7 x8
  have HST : Hid (Chk.step l o = Chk.refer l o.id o.t o.n) := Lib.hid (by unfold Chk.step; rw [if_neg (by omega)]; rw [if_pos hk])
  rw [HST.out]
  rw [hk] at x0 HW0
  have HCA := Lib.hid (rrefer_any h0 hb0 o.id o.t o.n)
  have HN0 := Lib.hid (refer_n0 l o.id o.t o.n)
  obtain ⟨R, hR⟩ : ∃ R, Chk.refer l o.id o.t o.n = R := ⟨_, rfl⟩
  rw [hR] at HCA HN0 ⊢
  clear x4 x5 x6 x7 x8 hR HST
  clear hw0 hbz hrz h0 hb0 hlt hnS h hb hp
  unfold opV
  rw [hk]
  go_enter Try.func13, Try.ntmps13
  go_upto_region 1 with fail
  rw [HW0.out]
  clear hk
  go_wp2_with (go_at_call 44; refine HCA.out.mono ?_; rintro e w5 ⟨rfl, h5⟩)
  go_ret2
  refine ⟨by rw [HN0.out]; rfl, ROp.before HB0.out h5⟩
set_option maxRecDepth 100000 in
set_option maxHeartbeats 1600000 in
theorem rdo_unrefer {w : World} {F S : Nat → Prop} {a : Nat} {t : RM} {l : List Chk.Ck} (h : RAt w F S a t l) (hb : ∀ b, F b ∨ S b → b < w.heap.size) (o : Chk.Op) (hp : Chk.inR o.pr 4294967296) (hk : o.kind = 3) :
    Calls Try.prog 13 #[.pointer (some ⟨a, 0, none⟩), opV o] w (RStep w F S a (Chk.step l o)) := by
  have hbz : Below w.heap.size w (w.alloc (.cells (opL o).toArray 37)) := (Below.refl _ _).alloc (Nat.le_refl _) _
  have hrz := IsRow.new w 37 (opL o)
  have h0 := h.below hbz
  have hb0 : ∀ b, F b ∨ S b → b < (w.alloc (.cells (opL o).toArray 37)).heap.size := fun b hb' => Nat.lt_of_lt_of_le (hb b hb') hbz.size
  have hnS : ¬ S w.heap.size := fun e => by have := hb _ (.inr e); omega
  have hlt : w.heap.size < (w.alloc (.cells (opL o).toArray 37)).heap.size := by simp
  obtain ⟨w0, hw0⟩ : ∃ y, w.alloc (.cells (opL o).toArray 37) = y := ⟨_, rfl⟩
  rw [hw0] at hbz hrz h0 hb0 hlt
  have HW0 : Hid (w.alloc (.cells #[.int .i64 o.kind, .int .i64 o.id, .int .i64 o.t, .int .i64 o.n, .int .i64 o.u.r, .int .i64 o.u.g, .int .i64 o.u.u, .int .u8 (o.d.toNat : Int), .int .u32 o.pr] 37) = w0) := Lib.hid hw0
  have HB0 := Lib.hid hbz
  have HNS := Lib.hid (And.intro hnS hlt)
  have x0 := hrz.cell 0
  have x1 := hrz.cell 1
  have x2 := hrz.cell 2
  have x3 := hrz.cell 3
  have x4 := hrz.cell 4
  have x5 := hrz.cell 5
  have x6 := hrz.cell 6
  have x7 := hrz.cell 7
  have x8 := hrz.cell 8
  unfold opL at x0 x1 x2 x3 x4 x5 x6 x7 x8
  dsimp only [List.getElem?_cons_zero, List.getElem?_cons_succ] at x0 x1 x2 x3 x4 x5 x6 x7 x8
  have HST : Hid (Chk.step l o = Chk.unrefer l o.id o.t o.n) := Lib.hid (by unfold Chk.step; rw [if_neg (by omega)]; rw [if_neg (by omega)]; rw [if_pos hk])
  rw [HST.out]
  rw [hk] at x0 HW0
  have HCA := Lib.hid (runrefer_any h0 hb0 o.id o.t o.n)
  have hn := unrefer_n l o.id o.t o.n
  obtain ⟨R, hR⟩ : ∃ R, Chk.unrefer l o.id o.t o.n = R := ⟨_, rfl⟩
  rw [hR] at HCA hn ⊢
  obtain ⟨q, hq⟩ : ∃ q, decide (R.2.1 = 1) = q := ⟨_, rfl⟩
  unfold RUn at HCA
  rw [hq] at HCA hn
  have HN0 := Lib.hid hn
  clear x4 x5 x6 x7 x8 hR HST hn hq
  clear hw0 hbz hrz h0 hb0 hlt hnS h hb hp
  unfold opV
  rw [hk]
  go_enter Try.func13, Try.ntmps13
  go_upto_region 1 with fail
  rw [HW0.out]
  clear hk
  cases q with
  | true =>
    go_wp2_with (go_at_call 45; refine HCA.out.mono ?_; rintro e w5 ⟨rfl, h5⟩)
    go_ret2
    refine ⟨by rw [HN0.out]; rfl, ROp.before HB0.out h5⟩
  | false =>
    go_wp2_with (go_at_call 45; refine HCA.out.mono ?_; rintro e w5 ⟨rfl, h5⟩)
    go_ret2
    refine ⟨by rw [HN0.out]; rfl, ROp.before HB0.out h5⟩
set_option maxRecDepth 100000 in
set_option maxHeartbeats 1600000 in
theorem rdo_move {w : World} {F S : Nat → Prop} {a : Nat} {t : RM} {l : List Chk.Ck} (h : RAt w F S a t l) (hb : ∀ b, F b ∨ S b → b < w.heap.size) (o : Chk.Op) (hp : Chk.inR o.pr 4294967296) (hk : o.kind = 4) :
    Calls Try.prog 13 #[.pointer (some ⟨a, 0, none⟩), opV o] w (RStep w F S a (Chk.step l o)) := by
  have hbz : Below w.heap.size w (w.alloc (.cells (opL o).toArray 37)) := (Below.refl _ _).alloc (Nat.le_refl _) _
  have hrz := IsRow.new w 37 (opL o)
  have h0 := h.below hbz
  have hb0 : ∀ b, F b ∨ S b → b < (w.alloc (.cells (opL o).toArray 37)).heap.size := fun b hb' => Nat.lt_of_lt_of_le (hb b hb') hbz.size
  have hnS : ¬ S w.heap.size := fun e => by have := hb _ (.inr e); omega
  have hlt : w.heap.size < (w.alloc (.cells (opL o).toArray 37)).heap.size := by simp
  obtain ⟨w0, hw0⟩ : ∃ y, w.alloc (.cells (opL o).toArray 37) = y := ⟨_, rfl⟩
  rw [hw0] at hbz hrz h0 hb0 hlt
  have HW0 : Hid (w.alloc (.cells #[.int .i64 o.kind, .int .i64 o.id, .int .i64 o.t, .int .i64 o.n, .int .i64 o.u.r, .int .i64 o.u.g, .int .i64 o.u.u, .int .u8 (o.d.toNat : Int), .int .u32 o.pr] 37) = w0) := Lib.hid hw0
  have HB0 := Lib.hid hbz
  have HNS := Lib.hid (And.intro hnS hlt)
  have x0 := hrz.cell 0
  have x1 := hrz.cell 1
  have x2 := hrz.cell 2
  have x3 := hrz.cell 3
  have x4 := hrz.cell 4
  have x5 := hrz.cell 5
  have x6 := hrz.cell 6
  have x7 := hrz.cell 7
  have x8 := hrz.cell 8
  unfold opL at x0 x1 x2 x3 x4 x5 x6 x7 x8
  dsimp only [List.getElem?_cons_zero, List.getElem?_cons_succ] at x0 x1 x2 x3 x4 x5 x6 x7 x8
  have HST : Hid (Chk.step l o = Chk.move l o.id o.u) := Lib.hid (by unfold Chk.step; rw [if_neg (by omega)]; rw [if_neg (by omega)]; rw [if_neg (by omega)]; rw [if_pos hk])
  rw [HST.out]
  rw [hk] at x0 HW0
  have HCA := Lib.hid (rmove_any h0 o.id o.u)
  unfold unV at HCA
  have HN0 := Lib.hid (move_n0 l o.id o.u)
  have HBB := Lib.hid hb0
  obtain ⟨R, hR⟩ : ∃ R, Chk.move l o.id o.u = R := ⟨_, rfl⟩
  rw [hR] at HCA HN0 ⊢
  clear x2 x3 x7 x8 hR HST
  clear hw0 hbz hrz h0 hb0 hlt hnS h hb hp
  unfold opV
  rw [hk]
  go_enter Try.func13, Try.ntmps13
  go_upto_region 1 with fail
  rw [HW0.out]
  clear hk
  go_wp2_with (go_at_call 46; refine HCA.out.mono ?_; rintro e w5 ⟨rfl, ⟨t5, h51⟩, h52⟩)
  go_ret2
  refine ⟨by rw [HN0.out]; rfl, ROp.before HB0.out ⟨F, S, ⟨t5, h51⟩, h52, fun b hb => Nat.lt_of_lt_of_le (HBB.out b hb) h52.size, fun _ h => .inl h, fun _ h => .inl h⟩⟩
set_option maxRecDepth 100000 in
set_option maxHeartbeats 1600000 in
theorem rdo_lose {w : World} {F S : Nat → Prop} {a : Nat} {t : RM} {l : List Chk.Ck} (h : RAt w F S a t l) (hb : ∀ b, F b ∨ S b → b < w.heap.size) (o : Chk.Op) (hp : Chk.inR o.pr 4294967296) (hk : o.kind = 5) :
    Calls Try.prog 13 #[.pointer (some ⟨a, 0, none⟩), opV o] w (RStep w F S a (Chk.step l o)) := by
  have hbz : Below w.heap.size w (w.alloc (.cells (opL o).toArray 37)) := (Below.refl _ _).alloc (Nat.le_refl _) _
  have hrz := IsRow.new w 37 (opL o)
  have h0 := h.below hbz
  have hb0 : ∀ b, F b ∨ S b → b < (w.alloc (.cells (opL o).toArray 37)).heap.size := fun b hb' => Nat.lt_of_lt_of_le (hb b hb') hbz.size
  have hnS : ¬ S w.heap.size := fun e => by have := hb _ (.inr e); omega
  have hlt : w.heap.size < (w.alloc (.cells (opL o).toArray 37)).heap.size := by simp
  obtain ⟨w0, hw0⟩ : ∃ y, w.alloc (.cells (opL o).toArray 37) = y := ⟨_, rfl⟩
  rw [hw0] at hbz hrz h0 hb0 hlt
  have HW0 : Hid (w.alloc (.cells #[.int .i64 o.kind, .int .i64 o.id, .int .i64 o.t, .int .i64 o.n, .int .i64 o.u.r, .int .i64 o.u.g, .int .i64 o.u.u, .int .u8 (o.d.toNat : Int), .int .u32 o.pr] 37) = w0) := Lib.hid hw0
  have HB0 := Lib.hid hbz
  have HNS := Lib.hid (And.intro hnS hlt)
  have x0 := hrz.cell 0
  have x1 := hrz.cell 1
  have x2 := hrz.cell 2
  have x3 := hrz.cell 3
  have x4 := hrz.cell 4
  have x5 := hrz.cell 5
  have x6 := hrz.cell 6
  have x7 := hrz.cell 7
  have x8 := hrz.cell 8
  unfold opL at x0 x1 x2 x3 x4 x5 x6 x7 x8
  dsimp only [List.getElem?_cons_zero, List.getElem?_cons_succ] at x0 x1 x2 x3 x4 x5 x6 x7 x8
  have HST : Hid (Chk.step l o = Chk.lose l o.id) := Lib.hid (by unfold Chk.step; rw [if_neg (by omega)]; rw [if_neg (by omega)]; rw [if_neg (by omega)]; rw [if_neg (by omega)]; rw [if_pos hk])
  rw [HST.out]
  rw [hk] at x0 HW0
  have HCA := Lib.hid (rlose_any h0 o.id)
  have HN0 := Lib.hid (lose_n0 l o.id)
  have HBB := Lib.hid hb0
  obtain ⟨R, hR⟩ : ∃ R, Chk.lose l o.id = R := ⟨_, rfl⟩
  rw [hR] at HCA HN0 ⊢
  clear x2 x3 x4 x5 x6 x7 x8 hR HST
  clear hw0 hbz hrz h0 hb0 hlt hnS h hb hp
  unfold opV
  rw [hk]
  go_enter Try.func13, Try.ntmps13
  go_upto_region 1 with fail
  rw [HW0.out]
  clear hk
  go_wp2_with (go_at_call 47; refine HCA.out.mono ?_; rintro e w5 ⟨rfl, ⟨t5, h51⟩, h52⟩)
  go_ret2
  refine ⟨by rw [HN0.out]; rfl, ROp.before HB0.out ⟨F, S, ⟨t5, h51⟩, h52, fun b hb => Nat.lt_of_lt_of_le (HBB.out b hb) h52.size, fun _ h => .inl h, fun _ h => .inl h⟩⟩
set_option maxRecDepth 100000 in
set_option maxHeartbeats 1600000 in
theorem rdo_none {w : World} {F S : Nat → Prop} {a : Nat} {t : RM} {l : List Chk.Ck} (h : RAt w F S a t l) (hb : ∀ b, F b ∨ S b → b < w.heap.size) (o : Chk.Op) (hp : Chk.inR o.pr 4294967296) (k1 : o.kind ≠ 1) (k2 : o.kind ≠ 2) (k3 : o.kind ≠ 3) (k4 : o.kind ≠ 4) (k5 : o.kind ≠ 5) :
    Calls Try.prog 13 #[.pointer (some ⟨a, 0, none⟩), opV o] w (RStep w F S a (Chk.step l o)) := by
  have hbz : Below w.heap.size w (w.alloc (.cells (opL o).toArray 37)) := (Below.refl _ _).alloc (Nat.le_refl _) _
  have hrz := IsRow.new w 37 (opL o)
  have h0 := h.below hbz
  have hb0 : ∀ b, F b ∨ S b → b < (w.alloc (.cells (opL o).toArray 37)).heap.size := fun b hb' => Nat.lt_of_lt_of_le (hb b hb') hbz.size
  have hnS : ¬ S w.heap.size := fun e => by have := hb _ (.inr e); omega
  have hlt : w.heap.size < (w.alloc (.cells (opL o).toArray 37)).heap.size := by simp
  obtain ⟨w0, hw0⟩ : ∃ y, w.alloc (.cells (opL o).toArray 37) = y := ⟨_, rfl⟩
  rw [hw0] at hbz hrz h0 hb0 hlt
  have HW0 : Hid (w.alloc (.cells #[.int .i64 o.kind, .int .i64 o.id, .int .i64 o.t, .int .i64 o.n, .int .i64 o.u.r, .int .i64 o.u.g, .int .i64 o.u.u, .int .u8 (o.d.toNat : Int), .int .u32 o.pr] 37) = w0) := Lib.hid hw0
  have HB0 := Lib.hid hbz
  have HNS := Lib.hid (And.intro hnS hlt)
  have x0 := hrz.cell 0
  have x1 := hrz.cell 1
  have x2 := hrz.cell 2
  have x3 := hrz.cell 3
  have x4 := hrz.cell 4
  have x5 := hrz.cell 5
  have x6 := hrz.cell 6
  have x7 := hrz.cell 7
  have x8 := hrz.cell 8
  unfold opL at x0 x1 x2 x3 x4 x5 x6 x7 x8
  dsimp only [List.getElem?_cons_zero, List.getElem?_cons_succ] at x0 x1 x2 x3 x4 x5 x6 x7 x8
  have HST : Hid (Chk.step l o = (l, 0, 0)) := Lib.hid (by unfold Chk.step; rw [if_neg k1, if_neg k2, if_neg k3, if_neg k4, if_neg k5])
  rw [HST.out]
  have HS := Lib.hid (ROp.same h hb HB0.out)
  obtain ⟨k, hk⟩ : ∃ k, o.kind = k := ⟨_, rfl⟩
  rw [hk] at x0 HW0 k1 k2 k3 k4 k5
  have d1 : (k == 1) = false := by simpa using k1
  have d2 : (k == 2) = false := by simpa using k2
  have d3 : (k == 3) = false := by simpa using k3
  have d4 : (k == 4) = false := by simpa using k4
  have d5 : (k == 5) = false := by simpa using k5
  clear x1 x2 x3 x4 x5 x6 x7 x8 HST
  clear hw0 hbz hrz h0 hb0 hlt hnS h hb hp
  unfold opV
  rw [hk]
  go_enter Try.func13, Try.ntmps13
  go_upto_region 1 with fail
  rw [HW0.out]
  clear hk
  go_wp2
  go_ret2
  exact ⟨rfl, HS.out⟩
/-- the reference's Do -/
theorem rdo_any {w : World} {F S : Nat → Prop} {a : Nat} {t : RM} {l : List Chk.Ck} (h : RAt w F S a t l) (hb : ∀ b, F b ∨ S b → b < w.heap.size) (o : Chk.Op) (hp : Chk.inR o.pr 4294967296) :
    Calls Try.prog 13 #[.pointer (some ⟨a, 0, none⟩), opV o] w (RStep w F S a (Chk.step l o)) := by
  by_cases k1 : o.kind = 1
  · exact rdo_add h hb o hp k1
  by_cases k2 : o.kind = 2
  · exact rdo_refer h hb o hp k2
  by_cases k3 : o.kind = 3
  · exact rdo_unrefer h hb o hp k3
  by_cases k4 : o.kind = 4
  · exact rdo_move h hb o hp k4
  by_cases k5 : o.kind = 5
  · exact rdo_lose h hb o hp k5
  exact rdo_none h hb o hp k1 k2 k3 k4 k5
/-- the program's table and the reference's, which share nothing; the blocks G are neither's -/
def Pair (w0 w : World) (a : Nat) (l : List Chk.Ck) (r : Nat) (l' : List Chk.Ck) (G : Nat → Prop) : Prop :=
  ∃ F S F' S' : Nat → Prop, (∃ t, TAt w F S a t l) ∧ (∃ t, RAt w F' S' r t l') ∧ (∀ b, (F b ∨ S b) ∨ (F' b ∨ S' b) → w0.heap.size ≤ b ∧ b < w.heap.size) ∧ (∀ b, S b → ¬ S' b) ∧ (∀ b, F b → ¬ S' b) ∧ (∀ b, F' b → ¬ S b) ∧ Below w0.heap.size w0 w ∧ (∀ b, G b → b < w.heap.size ∧ ¬ S b ∧ ¬ S' b)
section
variable {w0 w w' : World} {a r : Nat} {l l' m : List Chk.Ck} {G : Nat → Prop}
theorem Pair.below (h : Pair w0 w a l r l' G) (hb : Below w.heap.size w w') : Pair w0 w' a l r l' G := by
  obtain ⟨F, S, F', S', ⟨t, h1⟩, ⟨t', h2⟩, h3, h4, h5, h6, h7, h8⟩ := h
  exact ⟨F, S, F', S', ⟨t, h1.below hb⟩, ⟨t', h2.below hb⟩, fun b e => ⟨(h3 b e).1, Nat.lt_of_lt_of_le (h3 b e).2 hb.size⟩, h4, h5, h6, h7.trans (hb.mono h7.size), fun b e => ⟨Nat.lt_of_lt_of_le (h8 b e).1 hb.size, (h8 b e).2⟩⟩
theorem Pair.more (h : Pair w0 w a l r l' G) (hb : Below w.heap.size w w') (x : Nat) (hx1 : w.heap.size ≤ x) (hx2 : x < w'.heap.size) : Pair w0 w' a l r l' (fun b => b = x) := by
  obtain ⟨F, S, F', S', ⟨t, h1⟩, ⟨t', h2⟩, h3, h4, h5, h6, h7, h8⟩ := h
  exact ⟨F, S, F', S', ⟨t, h1.below hb⟩, ⟨t', h2.below hb⟩, fun b e => ⟨(h3 b e).1, Nat.lt_of_lt_of_le (h3 b e).2 hb.size⟩, h4, h5, h6, h7.trans (hb.mono h7.size), fun b e => by
    subst e
    exact ⟨hx2, fun hS => by have := (h3 b (.inl (.inr hS))).2; omega, fun hS => by have := (h3 b (.inr (.inr hS))).2; omega⟩⟩
theorem Pair.free (h : Pair w0 w a l r l' G) : Pair w0 w a l r l' (fun _ => False) := by
  obtain ⟨F, S, F', S', h1, h2, h3, h4, h5, h6, h7, h8⟩ := h
  exact ⟨F, S, F', S', h1, h2, h3, h4, h5, h6, h7, fun _ e => e.elim⟩
theorem Pair.b (h : Pair w0 w a l r l' G) : Below w0.heap.size w0 w := by obtain ⟨F, S, F', S', _, _, _, _, _, _, h7, _⟩ := h; exact h7
theorem Pair.left (h : Pair w0 w a l r l' G) : TabG w0 w a l (fun _ => False) := by
  obtain ⟨F, S, F', S', h1, h2, h3, h4, h5, h6, h7, h8⟩ := h
  exact ⟨F, S, h1, fun b e => h3 b (.inl e), h7, fun _ e => e.elim⟩
theorem Pair.right (h : Pair w0 w a l r l' G) : ∃ F S t, RAt w F S r t l' := by
  obtain ⟨F, S, F', S', _, ⟨t, h2⟩, _⟩ := h
  exact ⟨F', S', t, h2⟩
theorem Pair.do_ (h : Pair w0 w a l r l' G) (o : Chk.Op) (hp : Chk.inR o.pr 4294967296) :
    Calls Try.prog 28 #[.pointer (some ⟨a, 0, none⟩), opV o] w fun e w' => e = .returned (.tuple #[.int .i64 (Chk.step l o).2.1, .int .i64 (Chk.step l o).2.2]) ∧ Pair w0 w' a (Chk.step l o).1 r l' G ∧ SameG w w' G := by
  obtain ⟨F, S, F', S', ⟨t, h1⟩, ⟨t', h2⟩, h3, h4, h5, h6, h7, h8⟩ := h
  refine (do_any h1 (fun b e => (h3 b (.inl e)).2) o hp).mono ?_
  rintro e w' ⟨he, Fn, Sn, ht, hk, hb, hS, hF⟩
  have hs := h7.size
  refine ⟨he, ⟨Fn, Sn, F', S', ht, ⟨t', h2.keep hk (fun b e e2 => h4 b e2 e) h6⟩, fun b e => ?_, fun b e e2 => ?_, fun b e e2 => ?_, fun b e e2 => ?_, Below.then_keep h7 hk (fun b e => (h3 b (.inl (.inr e))).1) (Nat.le_refl _), fun b e => ⟨Nat.lt_of_lt_of_le (h8 b e).1 hk.size, fun e2 => ?_, (h8 b e).2.2⟩⟩, fun b e => hk.block b (h8 b e).1 (h8 b e).2.1⟩
  · rcases e with (e | e) | e
    · refine ⟨?_, hb b (.inl e)⟩
      rcases hF b e with h | h
      · exact (h3 b (.inl (.inl h))).1
      · omega
    · refine ⟨?_, hb b (.inr e)⟩
      rcases hS b e with h | h
      · exact (h3 b (.inl (.inr h))).1
      · omega
    · exact ⟨(h3 b (.inr e)).1, Nat.lt_of_lt_of_le (h3 b (.inr e)).2 hk.size⟩
  · rcases hS b e with h | h
    · exact h4 b h e2
    · have := (h3 b (.inr (.inr e2))).2; omega
  · rcases hF b e with h | h
    · exact h5 b h e2
    · have := (h3 b (.inr (.inr e2))).2; omega
  · rcases hS b e2 with h | h
    · exact h6 b e h
    · have := (h3 b (.inr (.inl e))).2; omega
  · rcases hS b e2 with h | h
    · exact (h8 b e).2.1 h
    · have := (h8 b e).1; omega
theorem Pair.rdo_ (h : Pair w0 w a l r l' G) (o : Chk.Op) (hp : Chk.inR o.pr 4294967296) :
    Calls Try.prog 13 #[.pointer (some ⟨r, 0, none⟩), opV o] w fun e w' => e = .returned (.tuple #[.int .i64 (Chk.step l' o).2.1, .int .i64 (Chk.step l' o).2.2]) ∧ Pair w0 w' a l r (Chk.step l' o).1 G ∧ SameG w w' G := by
  obtain ⟨F, S, F', S', ⟨t, h1⟩, ⟨t', h2⟩, h3, h4, h5, h6, h7, h8⟩ := h
  refine (rdo_any h2 (fun b e => (h3 b (.inr e)).2) o hp).mono ?_
  rintro e w' ⟨he, Fn, Sn, ht, hk, hb, hS, hF⟩
  have hs := h7.size
  refine ⟨he, ⟨F, S, Fn, Sn, ⟨t, h1.keep hk (fun b e e2 => h4 b e e2) h5⟩, ht, fun b e => ?_, fun b e e2 => ?_, fun b e e2 => ?_, fun b e e2 => ?_, Below.then_keep h7 hk (fun b e => (h3 b (.inr (.inr e))).1) (Nat.le_refl _), fun b e => ⟨Nat.lt_of_lt_of_le (h8 b e).1 hk.size, (h8 b e).2.1, fun e2 => ?_⟩⟩, fun b e => hk.block b (h8 b e).1 (h8 b e).2.2⟩
  · rcases e with e | e | e
    · exact ⟨(h3 b (.inl e)).1, Nat.lt_of_lt_of_le (h3 b (.inl e)).2 hk.size⟩
    · refine ⟨?_, hb b (.inl e)⟩
      rcases hF b e with h | h
      · exact (h3 b (.inr (.inl h))).1
      · omega
    · refine ⟨?_, hb b (.inr e)⟩
      rcases hS b e with h | h
      · exact (h3 b (.inr (.inr h))).1
      · omega
  · rcases hS b e2 with h | h
    · exact h4 b e h
    · have := (h3 b (.inl (.inr e))).2; omega
  · rcases hS b e2 with h | h
    · exact h5 b e h
    · have := (h3 b (.inl (.inl e))).2; omega
  · rcases hF b e with h | h
    · exact h6 b h e2
    · have := (h3 b (.inl (.inr e2))).2; omega
  · rcases hS b e2 with h | h
    · exact (h8 b e).2.2 h
    · have := (h8 b e).1; omega
/-- the reference's empty table beside one of the program -/
theorem TabNew.pair (h : TabNew w0 w a l) : Pair w0 (w.alloc (.cells #[.slice none 0 0] 34)) a l w.heap.size [] (fun _ => False) := by
  obtain ⟨F, S, ⟨t, ht⟩, h2, h3⟩ := h
  have hbz : Below w.heap.size w (w.alloc (.cells #[.slice none 0 0] 34)) := (Below.refl _ _).alloc (Nat.le_refl _) _
  have hs : (w.alloc (.cells #[.slice none 0 0] 34)).heap.size = w.heap.size + 1 := by simp
  have hrow := IsRow.new w 34 [.slice none 0 0]
  refine ⟨F, S, fun _ => False, fun b => b = w.heap.size, ⟨t, ht.below hbz⟩, ⟨⟨none, 0, 0, []⟩, hrow, World.ownsRow_nil _ _ _ _, rfl, fun _ hx => (List.not_mem_nil hx).elim, rfl, fun g hg => (by cases hg), fun g hg => (by cases hg), fun _ e => e.elim, Chk.Inv.nil⟩, fun b e => ?_, fun b e e2 => ?_, fun b e e2 => ?_, fun b e => e.elim, h3.trans (hbz.mono h3.size), fun _ e => e.elim⟩
  · have hs3 := h3.size
    rcases e with e | e | e
    · exact ⟨(h2 b e).1, Nat.lt_of_lt_of_le (h2 b e).2 hbz.size⟩
    · exact e.elim
    · subst e; exact ⟨hs3, by rw [hs]; omega⟩
  · subst e2; have := (h2 _ (.inr e)).2; omega
  · subst e2; have := (h2 _ (.inl e)).2; omega
theorem Pair.same_ (h : Pair w0 w a l r l G) : Calls Try.prog 29 #[.pointer (some ⟨a, 0, none⟩), .pointer (some ⟨r, 0, none⟩)] w fun e w' => e = .returned (.bool true) ∧ Below w.heap.size w w' := by
  obtain ⟨F, S, t, hr⟩ := h.right
  exact same_any h.left hr
end
end Go.Proofs.Ytcicfneekmbamaa
