/- The reference's Clash: a walk of its text. -/
import Derived.Test.YtfnbcchmembomaaDoorClash4
import Derived.Test.YtfnbcchmembomaaDoorMaps
import Derived.Test.YtfnbcchmembomaaDoorPairW
import Derived.Test.YtfnbcchmembomaaDoorRefVerify
namespace Go.Proofs.YtfnbcchmembomaaDoor
set_option linter.unusedVariables false
set_option linter.unusedSimpArgs false
open Go.RowKit
def RNoColl (w : World) (e : Ending) (w' : World) : Prop := e = .returned (.agg #[.slice none 0 0, .slice none 0 0, .bool false]) ∧ Below w.heap.size w w'
def RClashR (L1 L2 : List (List UInt8)) (o : Option Nat) (w : World) (e : Ending) (w' : World) : Prop :=
  (o = none → RNoColl w e w') ∧ ∀ t, o = some t → ∃ (A : Option Addr) (N c : Nat) (A' : Option Addr) (N' c' : Nat), e = .returned (.agg #[.slice A N c, .slice A' N' c', .bool true]) ∧ Below w.heap.size w w' ∧
    N = (L1.getD t []).length ∧ Rd w' w'.heap.size 1 A N (bvs (L1.getD t [])) ∧ N' = (L2.getD t []).length ∧ Rd w' w'.heap.size 1 A' N' (bvs (L2.getD t []))
theorem sizeCo : (Tryd.prog.info? 46).map (·.size) = some 3 := by kernel_rfl
theorem InOk.some {L : List (List UInt8)} {m : Nat} {w w' : World} {e : Ending} (h : InOk L m w e w') : ∃ v S, e = .returned (.tuple #[v, .bool S]) ∧ Below w.heap.size w w' := by obtain ⟨A, c, xs, rfl, hb, _⟩ := h; exact ⟨_, _, rfl, hb⟩
theorem InNo.some {w w' : World} {e : Ending} (h : InNo w e w') : ∃ v S, e = .returned (.tuple #[v, .bool S]) ∧ Below w.heap.size w w' := by obtain ⟨v, rfl, hb⟩ := h; exact ⟨_, _, rfl, hb⟩
theorem str_beq (l1 l2 : List UInt8) (S : Bool) (hS : decide (l1 = l2) = S) : ((⟨l1.toArray⟩ : ByteArray).toList == (⟨l2.toArray⟩ : ByteArray).toList) = S := by
  rw [ByteArray.toList_eq, ByteArray.toList_eq]
  subst hS
  by_cases h : l1 = l2 <;> simp [h]
theorem refClash_none {L1 L2 : List (List UInt8)} {M : Nat} {w wr w9 : World} (HN : Hid (Mk.clashF L1 L2 M = none)) (q5 : Below w.heap.size w wr) (g9 : wr.grownBy w9 (some (w.heap.size + 2))) :
    RClashR L1 L2 (Mk.clashF L1 L2 M) w (.returned (.agg [Value.slice none 0 0, Value.slice none 0 0, Value.bool false].toArray)) w9 :=
  ⟨fun _ => ⟨rfl, q5.grown g9 q5.size (fun j hj => by have hj := Option.some.inj hj; omega)⟩, fun t ht => by rw [HN.out] at ht; cases ht⟩
theorem rd_apart {w w' : World} {A : Option Addr} {n b t : Nat} {l : List UInt8} (h : Rd w w.heap.size 1 A n (bvs l)) (hz : IsRow w b t [Value.slice none 0 0, Value.slice none 0 0, Value.bool false]) (hk : Keep (fun q => q = b) w w') : Rd w' w.heap.size 1 A n (bvs l) := by
  refine ⟨h.1, fun hn => ?_⟩
  obtain ⟨g, off, rfl, hg, hc⟩ := h.2 hn
  have hl : l.length = n := by simpa using h.1
  have h0 : (bvs l)[0]? = some (.int .u8 ((l.getD 0 0).toNat : Int)) := by simp [bvs, List.getD, List.getElem?_eq_getElem (show 0 < l.length by omega)]
  have hne : g ≠ b := fun e => by
    subst e
    have h1 := hc 0 _ h0
    rw [hz.cell] at h1
    match off, h1 with
    | 0, h1 => simp at h1
    | 1, h1 => simp at h1
    | 2, h1 => simp at h1
    | k + 3, h1 => simp at h1
  exact ⟨g, off, rfl, hg, fun j u hu => (hk.cell (p := ⟨g, off + j, none⟩) hg hne).trans (hc j u hu)⟩
theorem refClash_found {L1 L2 : List (List UInt8)} {M k : Nat} {w wr wx wy w9 : World} {A5 A6 : Option Addr} {N5 c5 N6 c6 : Nat} (HF : Hid (Mk.clashF L1 L2 M = some k)) (q5 : Below w.heap.size w wr) (hvx : Below wr.heap.size wr wx) (hvy : Below wx.heap.size wx wy) (g9 : wy.grownBy w9 (some (w.heap.size + 2)))
    (R5 : Hid (N5 = (L1.getD k []).length ∧ Rd wr wr.heap.size 1 A5 N5 (bvs (L1.getD k [])))) (R6 : Hid (N6 = (L2.getD k []).length ∧ Rd wr wr.heap.size 1 A6 N6 (bvs (L2.getD k []))))
    (rz : IsRow wr (w.heap.size + 2) 46 [Value.slice none 0 0, Value.slice none 0 0, Value.bool false]) :
    RClashR L1 L2 (Mk.clashF L1 L2 M) w (.returned (.agg [Value.slice A5 N5 c5, Value.slice A6 N6 c6, Value.bool true].toArray)) w9 := by
  have qx := q5.trans (hvx.mono q5.size)
  have qy := qx.trans (hvy.mono qx.size)
  have q9 := qy.grown g9 qy.size (fun j hj => by have hj := Option.some.inj hj; omega)
  have hk : Keep (fun b => b = w.heap.size + 2) wr w9 := ((Keep.of_below hvx).then_below hvy).grown g9 fun j hj => .inl (Option.some.inj hj).symm
  refine ⟨fun hn => by (rw [HF.out] at hn; cases hn), fun t ht => ?_⟩
  rw [HF.out] at ht
  obtain rfl := Option.some.inj ht
  exact ⟨A5, N5, c5, A6, N6, c6, rfl, q9, R5.out.1, (rd_apart R5.out.2 rz hk).more hk.size, R6.out.1, (rd_apart R6.out.2 rz hk).more hk.size⟩
set_option maxRecDepth 100000 in
set_option maxHeartbeats 2000000 in
theorem refClash_no1 (n i : Int) (a b : List UInt8) (ha : a.length = 16) (hb : b.length = 16) (P Q : Value) (w : World)
    (H1 : ∀ W, Below w.heap.size w W → Calls Tryd.prog 24 #[.int .i64 n, .int .i64 i, dv a, P] W fun e W' => (∃ v, e = .returned (.tuple #[v, .bool false])) ∧ Below W.heap.size W W')
    (H2 : ∀ W, Below w.heap.size w W → Calls Tryd.prog 24 #[.int .i64 n, .int .i64 i, dv b, Q] W fun e W' => (∃ v S, e = .returned (.tuple #[v, .bool S])) ∧ Below W.heap.size W W') :
    Calls Tryd.prog 23 #[.int .i64 n, .int .i64 i, dv a, dv b, P, Q] w (RNoColl w) := by
  have h2 := rows2 w 30 30 (bvs a) (bvs b)
  have hbw0 : Below w.heap.size w ((w.alloc (.cells (bvs a).toArray 30)).alloc (.cells (bvs b).toArray 30)) := ((Below.refl _ w).alloc (Nat.le_refl _) _).alloc (by rw [alloc_size1]; omega) _
  obtain ⟨w0, hw0⟩ : ∃ w0, ((w.alloc (.cells (bvs a).toArray 30)).alloc (.cells (bvs b).toArray 30)) = w0 := ⟨_, rfl⟩
  rw [hw0] at h2 hbw0
  have rz0 := IsRow.new w0 46 [Value.slice none 0 0, Value.slice none 0 0, Value.bool false]
  have hbw : Below w.heap.size w (w0.alloc (.cells [Value.slice none 0 0, Value.slice none 0 0, Value.bool false].toArray 46)) := hbw0.alloc hbw0.size _
  have hsz0 : w0.heap.size = w.heap.size + 2 := by rw [← hw0, alloc_size1, alloc_size1]
  obtain ⟨w1, hw1⟩ : ∃ w1, w0.alloc (.cells [Value.slice none 0 0, Value.slice none 0 0, Value.bool false].toArray 46) = w1 := ⟨_, rfl⟩
  have ra := h2.1.alloc (.cells [Value.slice none 0 0, Value.slice none 0 0, Value.bool false].toArray 46)
  have rb := h2.2.alloc (.cells [Value.slice none 0 0, Value.slice none 0 0, Value.bool false].toArray 46)
  rw [hw1] at rz0 hbw ra rb
  rw [hsz0] at rz0
  have HW0 := Lib.hid hw0
  have HW1 := Lib.hid hw1
  have HA := Lib.hid ha
  have HB := Lib.hid hb
  have HX := Lib.hid H1
  have HY := Lib.hid H2
  clear h2 hw0 ha hb H1 H2 hbw0 hsz0 hw1
  go_enter Tryd.func23, Tryd.ntmps23
  go_upto_region 1 with fail
  rw [HW0.out, HW1.out]
  go_wp2_with (first
    | (refine wpList_loadRow rfl _ (.tmp 9) rfl rb1 rfl Tryd.underlying30 (by rw [bvs_len, HB.out]; exact size16) ?_)
    | (refine wpList_loadRow rfl _ (.tmp 8) rfl ra rfl Tryd.underlying30 (by rw [bvs_len, HA.out]; exact size16) ?_)
    | (have hgd := rb1; go_at_call 24; refine (HY.out _ q2).mono ?_; rintro e w3 ⟨⟨v3, S3, rfl⟩, b3⟩; have q3 := q2.trans (b3.mono q2.size); have rz3 := rz2.below' b3)
    | (go_at_call 24; refine (HX.out _ hbw).mono ?_; rintro e w2 ⟨⟨v2, rfl⟩, b2⟩; have q2 := hbw.trans (b2.mono hbw.size); have rb1 := rb.below' b2; have rz2 := rz0.below' b2)
    | fail)
  have hv0 : Below w3.heap.size w3 w3.drew := (Below.refl _ _).drew
  refine wp_region_held_drew (S := fun W => Below w3.heap.size w3 W) (by kernel_rfl) (hv0) (fun hHeld => ?_)
  refine wpAnyH_take (i := 0) (oi := { dst := some 34, op := Op.move (Operand.tmp 14), type := 4, pos := "ref.go:267", after := #[], guard := none }) (v := ?v0_1) rfl (by kernel_rfl) (by kernel_rfl) (by kernel_rfl) (fun _ _ _ h => h) (Or.inl ⟨by rfl, ?h0_1⟩) (by assumption) ?r0_1
  case h0_1 =>
    intro W hSW
    try dsimp only at hSW
    go_simp
    try with_reducible rfl
  try simp only [Act.put, List.setIfInBounds_toArray, List.set_cons_zero, List.set_cons_succ]
  refine wpAnyH_take (i := 1) (oi := { dst := some 35, op := Op.unOp UnOp.not 4 (Operand.tmp 34), type := 4, pos := "ref.go:267", after := #[{ on := 0, ground := Ground.data }], guard := none }) (v := ?v1_2) rfl (by kernel_rfl) (by kernel_rfl) (by kernel_rfl) (fun _ _ _ h => h) (Or.inl ⟨by rfl, ?h1_2⟩) (by assumption) ?r1_2
  case h1_2 =>
    intro W hSW
    try dsimp only at hSW
    go_simp
    try with_reducible rfl
  try simp only [Act.put, List.setIfInBounds_toArray, List.set_cons_zero, List.set_cons_succ]
  refine wpAnyH_take (i := 2) (oi := { dst := some 36, op := Op.move (Operand.tmp 35), type := 4, pos := "ref.go:267", after := #[{ on := 1, ground := Ground.data }], guard := none }) (v := ?v2_3) rfl (by kernel_rfl) (by kernel_rfl) (by kernel_rfl) (fun _ _ _ h => h) (Or.inl ⟨by rfl, ?h2_3⟩) (by assumption) ?r2_3
  case h2_3 =>
    intro W hSW
    try dsimp only at hSW
    go_simp
    try with_reducible rfl
  try simp only [Act.put, List.setIfInBounds_toArray, List.set_cons_zero, List.set_cons_succ]
  refine wpAnyH_take (i := 3) (oi := { dst := some 37, op := Op.move (Operand.tmp 16), type := 4, pos := "ref.go:267", after := #[{ on := 2, ground := Ground.guard }], guard := some (2, false) }) (v := undef) rfl (by kernel_rfl) (by kernel_rfl) (by kernel_rfl) (fun _ _ _ h => h) (Or.inr ⟨by rfl, rfl⟩) (by assumption) ?_
  try simp only [Act.put, List.setIfInBounds_toArray, List.set_cons_zero, List.set_cons_succ]
  refine wpAnyH_take (i := 4) (oi := { dst := some 38, op := Op.unOp UnOp.not 4 (Operand.tmp 37), type := 4, pos := "ref.go:267", after := #[{ on := 3, ground := Ground.data }, { on := 2, ground := Ground.guard }], guard := some (2, false) }) (v := undef) rfl (by kernel_rfl) (by kernel_rfl) (by kernel_rfl) (fun _ _ _ h => h) (Or.inr ⟨by rfl, rfl⟩) (by assumption) ?_
  try simp only [Act.put, List.setIfInBounds_toArray, List.set_cons_zero, List.set_cons_succ]
  refine wpAnyH_take (i := 5) (oi := { dst := some 39, op := Op.pick (Operand.tmp 36) (Operand.const (Value.bool true)) (Operand.tmp 38), type := 4, pos := "ref.go:267", after := #[{ on := 2, ground := Ground.data }, { on := 4, ground := Ground.data }], guard := none }) (v := ?v5_6) rfl (by kernel_rfl) (by kernel_rfl) (by kernel_rfl) (fun _ _ _ h => h) (Or.inl ⟨by rfl, ?h5_6⟩) (by assumption) ?r5_6
  case h5_6 =>
    intro W hSW
    try dsimp only at hSW
    go_simp
    try with_reducible rfl
  try simp only [Act.put, List.setIfInBounds_toArray, List.set_cons_zero, List.set_cons_succ]
  refine wpAnyH_take (i := 6) (oi := { dst := some 40, op := Op.move (Operand.tmp 39), type := 4, pos := "ref.go:267", after := #[{ on := 5, ground := Ground.data }, { on := 2, ground := Ground.chain }], guard := none }) (v := ?v6_7) rfl (by kernel_rfl) (by kernel_rfl) (by kernel_rfl) (fun _ _ _ h => h) (Or.inl ⟨by rfl, ?h6_7⟩) (by assumption) ?r6_7
  case h6_7 =>
    intro W hSW
    try dsimp only at hSW
    go_simp
    try with_reducible rfl
  try simp only [Act.put, List.setIfInBounds_toArray, List.set_cons_zero, List.set_cons_succ]
  refine wpAnyH_take (i := 7) (oi := { dst := some 41, op := Op.move (Operand.tmp 13), type := 48, pos := "ref.go:267", after := #[{ on := 6, ground := Ground.guard }], guard := some (6, false) }) (v := undef) rfl (by kernel_rfl) (by kernel_rfl) (by kernel_rfl) (fun _ _ _ h => h) (Or.inr ⟨by rfl, rfl⟩) (by assumption) ?_
  try simp only [Act.put, List.setIfInBounds_toArray, List.set_cons_zero, List.set_cons_succ]
  refine wpAnyH_take (i := 8) (oi := { dst := some 42, op := Op.move (Operand.tmp 13), type := 48, pos := "ref.go:267", after := #[{ on := 6, ground := Ground.guard }], guard := some (6, false) }) (v := undef) rfl (by kernel_rfl) (by kernel_rfl) (by kernel_rfl) (fun _ _ _ h => h) (Or.inr ⟨by rfl, rfl⟩) (by assumption) ?_
  try simp only [Act.put, List.setIfInBounds_toArray, List.set_cons_zero, List.set_cons_succ]
  refine wpAnyH_take (i := 9) (oi := { dst := some 43, op := Op.call { callee := Callee.builtin Builtin.len, args := #[Operand.tmp 42], argTypes := #[48] }, type := 3, pos := "ref.go:267", after := #[{ on := 8, ground := Ground.data }, { on := 6, ground := Ground.guard }], guard := some (6, false) }) (v := undef) rfl (by kernel_rfl) (by kernel_rfl) (by kernel_rfl) (fun _ _ _ h => h) (Or.inr ⟨by rfl, rfl⟩) (by assumption) ?_
  try simp only [Act.put, List.setIfInBounds_toArray, List.set_cons_zero, List.set_cons_succ]
  refine wpAnyH_take (i := 10) (oi := { dst := some 44, op := Op.binOp BinOp.sub 3 (Operand.tmp 43) (Operand.const (Value.int IntKind.i64 1)) 3, type := 3, pos := "ref.go:267", after := #[{ on := 9, ground := Ground.data }, { on := 6, ground := Ground.guard }], guard := some (6, false) }) (v := undef) rfl (by kernel_rfl) (by kernel_rfl) (by kernel_rfl) (fun _ _ _ h => h) (Or.inr ⟨by rfl, rfl⟩) (by assumption) ?_
  try simp only [Act.put, List.setIfInBounds_toArray, List.set_cons_zero, List.set_cons_succ]
  refine wpAnyH_take (i := 11) (oi := { dst := some 45, op := Op.indexAddr 48 (Operand.tmp 41) (Operand.tmp 44), type := 0, pos := "ref.go:267", after := #[{ on := 7, ground := Ground.data }, { on := 10, ground := Ground.data }, { on := 6, ground := Ground.guard }], guard := some (6, false) }) (v := undef) rfl (by kernel_rfl) (by kernel_rfl) (by kernel_rfl) (fun _ _ _ h => h) (Or.inr ⟨by rfl, rfl⟩) (by assumption) ?_
  try simp only [Act.put, List.setIfInBounds_toArray, List.set_cons_zero, List.set_cons_succ]
  refine wpAnyH_take (i := 12) (oi := { dst := some 46, op := Op.load 22 (Operand.tmp 45), type := 22, pos := "ref.go:267", after := #[{ on := 11, ground := Ground.data }, { on := 6, ground := Ground.guard }], guard := some (6, false) }) (v := undef) rfl (by kernel_rfl) (by kernel_rfl) (by kernel_rfl) (fun _ _ _ h => h) (Or.inr ⟨by rfl, rfl⟩) (by assumption) ?_
  try simp only [Act.put, List.setIfInBounds_toArray, List.set_cons_zero, List.set_cons_succ]
  refine wpAnyH_take (i := 13) (oi := { dst := some 47, op := Op.call { callee := Callee.value (Operand.func 25), args := #[Operand.tmp 46], argTypes := #[22] }, type := 30, pos := "ref.go:267", after := #[{ on := 12, ground := Ground.data }, { on := 6, ground := Ground.chain }, { on := 6, ground := Ground.guard }], guard := some (6, false) }) (v := undef) rfl (by kernel_rfl) (by kernel_rfl) (by kernel_rfl) (fun _ _ _ h => h) (Or.inr ⟨by rfl, rfl⟩) (by assumption) ?_
  try simp only [Act.put, List.setIfInBounds_toArray, List.set_cons_zero, List.set_cons_succ]
  refine wpAnyH_take (i := 14) (oi := { dst := some 48, op := Op.move (Operand.tmp 15), type := 48, pos := "ref.go:267", after := #[{ on := 6, ground := Ground.guard }], guard := some (6, false) }) (v := undef) rfl (by kernel_rfl) (by kernel_rfl) (by kernel_rfl) (fun _ _ _ h => h) (Or.inr ⟨by rfl, rfl⟩) (by assumption) ?_
  try simp only [Act.put, List.setIfInBounds_toArray, List.set_cons_zero, List.set_cons_succ]
  refine wpAnyH_take (i := 15) (oi := { dst := some 49, op := Op.move (Operand.tmp 15), type := 48, pos := "ref.go:267", after := #[{ on := 6, ground := Ground.guard }], guard := some (6, false) }) (v := undef) rfl (by kernel_rfl) (by kernel_rfl) (by kernel_rfl) (fun _ _ _ h => h) (Or.inr ⟨by rfl, rfl⟩) (by assumption) ?_
  try simp only [Act.put, List.setIfInBounds_toArray, List.set_cons_zero, List.set_cons_succ]
  refine wpAnyH_take (i := 16) (oi := { dst := some 50, op := Op.call { callee := Callee.builtin Builtin.len, args := #[Operand.tmp 49], argTypes := #[48] }, type := 3, pos := "ref.go:267", after := #[{ on := 15, ground := Ground.data }, { on := 6, ground := Ground.guard }], guard := some (6, false) }) (v := undef) rfl (by kernel_rfl) (by kernel_rfl) (by kernel_rfl) (fun _ _ _ h => h) (Or.inr ⟨by rfl, rfl⟩) (by assumption) ?_
  try simp only [Act.put, List.setIfInBounds_toArray, List.set_cons_zero, List.set_cons_succ]
  refine wpAnyH_take (i := 17) (oi := { dst := some 51, op := Op.binOp BinOp.sub 3 (Operand.tmp 50) (Operand.const (Value.int IntKind.i64 1)) 3, type := 3, pos := "ref.go:267", after := #[{ on := 16, ground := Ground.data }, { on := 6, ground := Ground.guard }], guard := some (6, false) }) (v := undef) rfl (by kernel_rfl) (by kernel_rfl) (by kernel_rfl) (fun _ _ _ h => h) (Or.inr ⟨by rfl, rfl⟩) (by assumption) ?_
  try simp only [Act.put, List.setIfInBounds_toArray, List.set_cons_zero, List.set_cons_succ]
  refine wpAnyH_take (i := 18) (oi := { dst := some 52, op := Op.indexAddr 48 (Operand.tmp 48) (Operand.tmp 51), type := 0, pos := "ref.go:267", after := #[{ on := 14, ground := Ground.data }, { on := 17, ground := Ground.data }, { on := 6, ground := Ground.guard }], guard := some (6, false) }) (v := undef) rfl (by kernel_rfl) (by kernel_rfl) (by kernel_rfl) (fun _ _ _ h => h) (Or.inr ⟨by rfl, rfl⟩) (by assumption) ?_
  try simp only [Act.put, List.setIfInBounds_toArray, List.set_cons_zero, List.set_cons_succ]
  refine wpAnyH_take (i := 19) (oi := { dst := some 53, op := Op.load 22 (Operand.tmp 52), type := 22, pos := "ref.go:267", after := #[{ on := 18, ground := Ground.data }, { on := 6, ground := Ground.guard }], guard := some (6, false) }) (v := undef) rfl (by kernel_rfl) (by kernel_rfl) (by kernel_rfl) (fun _ _ _ h => h) (Or.inr ⟨by rfl, rfl⟩) (by assumption) ?_
  try simp only [Act.put, List.setIfInBounds_toArray, List.set_cons_zero, List.set_cons_succ]
  refine wpAnyH_take (i := 20) (oi := { dst := some 54, op := Op.call { callee := Callee.value (Operand.func 25), args := #[Operand.tmp 53], argTypes := #[22] }, type := 30, pos := "ref.go:267", after := #[{ on := 19, ground := Ground.data }, { on := 13, ground := Ground.chain }, { on := 6, ground := Ground.guard }], guard := some (6, false) }) (v := undef) rfl (by kernel_rfl) (by kernel_rfl) (by kernel_rfl) (fun _ _ _ h => h) (Or.inr ⟨by rfl, rfl⟩) (by assumption) ?_
  try simp only [Act.put, List.setIfInBounds_toArray, List.set_cons_zero, List.set_cons_succ]
  refine wpAnyH_take (i := 21) (oi := { dst := some 55, op := Op.binOp BinOp.neq 30 (Operand.tmp 47) (Operand.tmp 54) 30, type := 4, pos := "ref.go:267", after := #[{ on := 13, ground := Ground.data }, { on := 20, ground := Ground.data }, { on := 6, ground := Ground.guard }], guard := some (6, false) }) (v := undef) rfl (by kernel_rfl) (by kernel_rfl) (by kernel_rfl) (fun _ _ _ h => h) (Or.inr ⟨by rfl, rfl⟩) (by assumption) ?_
  try simp only [Act.put, List.setIfInBounds_toArray, List.set_cons_zero, List.set_cons_succ]
  refine wpAnyH_take (i := 22) (oi := { dst := some 56, op := Op.pick (Operand.tmp 40) (Operand.const (Value.bool true)) (Operand.tmp 55), type := 4, pos := "ref.go:267", after := #[{ on := 6, ground := Ground.data }, { on := 21, ground := Ground.data }], guard := none }) (v := ?v22_23) rfl (by kernel_rfl) (by kernel_rfl) (by kernel_rfl) (fun _ _ _ h => h) (Or.inl ⟨by rfl, ?h22_23⟩) (by assumption) ?r22_23
  case h22_23 =>
    intro W hSW
    try dsimp only at hSW
    go_simp
    try with_reducible rfl
  try simp only [Act.put, List.setIfInBounds_toArray, List.set_cons_zero, List.set_cons_succ]
  refine wpAnyH_done (by kernel_rfl) ?_ _
  go_upto_region 4 with fail
  have rz4 := rz3.below' hv0
  go_wp2_with (refine wpList_storeRow rfl _ (.tmp 12) (.tmp 57) rfl (l' := [Value.slice none 0 0, Value.slice none 0 0, Value.bool false]) rz4 rfl rfl sizeCo rfl rfl ?_; intro w9 r9 g9 z9)
  exact bodyPost_ret (resultRowS rfl _ _ r9 rfl Tryd.underlying46 sizeCo) rfl (show RNoColl _ _ _ from ⟨rfl, (q3.trans (hv0.mono q3.size)).grown g9 (by have := q3.size; have := hv0.size; omega) (fun j hj => by have hj := Option.some.inj hj; omega)⟩)
set_option maxRecDepth 100000 in
set_option maxHeartbeats 2000000 in
theorem refClash_no2 (n i : Int) (a b : List UInt8) (ha : a.length = 16) (hb : b.length = 16) (P Q : Value) (w : World)
    (H1 : ∀ W, Below w.heap.size w W → Calls Tryd.prog 24 #[.int .i64 n, .int .i64 i, dv a, P] W fun e W' => (∃ v, e = .returned (.tuple #[v, .bool true])) ∧ Below W.heap.size W W')
    (H2 : ∀ W, Below w.heap.size w W → Calls Tryd.prog 24 #[.int .i64 n, .int .i64 i, dv b, Q] W fun e W' => (∃ v, e = .returned (.tuple #[v, .bool false])) ∧ Below W.heap.size W W') :
    Calls Tryd.prog 23 #[.int .i64 n, .int .i64 i, dv a, dv b, P, Q] w (RNoColl w) := by
  have h2 := rows2 w 30 30 (bvs a) (bvs b)
  have hbw0 : Below w.heap.size w ((w.alloc (.cells (bvs a).toArray 30)).alloc (.cells (bvs b).toArray 30)) := ((Below.refl _ w).alloc (Nat.le_refl _) _).alloc (by rw [alloc_size1]; omega) _
  obtain ⟨w0, hw0⟩ : ∃ w0, ((w.alloc (.cells (bvs a).toArray 30)).alloc (.cells (bvs b).toArray 30)) = w0 := ⟨_, rfl⟩
  rw [hw0] at h2 hbw0
  have rz0 := IsRow.new w0 46 [Value.slice none 0 0, Value.slice none 0 0, Value.bool false]
  have hbw : Below w.heap.size w (w0.alloc (.cells [Value.slice none 0 0, Value.slice none 0 0, Value.bool false].toArray 46)) := hbw0.alloc hbw0.size _
  have hsz0 : w0.heap.size = w.heap.size + 2 := by rw [← hw0, alloc_size1, alloc_size1]
  obtain ⟨w1, hw1⟩ : ∃ w1, w0.alloc (.cells [Value.slice none 0 0, Value.slice none 0 0, Value.bool false].toArray 46) = w1 := ⟨_, rfl⟩
  have ra := h2.1.alloc (.cells [Value.slice none 0 0, Value.slice none 0 0, Value.bool false].toArray 46)
  have rb := h2.2.alloc (.cells [Value.slice none 0 0, Value.slice none 0 0, Value.bool false].toArray 46)
  rw [hw1] at rz0 hbw ra rb
  rw [hsz0] at rz0
  have HW0 := Lib.hid hw0
  have HW1 := Lib.hid hw1
  have HA := Lib.hid ha
  have HB := Lib.hid hb
  have HX := Lib.hid H1
  have HY := Lib.hid H2
  clear h2 hw0 ha hb H1 H2 hbw0 hsz0 hw1
  go_enter Tryd.func23, Tryd.ntmps23
  go_upto_region 1 with fail
  rw [HW0.out, HW1.out]
  go_wp2_with (first
    | (refine wpList_loadRow rfl _ (.tmp 9) rfl rb1 rfl Tryd.underlying30 (by rw [bvs_len, HB.out]; exact size16) ?_)
    | (refine wpList_loadRow rfl _ (.tmp 8) rfl ra rfl Tryd.underlying30 (by rw [bvs_len, HA.out]; exact size16) ?_)
    | (have hgd := rb1; go_at_call 24; refine (HY.out _ q2).mono ?_; rintro e w3 ⟨⟨v3, rfl⟩, b3⟩; have q3 := q2.trans (b3.mono q2.size); have rz3 := rz2.below' b3)
    | (go_at_call 24; refine (HX.out _ hbw).mono ?_; rintro e w2 ⟨⟨v2, rfl⟩, b2⟩; have q2 := hbw.trans (b2.mono hbw.size); have rb1 := rb.below' b2; have rz2 := rz0.below' b2)
    | fail)
  have hv0 : Below w3.heap.size w3 w3.drew := (Below.refl _ _).drew
  refine wp_region_held_drew (S := fun W => Below w3.heap.size w3 W) (by kernel_rfl) (hv0) (fun hHeld => ?_)
  refine wpAnyH_take (i := 0) (oi := { dst := some 34, op := Op.move (Operand.tmp 14), type := 4, pos := "ref.go:267", after := #[], guard := none }) (v := ?v0_1) rfl (by kernel_rfl) (by kernel_rfl) (by kernel_rfl) (fun _ _ _ h => h) (Or.inl ⟨by rfl, ?h0_1⟩) (by assumption) ?r0_1
  case h0_1 =>
    intro W hSW
    try dsimp only at hSW
    go_simp
    try with_reducible rfl
  try simp only [Act.put, List.setIfInBounds_toArray, List.set_cons_zero, List.set_cons_succ]
  refine wpAnyH_take (i := 1) (oi := { dst := some 35, op := Op.unOp UnOp.not 4 (Operand.tmp 34), type := 4, pos := "ref.go:267", after := #[{ on := 0, ground := Ground.data }], guard := none }) (v := ?v1_2) rfl (by kernel_rfl) (by kernel_rfl) (by kernel_rfl) (fun _ _ _ h => h) (Or.inl ⟨by rfl, ?h1_2⟩) (by assumption) ?r1_2
  case h1_2 =>
    intro W hSW
    try dsimp only at hSW
    go_simp
    try with_reducible rfl
  try simp only [Act.put, List.setIfInBounds_toArray, List.set_cons_zero, List.set_cons_succ]
  refine wpAnyH_take (i := 2) (oi := { dst := some 36, op := Op.move (Operand.tmp 35), type := 4, pos := "ref.go:267", after := #[{ on := 1, ground := Ground.data }], guard := none }) (v := ?v2_3) rfl (by kernel_rfl) (by kernel_rfl) (by kernel_rfl) (fun _ _ _ h => h) (Or.inl ⟨by rfl, ?h2_3⟩) (by assumption) ?r2_3
  case h2_3 =>
    intro W hSW
    try dsimp only at hSW
    go_simp
    try with_reducible rfl
  try simp only [Act.put, List.setIfInBounds_toArray, List.set_cons_zero, List.set_cons_succ]
  refine wpAnyH_take (i := 3) (oi := { dst := some 37, op := Op.move (Operand.tmp 16), type := 4, pos := "ref.go:267", after := #[{ on := 2, ground := Ground.guard }], guard := some (2, false) }) (v := ?v3_4) rfl (by kernel_rfl) (by kernel_rfl) (by kernel_rfl) (fun _ _ _ h => h) (Or.inl ⟨by rfl, ?h3_4⟩) (by assumption) ?r3_4
  case h3_4 =>
    intro W hSW
    try dsimp only at hSW
    go_simp
    try with_reducible rfl
  try simp only [Act.put, List.setIfInBounds_toArray, List.set_cons_zero, List.set_cons_succ]
  refine wpAnyH_take (i := 4) (oi := { dst := some 38, op := Op.unOp UnOp.not 4 (Operand.tmp 37), type := 4, pos := "ref.go:267", after := #[{ on := 3, ground := Ground.data }, { on := 2, ground := Ground.guard }], guard := some (2, false) }) (v := ?v4_5) rfl (by kernel_rfl) (by kernel_rfl) (by kernel_rfl) (fun _ _ _ h => h) (Or.inl ⟨by rfl, ?h4_5⟩) (by assumption) ?r4_5
  case h4_5 =>
    intro W hSW
    try dsimp only at hSW
    go_simp
    try with_reducible rfl
  try simp only [Act.put, List.setIfInBounds_toArray, List.set_cons_zero, List.set_cons_succ]
  refine wpAnyH_take (i := 5) (oi := { dst := some 39, op := Op.pick (Operand.tmp 36) (Operand.const (Value.bool true)) (Operand.tmp 38), type := 4, pos := "ref.go:267", after := #[{ on := 2, ground := Ground.data }, { on := 4, ground := Ground.data }], guard := none }) (v := ?v5_6) rfl (by kernel_rfl) (by kernel_rfl) (by kernel_rfl) (fun _ _ _ h => h) (Or.inl ⟨by rfl, ?h5_6⟩) (by assumption) ?r5_6
  case h5_6 =>
    intro W hSW
    try dsimp only at hSW
    go_simp
    try with_reducible rfl
  try simp only [Act.put, List.setIfInBounds_toArray, List.set_cons_zero, List.set_cons_succ]
  refine wpAnyH_take (i := 6) (oi := { dst := some 40, op := Op.move (Operand.tmp 39), type := 4, pos := "ref.go:267", after := #[{ on := 5, ground := Ground.data }, { on := 2, ground := Ground.chain }], guard := none }) (v := ?v6_7) rfl (by kernel_rfl) (by kernel_rfl) (by kernel_rfl) (fun _ _ _ h => h) (Or.inl ⟨by rfl, ?h6_7⟩) (by assumption) ?r6_7
  case h6_7 =>
    intro W hSW
    try dsimp only at hSW
    go_simp
    try with_reducible rfl
  try simp only [Act.put, List.setIfInBounds_toArray, List.set_cons_zero, List.set_cons_succ]
  refine wpAnyH_take (i := 7) (oi := { dst := some 41, op := Op.move (Operand.tmp 13), type := 48, pos := "ref.go:267", after := #[{ on := 6, ground := Ground.guard }], guard := some (6, false) }) (v := undef) rfl (by kernel_rfl) (by kernel_rfl) (by kernel_rfl) (fun _ _ _ h => h) (Or.inr ⟨by rfl, rfl⟩) (by assumption) ?_
  try simp only [Act.put, List.setIfInBounds_toArray, List.set_cons_zero, List.set_cons_succ]
  refine wpAnyH_take (i := 8) (oi := { dst := some 42, op := Op.move (Operand.tmp 13), type := 48, pos := "ref.go:267", after := #[{ on := 6, ground := Ground.guard }], guard := some (6, false) }) (v := undef) rfl (by kernel_rfl) (by kernel_rfl) (by kernel_rfl) (fun _ _ _ h => h) (Or.inr ⟨by rfl, rfl⟩) (by assumption) ?_
  try simp only [Act.put, List.setIfInBounds_toArray, List.set_cons_zero, List.set_cons_succ]
  refine wpAnyH_take (i := 9) (oi := { dst := some 43, op := Op.call { callee := Callee.builtin Builtin.len, args := #[Operand.tmp 42], argTypes := #[48] }, type := 3, pos := "ref.go:267", after := #[{ on := 8, ground := Ground.data }, { on := 6, ground := Ground.guard }], guard := some (6, false) }) (v := undef) rfl (by kernel_rfl) (by kernel_rfl) (by kernel_rfl) (fun _ _ _ h => h) (Or.inr ⟨by rfl, rfl⟩) (by assumption) ?_
  try simp only [Act.put, List.setIfInBounds_toArray, List.set_cons_zero, List.set_cons_succ]
  refine wpAnyH_take (i := 10) (oi := { dst := some 44, op := Op.binOp BinOp.sub 3 (Operand.tmp 43) (Operand.const (Value.int IntKind.i64 1)) 3, type := 3, pos := "ref.go:267", after := #[{ on := 9, ground := Ground.data }, { on := 6, ground := Ground.guard }], guard := some (6, false) }) (v := undef) rfl (by kernel_rfl) (by kernel_rfl) (by kernel_rfl) (fun _ _ _ h => h) (Or.inr ⟨by rfl, rfl⟩) (by assumption) ?_
  try simp only [Act.put, List.setIfInBounds_toArray, List.set_cons_zero, List.set_cons_succ]
  refine wpAnyH_take (i := 11) (oi := { dst := some 45, op := Op.indexAddr 48 (Operand.tmp 41) (Operand.tmp 44), type := 0, pos := "ref.go:267", after := #[{ on := 7, ground := Ground.data }, { on := 10, ground := Ground.data }, { on := 6, ground := Ground.guard }], guard := some (6, false) }) (v := undef) rfl (by kernel_rfl) (by kernel_rfl) (by kernel_rfl) (fun _ _ _ h => h) (Or.inr ⟨by rfl, rfl⟩) (by assumption) ?_
  try simp only [Act.put, List.setIfInBounds_toArray, List.set_cons_zero, List.set_cons_succ]
  refine wpAnyH_take (i := 12) (oi := { dst := some 46, op := Op.load 22 (Operand.tmp 45), type := 22, pos := "ref.go:267", after := #[{ on := 11, ground := Ground.data }, { on := 6, ground := Ground.guard }], guard := some (6, false) }) (v := undef) rfl (by kernel_rfl) (by kernel_rfl) (by kernel_rfl) (fun _ _ _ h => h) (Or.inr ⟨by rfl, rfl⟩) (by assumption) ?_
  try simp only [Act.put, List.setIfInBounds_toArray, List.set_cons_zero, List.set_cons_succ]
  refine wpAnyH_take (i := 13) (oi := { dst := some 47, op := Op.call { callee := Callee.value (Operand.func 25), args := #[Operand.tmp 46], argTypes := #[22] }, type := 30, pos := "ref.go:267", after := #[{ on := 12, ground := Ground.data }, { on := 6, ground := Ground.chain }, { on := 6, ground := Ground.guard }], guard := some (6, false) }) (v := undef) rfl (by kernel_rfl) (by kernel_rfl) (by kernel_rfl) (fun _ _ _ h => h) (Or.inr ⟨by rfl, rfl⟩) (by assumption) ?_
  try simp only [Act.put, List.setIfInBounds_toArray, List.set_cons_zero, List.set_cons_succ]
  refine wpAnyH_take (i := 14) (oi := { dst := some 48, op := Op.move (Operand.tmp 15), type := 48, pos := "ref.go:267", after := #[{ on := 6, ground := Ground.guard }], guard := some (6, false) }) (v := undef) rfl (by kernel_rfl) (by kernel_rfl) (by kernel_rfl) (fun _ _ _ h => h) (Or.inr ⟨by rfl, rfl⟩) (by assumption) ?_
  try simp only [Act.put, List.setIfInBounds_toArray, List.set_cons_zero, List.set_cons_succ]
  refine wpAnyH_take (i := 15) (oi := { dst := some 49, op := Op.move (Operand.tmp 15), type := 48, pos := "ref.go:267", after := #[{ on := 6, ground := Ground.guard }], guard := some (6, false) }) (v := undef) rfl (by kernel_rfl) (by kernel_rfl) (by kernel_rfl) (fun _ _ _ h => h) (Or.inr ⟨by rfl, rfl⟩) (by assumption) ?_
  try simp only [Act.put, List.setIfInBounds_toArray, List.set_cons_zero, List.set_cons_succ]
  refine wpAnyH_take (i := 16) (oi := { dst := some 50, op := Op.call { callee := Callee.builtin Builtin.len, args := #[Operand.tmp 49], argTypes := #[48] }, type := 3, pos := "ref.go:267", after := #[{ on := 15, ground := Ground.data }, { on := 6, ground := Ground.guard }], guard := some (6, false) }) (v := undef) rfl (by kernel_rfl) (by kernel_rfl) (by kernel_rfl) (fun _ _ _ h => h) (Or.inr ⟨by rfl, rfl⟩) (by assumption) ?_
  try simp only [Act.put, List.setIfInBounds_toArray, List.set_cons_zero, List.set_cons_succ]
  refine wpAnyH_take (i := 17) (oi := { dst := some 51, op := Op.binOp BinOp.sub 3 (Operand.tmp 50) (Operand.const (Value.int IntKind.i64 1)) 3, type := 3, pos := "ref.go:267", after := #[{ on := 16, ground := Ground.data }, { on := 6, ground := Ground.guard }], guard := some (6, false) }) (v := undef) rfl (by kernel_rfl) (by kernel_rfl) (by kernel_rfl) (fun _ _ _ h => h) (Or.inr ⟨by rfl, rfl⟩) (by assumption) ?_
  try simp only [Act.put, List.setIfInBounds_toArray, List.set_cons_zero, List.set_cons_succ]
  refine wpAnyH_take (i := 18) (oi := { dst := some 52, op := Op.indexAddr 48 (Operand.tmp 48) (Operand.tmp 51), type := 0, pos := "ref.go:267", after := #[{ on := 14, ground := Ground.data }, { on := 17, ground := Ground.data }, { on := 6, ground := Ground.guard }], guard := some (6, false) }) (v := undef) rfl (by kernel_rfl) (by kernel_rfl) (by kernel_rfl) (fun _ _ _ h => h) (Or.inr ⟨by rfl, rfl⟩) (by assumption) ?_
  try simp only [Act.put, List.setIfInBounds_toArray, List.set_cons_zero, List.set_cons_succ]
  refine wpAnyH_take (i := 19) (oi := { dst := some 53, op := Op.load 22 (Operand.tmp 52), type := 22, pos := "ref.go:267", after := #[{ on := 18, ground := Ground.data }, { on := 6, ground := Ground.guard }], guard := some (6, false) }) (v := undef) rfl (by kernel_rfl) (by kernel_rfl) (by kernel_rfl) (fun _ _ _ h => h) (Or.inr ⟨by rfl, rfl⟩) (by assumption) ?_
  try simp only [Act.put, List.setIfInBounds_toArray, List.set_cons_zero, List.set_cons_succ]
  refine wpAnyH_take (i := 20) (oi := { dst := some 54, op := Op.call { callee := Callee.value (Operand.func 25), args := #[Operand.tmp 53], argTypes := #[22] }, type := 30, pos := "ref.go:267", after := #[{ on := 19, ground := Ground.data }, { on := 13, ground := Ground.chain }, { on := 6, ground := Ground.guard }], guard := some (6, false) }) (v := undef) rfl (by kernel_rfl) (by kernel_rfl) (by kernel_rfl) (fun _ _ _ h => h) (Or.inr ⟨by rfl, rfl⟩) (by assumption) ?_
  try simp only [Act.put, List.setIfInBounds_toArray, List.set_cons_zero, List.set_cons_succ]
  refine wpAnyH_take (i := 21) (oi := { dst := some 55, op := Op.binOp BinOp.neq 30 (Operand.tmp 47) (Operand.tmp 54) 30, type := 4, pos := "ref.go:267", after := #[{ on := 13, ground := Ground.data }, { on := 20, ground := Ground.data }, { on := 6, ground := Ground.guard }], guard := some (6, false) }) (v := undef) rfl (by kernel_rfl) (by kernel_rfl) (by kernel_rfl) (fun _ _ _ h => h) (Or.inr ⟨by rfl, rfl⟩) (by assumption) ?_
  try simp only [Act.put, List.setIfInBounds_toArray, List.set_cons_zero, List.set_cons_succ]
  refine wpAnyH_take (i := 22) (oi := { dst := some 56, op := Op.pick (Operand.tmp 40) (Operand.const (Value.bool true)) (Operand.tmp 55), type := 4, pos := "ref.go:267", after := #[{ on := 6, ground := Ground.data }, { on := 21, ground := Ground.data }], guard := none }) (v := ?v22_23) rfl (by kernel_rfl) (by kernel_rfl) (by kernel_rfl) (fun _ _ _ h => h) (Or.inl ⟨by rfl, ?h22_23⟩) (by assumption) ?r22_23
  case h22_23 =>
    intro W hSW
    try dsimp only at hSW
    go_simp
    try with_reducible rfl
  try simp only [Act.put, List.setIfInBounds_toArray, List.set_cons_zero, List.set_cons_succ]
  refine wpAnyH_done (by kernel_rfl) ?_ _
  go_upto_region 4 with fail
  have rz4 := rz3.below' hv0
  go_wp2_with (refine wpList_storeRow rfl _ (.tmp 12) (.tmp 57) rfl (l' := [Value.slice none 0 0, Value.slice none 0 0, Value.bool false]) rz4 rfl rfl sizeCo rfl rfl ?_; intro w9 r9 g9 z9)
  exact bodyPost_ret (resultRowS rfl _ _ r9 rfl Tryd.underlying46 sizeCo) rfl (show RNoColl _ _ _ from ⟨rfl, (q3.trans (hv0.mono q3.size)).grown g9 (by have := q3.size; have := hv0.size; omega) (fun j hj => by have hj := Option.some.inj hj; omega)⟩)
set_option maxRecDepth 100000 in
set_option maxHeartbeats 2000000 in
theorem refClash_no3 (n i : Int) (a b : List UInt8) (ha : a.length = 16) (hb : b.length = 16) (P Q : Value) (w : World) (m : Nat) (hm : m ≤ 64) (L1 L2 : List (List UInt8)) (x y : List UInt8) (hL1 : L1[m]? = some x) (hL2 : L2[m]? = some y) (hx : x.length ≤ 1000) (hy : y.length ≤ 1000) (hne : Mk.short x ≠ Mk.short y) (hT : RTab w)
    (H1 : ∀ W, Below w.heap.size w W → Calls Tryd.prog 24 #[.int .i64 n, .int .i64 i, dv a, P] W (InOk L1 m W))
    (H2 : ∀ W, Below w.heap.size w W → Calls Tryd.prog 24 #[.int .i64 n, .int .i64 i, dv b, Q] W (InOk L2 m W)) :
    Calls Tryd.prog 23 #[.int .i64 n, .int .i64 i, dv a, dv b, P, Q] w (RNoColl w) := by
  obtain ⟨M, hM⟩ : ∃ M, m + 1 = M := ⟨_, rfl⟩
  have hw1 : IntKind.i64.wrap ((M : Int) - 1) = (m : Int) := by rw [← hM]; have := IntWalk.i64_in (m : Int) (by omega); rw [show ((m + 1 : Nat) : Int) - 1 = (m : Int) from by omega]; exact this
  have hmM : (m : Int) < (M : Int) := by omega
  have HMM : Hid (m < M) := Lib.hid (by omega)
  have HM := Lib.hid hM
  have hsx := Mk.short_len x
  have hsy := Mk.short_len y
  have hq : ∀ W, (binOp .neq 30 (.agg (bvs (Mk.short x)).toArray) (.agg (bvs (Mk.short y)).toArray)).run Tryd.prog W = .ok (.bool true) W := fun W => by rw [run_neq_digE W hsx hsy]; simp [hne]
  have HSX := Lib.hid (fun (A' : Option Addr) (N' c' : Nat) (hN : N' = x.length) (W : World) (hr : Rd W W.heap.size 1 A' N' (bvs x)) (hT : RTab W) => refShort_any A' N' c' x hN.symm (by omega) W.heap.size W hr (Nat.le_refl _) hT)
  have HSY := Lib.hid (fun (A' : Option Addr) (N' c' : Nat) (hN : N' = y.length) (W : World) (hr : Rd W W.heap.size 1 A' N' (bvs y)) (hT : RTab W) => refShort_any A' N' c' y hN.symm (by omega) W.heap.size W hr (Nat.le_refl _) hT)
  generalize Mk.short x = sx at *
  generalize Mk.short y = sy at *
  have HT := Lib.hid hT
  clear hM hsx hsy hx hy hne hT
  have h2 := rows2 w 30 30 (bvs a) (bvs b)
  have hbw0 : Below w.heap.size w ((w.alloc (.cells (bvs a).toArray 30)).alloc (.cells (bvs b).toArray 30)) := ((Below.refl _ w).alloc (Nat.le_refl _) _).alloc (by rw [alloc_size1]; omega) _
  obtain ⟨w0, hw0⟩ : ∃ w0, ((w.alloc (.cells (bvs a).toArray 30)).alloc (.cells (bvs b).toArray 30)) = w0 := ⟨_, rfl⟩
  rw [hw0] at h2 hbw0
  have rz0 := IsRow.new w0 46 [Value.slice none 0 0, Value.slice none 0 0, Value.bool false]
  have hbw : Below w.heap.size w (w0.alloc (.cells [Value.slice none 0 0, Value.slice none 0 0, Value.bool false].toArray 46)) := hbw0.alloc hbw0.size _
  have hsz0 : w0.heap.size = w.heap.size + 2 := by rw [← hw0, alloc_size1, alloc_size1]
  obtain ⟨w1, hw1⟩ : ∃ w1, w0.alloc (.cells [Value.slice none 0 0, Value.slice none 0 0, Value.bool false].toArray 46) = w1 := ⟨_, rfl⟩
  have ra := h2.1.alloc (.cells [Value.slice none 0 0, Value.slice none 0 0, Value.bool false].toArray 46)
  have rb := h2.2.alloc (.cells [Value.slice none 0 0, Value.slice none 0 0, Value.bool false].toArray 46)
  rw [hw1] at rz0 hbw ra rb
  rw [hsz0] at rz0
  have HW0 := Lib.hid hw0
  have HW1 := Lib.hid hw1
  have HA := Lib.hid ha
  have HB := Lib.hid hb
  have HX := Lib.hid H1
  have HY := Lib.hid H2
  clear h2 hw0 ha hb H1 H2 hbw0 hsz0 hw1
  go_enter Tryd.func23, Tryd.ntmps23
  go_upto_region 1 with fail
  rw [HW0.out, HW1.out]
  go_wp2_with (first
    | (refine wpList_loadRow rfl _ (.tmp 9) rfl rb1 rfl Tryd.underlying30 (by rw [bvs_len, HB.out]; exact size16) ?_)
    | (refine wpList_loadRow rfl _ (.tmp 8) rfl ra rfl Tryd.underlying30 (by rw [bvs_len, HA.out]; exact size16) ?_)
    | (have hgd := rb1; go_at_call 24; refine (HY.out _ q2).mono ?_; rintro e w3 ⟨A2, c2, xs2, rfl, b3, own2, RJ2⟩; have RJ2' := Lib.hid RJ2; clear RJ2; have rr2 := Rd.of_own own2; rw [HM.out] at rr2 own2; rw [HM.out]; obtain ⟨g2, off2, rfl, hg2, hcell2⟩ := rr2.2 (by have := HM.out; omega); have HCL2 := Lib.hid hcell2; clear hcell2; have q3 := q2.trans (b3.mono q2.size); have rz3 := rz2.below' b3)
    | (go_at_call 24; refine (HX.out _ hbw).mono ?_; rintro e w2 ⟨A1, c1, xs1, rfl, b2, own1, RJ1⟩; have RJ1' := Lib.hid RJ1; clear RJ1; have rr1 := Rd.of_own own1; rw [HM.out] at rr1 own1; rw [HM.out]; obtain ⟨g1, off1, rfl, hg1, hcell1⟩ := rr1.2 (by have := HM.out; omega); have HCL1 := Lib.hid hcell1; clear hcell1; have q2 := hbw.trans (b2.mono hbw.size); have rb1 := rb.below' b2; have rz2 := rz0.below' b2)
    | fail)
  have RK1 := RJ1'.out.below b3
  obtain ⟨A3, N3, c3, hx3, hN3, rd3, _⟩ := RK1.2 m x hL1
  obtain ⟨A4, N4, c4, hx4, hN4, rd4, _⟩ := RJ2'.out.2 m y hL2
  have hg1' : g1 < w3.heap.size := by have := b3.size; omega
  have hg2' : g2 < w3.heap.size := by omega
  have HC3 := Lib.hid ((b3.cell (p := ⟨g1, off1 + m, none⟩) (by omega)).trans (HCL1.out m _ hx3))
  have HC4 := Lib.hid (HCL2.out m _ hx4)
  have HS3 := Lib.hid (fun (W : World) (h : Below w3.heap.size w3 W) => HSX.out A3 N3 c3 hN3 W ((rd3.below h).more h.size) ((HT.out.below q3).below h))
  have HS4 := Lib.hid (fun (W : World) (h : Below w3.heap.size w3 W) => HSY.out A4 N4 c4 hN4 W ((rd4.below h).more h.size) ((HT.out.below q3).below h))
  clear hx3 hx4 hN3 hN4 RK1
  have hv0 : Below w3.heap.size w3 w3.drew := (Below.refl _ _).drew
  refine wp_region_held_drew (S := fun W => Below w3.heap.size w3 W) (by kernel_rfl) (hv0) (fun hHeld => ?_)
  refine wpAnyH_take (i := 0) (oi := { dst := some 34, op := Op.move (Operand.tmp 14), type := 4, pos := "ref.go:267", after := #[], guard := none }) (v := ?v0_1) rfl (by kernel_rfl) (by kernel_rfl) (by kernel_rfl) (fun _ _ _ h => h) (Or.inl ⟨by rfl, ?h0_1⟩) (by assumption) ?r0_1
  case h0_1 =>
    intro W hSW
    try dsimp only at hSW
    go_simp
    try with_reducible rfl
  try simp only [Act.put, List.setIfInBounds_toArray, List.set_cons_zero, List.set_cons_succ]
  refine wpAnyH_take (i := 1) (oi := { dst := some 35, op := Op.unOp UnOp.not 4 (Operand.tmp 34), type := 4, pos := "ref.go:267", after := #[{ on := 0, ground := Ground.data }], guard := none }) (v := ?v1_2) rfl (by kernel_rfl) (by kernel_rfl) (by kernel_rfl) (fun _ _ _ h => h) (Or.inl ⟨by rfl, ?h1_2⟩) (by assumption) ?r1_2
  case h1_2 =>
    intro W hSW
    try dsimp only at hSW
    go_simp
    try with_reducible rfl
  try simp only [Act.put, List.setIfInBounds_toArray, List.set_cons_zero, List.set_cons_succ]
  refine wpAnyH_take (i := 2) (oi := { dst := some 36, op := Op.move (Operand.tmp 35), type := 4, pos := "ref.go:267", after := #[{ on := 1, ground := Ground.data }], guard := none }) (v := ?v2_3) rfl (by kernel_rfl) (by kernel_rfl) (by kernel_rfl) (fun _ _ _ h => h) (Or.inl ⟨by rfl, ?h2_3⟩) (by assumption) ?r2_3
  case h2_3 =>
    intro W hSW
    try dsimp only at hSW
    go_simp
    try with_reducible rfl
  try simp only [Act.put, List.setIfInBounds_toArray, List.set_cons_zero, List.set_cons_succ]
  refine wpAnyH_take (i := 3) (oi := { dst := some 37, op := Op.move (Operand.tmp 16), type := 4, pos := "ref.go:267", after := #[{ on := 2, ground := Ground.guard }], guard := some (2, false) }) (v := ?v3_4) rfl (by kernel_rfl) (by kernel_rfl) (by kernel_rfl) (fun _ _ _ h => h) (Or.inl ⟨by rfl, ?h3_4⟩) (by assumption) ?r3_4
  case h3_4 =>
    intro W hSW
    try dsimp only at hSW
    go_simp
    try with_reducible rfl
  try simp only [Act.put, List.setIfInBounds_toArray, List.set_cons_zero, List.set_cons_succ]
  refine wpAnyH_take (i := 4) (oi := { dst := some 38, op := Op.unOp UnOp.not 4 (Operand.tmp 37), type := 4, pos := "ref.go:267", after := #[{ on := 3, ground := Ground.data }, { on := 2, ground := Ground.guard }], guard := some (2, false) }) (v := ?v4_5) rfl (by kernel_rfl) (by kernel_rfl) (by kernel_rfl) (fun _ _ _ h => h) (Or.inl ⟨by rfl, ?h4_5⟩) (by assumption) ?r4_5
  case h4_5 =>
    intro W hSW
    try dsimp only at hSW
    go_simp
    try with_reducible rfl
  try simp only [Act.put, List.setIfInBounds_toArray, List.set_cons_zero, List.set_cons_succ]
  refine wpAnyH_take (i := 5) (oi := { dst := some 39, op := Op.pick (Operand.tmp 36) (Operand.const (Value.bool true)) (Operand.tmp 38), type := 4, pos := "ref.go:267", after := #[{ on := 2, ground := Ground.data }, { on := 4, ground := Ground.data }], guard := none }) (v := ?v5_6) rfl (by kernel_rfl) (by kernel_rfl) (by kernel_rfl) (fun _ _ _ h => h) (Or.inl ⟨by rfl, ?h5_6⟩) (by assumption) ?r5_6
  case h5_6 =>
    intro W hSW
    try dsimp only at hSW
    go_simp
    try with_reducible rfl
  try simp only [Act.put, List.setIfInBounds_toArray, List.set_cons_zero, List.set_cons_succ]
  refine wpAnyH_take (i := 6) (oi := { dst := some 40, op := Op.move (Operand.tmp 39), type := 4, pos := "ref.go:267", after := #[{ on := 5, ground := Ground.data }, { on := 2, ground := Ground.chain }], guard := none }) (v := ?v6_7) rfl (by kernel_rfl) (by kernel_rfl) (by kernel_rfl) (fun _ _ _ h => h) (Or.inl ⟨by rfl, ?h6_7⟩) (by assumption) ?r6_7
  case h6_7 =>
    intro W hSW
    try dsimp only at hSW
    go_simp
    try with_reducible rfl
  try simp only [Act.put, List.setIfInBounds_toArray, List.set_cons_zero, List.set_cons_succ]
  refine wpAnyH_take (i := 7) (oi := { dst := some 41, op := Op.move (Operand.tmp 13), type := 48, pos := "ref.go:267", after := #[{ on := 6, ground := Ground.guard }], guard := some (6, false) }) (v := ?v7_8) rfl (by kernel_rfl) (by kernel_rfl) (by kernel_rfl) (fun _ _ _ h => h) (Or.inl ⟨by rfl, ?h7_8⟩) (by assumption) ?r7_8
  case h7_8 =>
    intro W hSW
    try dsimp only at hSW
    go_simp
    try with_reducible rfl
  try simp only [Act.put, List.setIfInBounds_toArray, List.set_cons_zero, List.set_cons_succ]
  refine wpAnyH_take (i := 8) (oi := { dst := some 42, op := Op.move (Operand.tmp 13), type := 48, pos := "ref.go:267", after := #[{ on := 6, ground := Ground.guard }], guard := some (6, false) }) (v := ?v8_9) rfl (by kernel_rfl) (by kernel_rfl) (by kernel_rfl) (fun _ _ _ h => h) (Or.inl ⟨by rfl, ?h8_9⟩) (by assumption) ?r8_9
  case h8_9 =>
    intro W hSW
    try dsimp only at hSW
    go_simp
    try with_reducible rfl
  try simp only [Act.put, List.setIfInBounds_toArray, List.set_cons_zero, List.set_cons_succ]
  refine wpAnyH_take (i := 9) (oi := { dst := some 43, op := Op.call { callee := Callee.builtin Builtin.len, args := #[Operand.tmp 42], argTypes := #[48] }, type := 3, pos := "ref.go:267", after := #[{ on := 8, ground := Ground.data }, { on := 6, ground := Ground.guard }], guard := some (6, false) }) (v := ?v9_10) rfl (by kernel_rfl) (by kernel_rfl) (by kernel_rfl) (fun _ _ _ h => h) (Or.inl ⟨by rfl, ?h9_10⟩) (by assumption) ?r9_10
  case h9_10 =>
    intro W hSW
    try dsimp only at hSW
    go_simp
    try with_reducible rfl
  try simp only [Act.put, List.setIfInBounds_toArray, List.set_cons_zero, List.set_cons_succ]
  refine wpAnyH_take (i := 10) (oi := { dst := some 44, op := Op.binOp BinOp.sub 3 (Operand.tmp 43) (Operand.const (Value.int IntKind.i64 1)) 3, type := 3, pos := "ref.go:267", after := #[{ on := 9, ground := Ground.data }, { on := 6, ground := Ground.guard }], guard := some (6, false) }) (v := ?v10_11) rfl (by kernel_rfl) (by kernel_rfl) (by kernel_rfl) (fun _ _ _ h => h) (Or.inl ⟨by rfl, ?h10_11⟩) (by assumption) ?r10_11
  case h10_11 =>
    intro W hSW
    try dsimp only at hSW
    go_simp
    try with_reducible rfl
  try simp only [Act.put, List.setIfInBounds_toArray, List.set_cons_zero, List.set_cons_succ]
  refine wpAnyH_take (i := 11) (oi := { dst := some 45, op := Op.indexAddr 48 (Operand.tmp 41) (Operand.tmp 44), type := 0, pos := "ref.go:267", after := #[{ on := 7, ground := Ground.data }, { on := 10, ground := Ground.data }, { on := 6, ground := Ground.guard }], guard := some (6, false) }) (v := ?v11_12) rfl (by kernel_rfl) (by kernel_rfl) (by kernel_rfl) (fun _ _ _ h => h) (Or.inl ⟨by rfl, ?h11_12⟩) (by assumption) ?r11_12
  case h11_12 =>
    intro W hSW
    try dsimp only at hSW
    go_simp
    try with_reducible rfl
  try simp only [Act.put, List.setIfInBounds_toArray, List.set_cons_zero, List.set_cons_succ]
  refine wpAnyH_take (i := 12) (oi := { dst := some 46, op := Op.load 22 (Operand.tmp 45), type := 22, pos := "ref.go:267", after := #[{ on := 11, ground := Ground.data }, { on := 6, ground := Ground.guard }], guard := some (6, false) }) (v := ?v12_13) rfl (by kernel_rfl) (by kernel_rfl) (by kernel_rfl) (fun _ _ _ h => h) (Or.inl ⟨by rfl, ?h12_13⟩) (by assumption) ?r12_13
  case h12_13 =>
    intro W hSW
    try dsimp only at hSW
    have hcc := (hSW.cell (p := ⟨g1, off1 + m, none⟩) hg1').trans HC3.out
    go_simp
    try with_reducible rfl
  try simp only [Act.put, List.setIfInBounds_toArray, List.set_cons_zero, List.set_cons_succ]
  refine wpAnyH_take (i := 14) (oi := { dst := some 48, op := Op.move (Operand.tmp 15), type := 48, pos := "ref.go:267", after := #[{ on := 6, ground := Ground.guard }], guard := some (6, false) }) (v := ?v14_14) rfl (by kernel_rfl) (by kernel_rfl) (by kernel_rfl) (fun _ _ _ h => h) (Or.inl ⟨by rfl, ?h14_14⟩) (by assumption) ?r14_14
  case h14_14 =>
    intro W hSW
    try dsimp only at hSW
    go_simp
    try with_reducible rfl
  try simp only [Act.put, List.setIfInBounds_toArray, List.set_cons_zero, List.set_cons_succ]
  refine wpAnyH_take (i := 15) (oi := { dst := some 49, op := Op.move (Operand.tmp 15), type := 48, pos := "ref.go:267", after := #[{ on := 6, ground := Ground.guard }], guard := some (6, false) }) (v := ?v15_15) rfl (by kernel_rfl) (by kernel_rfl) (by kernel_rfl) (fun _ _ _ h => h) (Or.inl ⟨by rfl, ?h15_15⟩) (by assumption) ?r15_15
  case h15_15 =>
    intro W hSW
    try dsimp only at hSW
    go_simp
    try with_reducible rfl
  try simp only [Act.put, List.setIfInBounds_toArray, List.set_cons_zero, List.set_cons_succ]
  refine wpAnyH_take (i := 16) (oi := { dst := some 50, op := Op.call { callee := Callee.builtin Builtin.len, args := #[Operand.tmp 49], argTypes := #[48] }, type := 3, pos := "ref.go:267", after := #[{ on := 15, ground := Ground.data }, { on := 6, ground := Ground.guard }], guard := some (6, false) }) (v := ?v16_16) rfl (by kernel_rfl) (by kernel_rfl) (by kernel_rfl) (fun _ _ _ h => h) (Or.inl ⟨by rfl, ?h16_16⟩) (by assumption) ?r16_16
  case h16_16 =>
    intro W hSW
    try dsimp only at hSW
    go_simp
    try with_reducible rfl
  try simp only [Act.put, List.setIfInBounds_toArray, List.set_cons_zero, List.set_cons_succ]
  refine wpAnyH_take (i := 17) (oi := { dst := some 51, op := Op.binOp BinOp.sub 3 (Operand.tmp 50) (Operand.const (Value.int IntKind.i64 1)) 3, type := 3, pos := "ref.go:267", after := #[{ on := 16, ground := Ground.data }, { on := 6, ground := Ground.guard }], guard := some (6, false) }) (v := ?v17_17) rfl (by kernel_rfl) (by kernel_rfl) (by kernel_rfl) (fun _ _ _ h => h) (Or.inl ⟨by rfl, ?h17_17⟩) (by assumption) ?r17_17
  case h17_17 =>
    intro W hSW
    try dsimp only at hSW
    go_simp
    try with_reducible rfl
  try simp only [Act.put, List.setIfInBounds_toArray, List.set_cons_zero, List.set_cons_succ]
  refine wpAnyH_take (i := 18) (oi := { dst := some 52, op := Op.indexAddr 48 (Operand.tmp 48) (Operand.tmp 51), type := 0, pos := "ref.go:267", after := #[{ on := 14, ground := Ground.data }, { on := 17, ground := Ground.data }, { on := 6, ground := Ground.guard }], guard := some (6, false) }) (v := ?v18_18) rfl (by kernel_rfl) (by kernel_rfl) (by kernel_rfl) (fun _ _ _ h => h) (Or.inl ⟨by rfl, ?h18_18⟩) (by assumption) ?r18_18
  case h18_18 =>
    intro W hSW
    try dsimp only at hSW
    go_simp
    try with_reducible rfl
  try simp only [Act.put, List.setIfInBounds_toArray, List.set_cons_zero, List.set_cons_succ]
  refine wpAnyH_take (i := 19) (oi := { dst := some 53, op := Op.load 22 (Operand.tmp 52), type := 22, pos := "ref.go:267", after := #[{ on := 18, ground := Ground.data }, { on := 6, ground := Ground.guard }], guard := some (6, false) }) (v := ?v19_19) rfl (by kernel_rfl) (by kernel_rfl) (by kernel_rfl) (fun _ _ _ h => h) (Or.inl ⟨by rfl, ?h19_19⟩) (by assumption) ?r19_19
  case h19_19 =>
    intro W hSW
    try dsimp only at hSW
    have hcc := (hSW.cell (p := ⟨g2, off2 + m, none⟩) hg2').trans HC4.out
    go_simp
    try with_reducible rfl
  try simp only [Act.put, List.setIfInBounds_toArray, List.set_cons_zero, List.set_cons_succ]
  refine wpAnyH_ready (rs := [13]) (by kernel_rfl) (by simp) ?_
  refine AllReadyH.cons (o := { dst := some 47, op := Op.call { callee := Callee.value (Operand.func 25), args := #[Operand.tmp 46], argTypes := #[22] }, type := 30, pos := "ref.go:267", after := #[{ on := 12, ground := Ground.data }, { on := 6, ground := Ground.chain }, { on := 6, ground := Ground.guard }], guard := some (6, false) }) rfl (fun K hK => ?_) AllReadyH.nil
  go_simp
  refine (HS3.out _ hv0).mono ?_
  rintro e w4 ⟨rfl, b4⟩
  have hv4 : Below w3.heap.size w3 w4 := hv0.trans (b4.mono hv0.size)
  go_wp2_with fail
  refine hK.out _ _ (hv4) (fun hHeld => ?_)
  clear hK K
  try simp only [Act.put, List.setIfInBounds_toArray, List.set_cons_zero, List.set_cons_succ]
  refine wpAnyH_ready (rs := [20]) (by kernel_rfl) (by simp) ?_
  refine AllReadyH.cons (o := { dst := some 54, op := Op.call { callee := Callee.value (Operand.func 25), args := #[Operand.tmp 53], argTypes := #[22] }, type := 30, pos := "ref.go:267", after := #[{ on := 19, ground := Ground.data }, { on := 13, ground := Ground.chain }, { on := 6, ground := Ground.guard }], guard := some (6, false) }) rfl (fun K hK => ?_) AllReadyH.nil
  go_simp
  refine (HS4.out _ hv4).mono ?_
  rintro e w5 ⟨rfl, b5⟩
  have hv5 : Below w3.heap.size w3 w5 := hv4.trans (b5.mono hv4.size)
  go_wp2_with fail
  refine hK.out _ _ (hv5) (fun hHeld => ?_)
  clear hK K
  try simp only [Act.put, List.setIfInBounds_toArray, List.set_cons_zero, List.set_cons_succ]
  refine wpAnyH_take (i := 21) (oi := { dst := some 55, op := Op.binOp BinOp.neq 30 (Operand.tmp 47) (Operand.tmp 54) 30, type := 4, pos := "ref.go:267", after := #[{ on := 13, ground := Ground.data }, { on := 20, ground := Ground.data }, { on := 6, ground := Ground.guard }], guard := some (6, false) }) (v := ?v21_20) rfl (by kernel_rfl) (by kernel_rfl) (by kernel_rfl) (fun _ _ _ h => h) (Or.inl ⟨by rfl, ?h21_20⟩) (by assumption) ?r21_20
  case h21_20 =>
    intro W hSW
    try dsimp only at hSW
    go_simp
    try with_reducible rfl
  try simp only [Act.put, List.setIfInBounds_toArray, List.set_cons_zero, List.set_cons_succ]
  refine wpAnyH_take (i := 22) (oi := { dst := some 56, op := Op.pick (Operand.tmp 40) (Operand.const (Value.bool true)) (Operand.tmp 55), type := 4, pos := "ref.go:267", after := #[{ on := 6, ground := Ground.data }, { on := 21, ground := Ground.data }], guard := none }) (v := ?v22_21) rfl (by kernel_rfl) (by kernel_rfl) (by kernel_rfl) (fun _ _ _ h => h) (Or.inl ⟨by rfl, ?h22_21⟩) (by assumption) ?r22_21
  case h22_21 =>
    intro W hSW
    try dsimp only at hSW
    go_simp
    try with_reducible rfl
  try simp only [Act.put, List.setIfInBounds_toArray, List.set_cons_zero, List.set_cons_succ]
  refine wpAnyH_done (by kernel_rfl) ?_ _
  go_upto_region 4 with fail
  have rz4 := rz3.below' hv5
  go_wp2_with (refine wpList_storeRow rfl _ (.tmp 12) (.tmp 57) rfl (l' := [Value.slice none 0 0, Value.slice none 0 0, Value.bool false]) rz4 rfl rfl sizeCo rfl rfl ?_; intro w9 r9 g9 z9)
  exact bodyPost_ret (resultRowS rfl _ _ r9 rfl Tryd.underlying46 sizeCo) rfl (show RNoColl _ _ _ from ⟨rfl, (q3.trans (hv5.mono q3.size)).grown g9 (by have := q3.size; have := hv5.size; omega) (fun j hj => by have hj := Option.some.inj hj; omega)⟩)
set_option maxRecDepth 100000 in
set_option maxHeartbeats 2000000 in
theorem refClash_yes (n i : Int) (a b : List UInt8) (ha : a.length = 16) (hb : b.length = 16) (P Q : Value) (w : World) (m : Nat) (hm : m ≤ 64) (L1 L2 : List (List UInt8)) (x y : List UInt8) (hL1 : L1[m]? = some x) (hL2 : L2[m]? = some y) (hx : x.length ≤ 1000) (hy : y.length ≤ 1000) (hne : Mk.short x = Mk.short y) (hl1 : L1.length = m + 1) (hl2 : L2.length = m + 1) (h40 : ∀ k, (L1.getD k []).length ≤ 1000 ∧ (L2.getD k []).length ≤ 1000) (hT : RTab w)
    (H1 : ∀ W, Below w.heap.size w W → Calls Tryd.prog 24 #[.int .i64 n, .int .i64 i, dv a, P] W (InOk L1 m W))
    (H2 : ∀ W, Below w.heap.size w W → Calls Tryd.prog 24 #[.int .i64 n, .int .i64 i, dv b, Q] W (InOk L2 m W)) :
    Calls Tryd.prog 23 #[.int .i64 n, .int .i64 i, dv a, dv b, P, Q] w (RClashR L1 L2 (Mk.clashF L1 L2 (m + 1)) w) := by
  obtain ⟨M, hM⟩ : ∃ M, m + 1 = M := ⟨_, rfl⟩
  have hw1 : IntKind.i64.wrap ((M : Int) - 1) = (m : Int) := by rw [← hM]; have := IntWalk.i64_in (m : Int) (by omega); rw [show ((m + 1 : Nat) : Int) - 1 = (m : Int) from by omega]; exact this
  have hmM : (m : Int) < (M : Int) := by omega
  have HMM : Hid (m < M) := Lib.hid (by omega)
  have HM := Lib.hid hM
  have hsx := Mk.short_len x
  have hsy := Mk.short_len y
  have hq : ∀ W, (binOp .neq 30 (.agg (bvs (Mk.short x)).toArray) (.agg (bvs (Mk.short y)).toArray)).run Tryd.prog W = .ok (.bool false) W := fun W => by rw [run_neq_digE W hsx hsy]; simp [hne]
  have HSX := Lib.hid (fun (A' : Option Addr) (N' c' : Nat) (hN : N' = x.length) (W : World) (hr : Rd W W.heap.size 1 A' N' (bvs x)) (hT : RTab W) => refShort_any A' N' c' x hN.symm (by omega) W.heap.size W hr (Nat.le_refl _) hT)
  have HSY := Lib.hid (fun (A' : Option Addr) (N' c' : Nat) (hN : N' = y.length) (W : World) (hr : Rd W W.heap.size 1 A' N' (bvs y)) (hT : RTab W) => refShort_any A' N' c' y hN.symm (by omega) W.heap.size W hr (Nat.le_refl _) hT)
  generalize Mk.short x = sx at *
  generalize Mk.short y = sy at *
  have HT := Lib.hid hT
  rw [hM] at hl1 hl2
  rw [hM]
  have HL1 := Lib.hid hl1
  have HL2 := Lib.hid hl2
  have H40 := Lib.hid h40
  clear hl1 hl2 h40
  clear hM hsx hsy hx hy hne hT
  have h2 := rows2 w 30 30 (bvs a) (bvs b)
  have hbw0 : Below w.heap.size w ((w.alloc (.cells (bvs a).toArray 30)).alloc (.cells (bvs b).toArray 30)) := ((Below.refl _ w).alloc (Nat.le_refl _) _).alloc (by rw [alloc_size1]; omega) _
  obtain ⟨w0, hw0⟩ : ∃ w0, ((w.alloc (.cells (bvs a).toArray 30)).alloc (.cells (bvs b).toArray 30)) = w0 := ⟨_, rfl⟩
  rw [hw0] at h2 hbw0
  have rz0 := IsRow.new w0 46 [Value.slice none 0 0, Value.slice none 0 0, Value.bool false]
  have hbw : Below w.heap.size w (w0.alloc (.cells [Value.slice none 0 0, Value.slice none 0 0, Value.bool false].toArray 46)) := hbw0.alloc hbw0.size _
  have hsz0 : w0.heap.size = w.heap.size + 2 := by rw [← hw0, alloc_size1, alloc_size1]
  obtain ⟨w1, hw1⟩ : ∃ w1, w0.alloc (.cells [Value.slice none 0 0, Value.slice none 0 0, Value.bool false].toArray 46) = w1 := ⟨_, rfl⟩
  have ra := h2.1.alloc (.cells [Value.slice none 0 0, Value.slice none 0 0, Value.bool false].toArray 46)
  have rb := h2.2.alloc (.cells [Value.slice none 0 0, Value.slice none 0 0, Value.bool false].toArray 46)
  rw [hw1] at rz0 hbw ra rb
  rw [hsz0] at rz0
  have HW0 := Lib.hid hw0
  have HW1 := Lib.hid hw1
  have HA := Lib.hid ha
  have HB := Lib.hid hb
  have HX := Lib.hid H1
  have HY := Lib.hid H2
  clear h2 hw0 ha hb H1 H2 hbw0 hsz0 hw1
  go_enter Tryd.func23, Tryd.ntmps23
  go_upto_region 1 with fail
  rw [HW0.out, HW1.out]
  go_wp2_with (first
    | (refine wpList_loadRow rfl _ (.tmp 9) rfl rb1 rfl Tryd.underlying30 (by rw [bvs_len, HB.out]; exact size16) ?_)
    | (refine wpList_loadRow rfl _ (.tmp 8) rfl ra rfl Tryd.underlying30 (by rw [bvs_len, HA.out]; exact size16) ?_)
    | (have hgd := rb1; go_at_call 24; refine (HY.out _ q2).mono ?_; rintro e w3 ⟨A2, c2, xs2, rfl, b3, own2, RJ2⟩; have RJ2' := Lib.hid RJ2; clear RJ2; have rr2 := Rd.of_own own2; rw [HM.out] at rr2 own2; rw [HM.out]; obtain ⟨g2, off2, rfl, hg2, hcell2⟩ := rr2.2 (by have := HM.out; omega); have HCL2 := Lib.hid hcell2; clear hcell2; have q3 := q2.trans (b3.mono q2.size); have rz3 := rz2.below' b3)
    | (go_at_call 24; refine (HX.out _ hbw).mono ?_; rintro e w2 ⟨A1, c1, xs1, rfl, b2, own1, RJ1⟩; have RJ1' := Lib.hid RJ1; clear RJ1; have rr1 := Rd.of_own own1; rw [HM.out] at rr1 own1; rw [HM.out]; obtain ⟨g1, off1, rfl, hg1, hcell1⟩ := rr1.2 (by have := HM.out; omega); have HCL1 := Lib.hid hcell1; clear hcell1; have q2 := hbw.trans (b2.mono hbw.size); have rb1 := rb.below' b2; have rz2 := rz0.below' b2)
    | fail)
  have RK1 := RJ1'.out.below b3
  obtain ⟨A3, N3, c3, hx3, hN3, rd3, _⟩ := RK1.2 m x hL1
  obtain ⟨A4, N4, c4, hx4, hN4, rd4, _⟩ := RJ2'.out.2 m y hL2
  have hg1' : g1 < w3.heap.size := by have := b3.size; omega
  have hg2' : g2 < w3.heap.size := by omega
  have HC3 := Lib.hid ((b3.cell (p := ⟨g1, off1 + m, none⟩) (by omega)).trans (HCL1.out m _ hx3))
  have HC4 := Lib.hid (HCL2.out m _ hx4)
  have HS3 := Lib.hid (fun (W : World) (h : Below w3.heap.size w3 W) => HSX.out A3 N3 c3 hN3 W ((rd3.below h).more h.size) ((HT.out.below q3).below h))
  have HS4 := Lib.hid (fun (W : World) (h : Below w3.heap.size w3 W) => HSY.out A4 N4 c4 hN4 W ((rd4.below h).more h.size) ((HT.out.below q3).below h))
  clear hx3 hx4 hN3 hN4 RK1
  have hv0 : Below w3.heap.size w3 w3.drew := (Below.refl _ _).drew
  refine wp_region_held_drew (S := fun W => Below w3.heap.size w3 W) (by kernel_rfl) (hv0) (fun hHeld => ?_)
  refine wpAnyH_take (i := 0) (oi := { dst := some 34, op := Op.move (Operand.tmp 14), type := 4, pos := "ref.go:267", after := #[], guard := none }) (v := ?v0_1) rfl (by kernel_rfl) (by kernel_rfl) (by kernel_rfl) (fun _ _ _ h => h) (Or.inl ⟨by rfl, ?h0_1⟩) (by assumption) ?r0_1
  case h0_1 =>
    intro W hSW
    try dsimp only at hSW
    go_simp
    try with_reducible rfl
  try simp only [Act.put, List.setIfInBounds_toArray, List.set_cons_zero, List.set_cons_succ]
  refine wpAnyH_take (i := 1) (oi := { dst := some 35, op := Op.unOp UnOp.not 4 (Operand.tmp 34), type := 4, pos := "ref.go:267", after := #[{ on := 0, ground := Ground.data }], guard := none }) (v := ?v1_2) rfl (by kernel_rfl) (by kernel_rfl) (by kernel_rfl) (fun _ _ _ h => h) (Or.inl ⟨by rfl, ?h1_2⟩) (by assumption) ?r1_2
  case h1_2 =>
    intro W hSW
    try dsimp only at hSW
    go_simp
    try with_reducible rfl
  try simp only [Act.put, List.setIfInBounds_toArray, List.set_cons_zero, List.set_cons_succ]
  refine wpAnyH_take (i := 2) (oi := { dst := some 36, op := Op.move (Operand.tmp 35), type := 4, pos := "ref.go:267", after := #[{ on := 1, ground := Ground.data }], guard := none }) (v := ?v2_3) rfl (by kernel_rfl) (by kernel_rfl) (by kernel_rfl) (fun _ _ _ h => h) (Or.inl ⟨by rfl, ?h2_3⟩) (by assumption) ?r2_3
  case h2_3 =>
    intro W hSW
    try dsimp only at hSW
    go_simp
    try with_reducible rfl
  try simp only [Act.put, List.setIfInBounds_toArray, List.set_cons_zero, List.set_cons_succ]
  refine wpAnyH_take (i := 3) (oi := { dst := some 37, op := Op.move (Operand.tmp 16), type := 4, pos := "ref.go:267", after := #[{ on := 2, ground := Ground.guard }], guard := some (2, false) }) (v := ?v3_4) rfl (by kernel_rfl) (by kernel_rfl) (by kernel_rfl) (fun _ _ _ h => h) (Or.inl ⟨by rfl, ?h3_4⟩) (by assumption) ?r3_4
  case h3_4 =>
    intro W hSW
    try dsimp only at hSW
    go_simp
    try with_reducible rfl
  try simp only [Act.put, List.setIfInBounds_toArray, List.set_cons_zero, List.set_cons_succ]
  refine wpAnyH_take (i := 4) (oi := { dst := some 38, op := Op.unOp UnOp.not 4 (Operand.tmp 37), type := 4, pos := "ref.go:267", after := #[{ on := 3, ground := Ground.data }, { on := 2, ground := Ground.guard }], guard := some (2, false) }) (v := ?v4_5) rfl (by kernel_rfl) (by kernel_rfl) (by kernel_rfl) (fun _ _ _ h => h) (Or.inl ⟨by rfl, ?h4_5⟩) (by assumption) ?r4_5
  case h4_5 =>
    intro W hSW
    try dsimp only at hSW
    go_simp
    try with_reducible rfl
  try simp only [Act.put, List.setIfInBounds_toArray, List.set_cons_zero, List.set_cons_succ]
  refine wpAnyH_take (i := 5) (oi := { dst := some 39, op := Op.pick (Operand.tmp 36) (Operand.const (Value.bool true)) (Operand.tmp 38), type := 4, pos := "ref.go:267", after := #[{ on := 2, ground := Ground.data }, { on := 4, ground := Ground.data }], guard := none }) (v := ?v5_6) rfl (by kernel_rfl) (by kernel_rfl) (by kernel_rfl) (fun _ _ _ h => h) (Or.inl ⟨by rfl, ?h5_6⟩) (by assumption) ?r5_6
  case h5_6 =>
    intro W hSW
    try dsimp only at hSW
    go_simp
    try with_reducible rfl
  try simp only [Act.put, List.setIfInBounds_toArray, List.set_cons_zero, List.set_cons_succ]
  refine wpAnyH_take (i := 6) (oi := { dst := some 40, op := Op.move (Operand.tmp 39), type := 4, pos := "ref.go:267", after := #[{ on := 5, ground := Ground.data }, { on := 2, ground := Ground.chain }], guard := none }) (v := ?v6_7) rfl (by kernel_rfl) (by kernel_rfl) (by kernel_rfl) (fun _ _ _ h => h) (Or.inl ⟨by rfl, ?h6_7⟩) (by assumption) ?r6_7
  case h6_7 =>
    intro W hSW
    try dsimp only at hSW
    go_simp
    try with_reducible rfl
  try simp only [Act.put, List.setIfInBounds_toArray, List.set_cons_zero, List.set_cons_succ]
  refine wpAnyH_take (i := 7) (oi := { dst := some 41, op := Op.move (Operand.tmp 13), type := 48, pos := "ref.go:267", after := #[{ on := 6, ground := Ground.guard }], guard := some (6, false) }) (v := ?v7_8) rfl (by kernel_rfl) (by kernel_rfl) (by kernel_rfl) (fun _ _ _ h => h) (Or.inl ⟨by rfl, ?h7_8⟩) (by assumption) ?r7_8
  case h7_8 =>
    intro W hSW
    try dsimp only at hSW
    go_simp
    try with_reducible rfl
  try simp only [Act.put, List.setIfInBounds_toArray, List.set_cons_zero, List.set_cons_succ]
  refine wpAnyH_take (i := 8) (oi := { dst := some 42, op := Op.move (Operand.tmp 13), type := 48, pos := "ref.go:267", after := #[{ on := 6, ground := Ground.guard }], guard := some (6, false) }) (v := ?v8_9) rfl (by kernel_rfl) (by kernel_rfl) (by kernel_rfl) (fun _ _ _ h => h) (Or.inl ⟨by rfl, ?h8_9⟩) (by assumption) ?r8_9
  case h8_9 =>
    intro W hSW
    try dsimp only at hSW
    go_simp
    try with_reducible rfl
  try simp only [Act.put, List.setIfInBounds_toArray, List.set_cons_zero, List.set_cons_succ]
  refine wpAnyH_take (i := 9) (oi := { dst := some 43, op := Op.call { callee := Callee.builtin Builtin.len, args := #[Operand.tmp 42], argTypes := #[48] }, type := 3, pos := "ref.go:267", after := #[{ on := 8, ground := Ground.data }, { on := 6, ground := Ground.guard }], guard := some (6, false) }) (v := ?v9_10) rfl (by kernel_rfl) (by kernel_rfl) (by kernel_rfl) (fun _ _ _ h => h) (Or.inl ⟨by rfl, ?h9_10⟩) (by assumption) ?r9_10
  case h9_10 =>
    intro W hSW
    try dsimp only at hSW
    go_simp
    try with_reducible rfl
  try simp only [Act.put, List.setIfInBounds_toArray, List.set_cons_zero, List.set_cons_succ]
  refine wpAnyH_take (i := 10) (oi := { dst := some 44, op := Op.binOp BinOp.sub 3 (Operand.tmp 43) (Operand.const (Value.int IntKind.i64 1)) 3, type := 3, pos := "ref.go:267", after := #[{ on := 9, ground := Ground.data }, { on := 6, ground := Ground.guard }], guard := some (6, false) }) (v := ?v10_11) rfl (by kernel_rfl) (by kernel_rfl) (by kernel_rfl) (fun _ _ _ h => h) (Or.inl ⟨by rfl, ?h10_11⟩) (by assumption) ?r10_11
  case h10_11 =>
    intro W hSW
    try dsimp only at hSW
    go_simp
    try with_reducible rfl
  try simp only [Act.put, List.setIfInBounds_toArray, List.set_cons_zero, List.set_cons_succ]
  refine wpAnyH_take (i := 11) (oi := { dst := some 45, op := Op.indexAddr 48 (Operand.tmp 41) (Operand.tmp 44), type := 0, pos := "ref.go:267", after := #[{ on := 7, ground := Ground.data }, { on := 10, ground := Ground.data }, { on := 6, ground := Ground.guard }], guard := some (6, false) }) (v := ?v11_12) rfl (by kernel_rfl) (by kernel_rfl) (by kernel_rfl) (fun _ _ _ h => h) (Or.inl ⟨by rfl, ?h11_12⟩) (by assumption) ?r11_12
  case h11_12 =>
    intro W hSW
    try dsimp only at hSW
    go_simp
    try with_reducible rfl
  try simp only [Act.put, List.setIfInBounds_toArray, List.set_cons_zero, List.set_cons_succ]
  refine wpAnyH_take (i := 12) (oi := { dst := some 46, op := Op.load 22 (Operand.tmp 45), type := 22, pos := "ref.go:267", after := #[{ on := 11, ground := Ground.data }, { on := 6, ground := Ground.guard }], guard := some (6, false) }) (v := ?v12_13) rfl (by kernel_rfl) (by kernel_rfl) (by kernel_rfl) (fun _ _ _ h => h) (Or.inl ⟨by rfl, ?h12_13⟩) (by assumption) ?r12_13
  case h12_13 =>
    intro W hSW
    try dsimp only at hSW
    have hcc := (hSW.cell (p := ⟨g1, off1 + m, none⟩) hg1').trans HC3.out
    go_simp
    try with_reducible rfl
  try simp only [Act.put, List.setIfInBounds_toArray, List.set_cons_zero, List.set_cons_succ]
  refine wpAnyH_take (i := 14) (oi := { dst := some 48, op := Op.move (Operand.tmp 15), type := 48, pos := "ref.go:267", after := #[{ on := 6, ground := Ground.guard }], guard := some (6, false) }) (v := ?v14_14) rfl (by kernel_rfl) (by kernel_rfl) (by kernel_rfl) (fun _ _ _ h => h) (Or.inl ⟨by rfl, ?h14_14⟩) (by assumption) ?r14_14
  case h14_14 =>
    intro W hSW
    try dsimp only at hSW
    go_simp
    try with_reducible rfl
  try simp only [Act.put, List.setIfInBounds_toArray, List.set_cons_zero, List.set_cons_succ]
  refine wpAnyH_take (i := 15) (oi := { dst := some 49, op := Op.move (Operand.tmp 15), type := 48, pos := "ref.go:267", after := #[{ on := 6, ground := Ground.guard }], guard := some (6, false) }) (v := ?v15_15) rfl (by kernel_rfl) (by kernel_rfl) (by kernel_rfl) (fun _ _ _ h => h) (Or.inl ⟨by rfl, ?h15_15⟩) (by assumption) ?r15_15
  case h15_15 =>
    intro W hSW
    try dsimp only at hSW
    go_simp
    try with_reducible rfl
  try simp only [Act.put, List.setIfInBounds_toArray, List.set_cons_zero, List.set_cons_succ]
  refine wpAnyH_take (i := 16) (oi := { dst := some 50, op := Op.call { callee := Callee.builtin Builtin.len, args := #[Operand.tmp 49], argTypes := #[48] }, type := 3, pos := "ref.go:267", after := #[{ on := 15, ground := Ground.data }, { on := 6, ground := Ground.guard }], guard := some (6, false) }) (v := ?v16_16) rfl (by kernel_rfl) (by kernel_rfl) (by kernel_rfl) (fun _ _ _ h => h) (Or.inl ⟨by rfl, ?h16_16⟩) (by assumption) ?r16_16
  case h16_16 =>
    intro W hSW
    try dsimp only at hSW
    go_simp
    try with_reducible rfl
  try simp only [Act.put, List.setIfInBounds_toArray, List.set_cons_zero, List.set_cons_succ]
  refine wpAnyH_take (i := 17) (oi := { dst := some 51, op := Op.binOp BinOp.sub 3 (Operand.tmp 50) (Operand.const (Value.int IntKind.i64 1)) 3, type := 3, pos := "ref.go:267", after := #[{ on := 16, ground := Ground.data }, { on := 6, ground := Ground.guard }], guard := some (6, false) }) (v := ?v17_17) rfl (by kernel_rfl) (by kernel_rfl) (by kernel_rfl) (fun _ _ _ h => h) (Or.inl ⟨by rfl, ?h17_17⟩) (by assumption) ?r17_17
  case h17_17 =>
    intro W hSW
    try dsimp only at hSW
    go_simp
    try with_reducible rfl
  try simp only [Act.put, List.setIfInBounds_toArray, List.set_cons_zero, List.set_cons_succ]
  refine wpAnyH_take (i := 18) (oi := { dst := some 52, op := Op.indexAddr 48 (Operand.tmp 48) (Operand.tmp 51), type := 0, pos := "ref.go:267", after := #[{ on := 14, ground := Ground.data }, { on := 17, ground := Ground.data }, { on := 6, ground := Ground.guard }], guard := some (6, false) }) (v := ?v18_18) rfl (by kernel_rfl) (by kernel_rfl) (by kernel_rfl) (fun _ _ _ h => h) (Or.inl ⟨by rfl, ?h18_18⟩) (by assumption) ?r18_18
  case h18_18 =>
    intro W hSW
    try dsimp only at hSW
    go_simp
    try with_reducible rfl
  try simp only [Act.put, List.setIfInBounds_toArray, List.set_cons_zero, List.set_cons_succ]
  refine wpAnyH_take (i := 19) (oi := { dst := some 53, op := Op.load 22 (Operand.tmp 52), type := 22, pos := "ref.go:267", after := #[{ on := 18, ground := Ground.data }, { on := 6, ground := Ground.guard }], guard := some (6, false) }) (v := ?v19_19) rfl (by kernel_rfl) (by kernel_rfl) (by kernel_rfl) (fun _ _ _ h => h) (Or.inl ⟨by rfl, ?h19_19⟩) (by assumption) ?r19_19
  case h19_19 =>
    intro W hSW
    try dsimp only at hSW
    have hcc := (hSW.cell (p := ⟨g2, off2 + m, none⟩) hg2').trans HC4.out
    go_simp
    try with_reducible rfl
  try simp only [Act.put, List.setIfInBounds_toArray, List.set_cons_zero, List.set_cons_succ]
  refine wpAnyH_ready (rs := [13]) (by kernel_rfl) (by simp) ?_
  refine AllReadyH.cons (o := { dst := some 47, op := Op.call { callee := Callee.value (Operand.func 25), args := #[Operand.tmp 46], argTypes := #[22] }, type := 30, pos := "ref.go:267", after := #[{ on := 12, ground := Ground.data }, { on := 6, ground := Ground.chain }, { on := 6, ground := Ground.guard }], guard := some (6, false) }) rfl (fun K hK => ?_) AllReadyH.nil
  go_simp
  refine (HS3.out _ hv0).mono ?_
  rintro e w4 ⟨rfl, b4⟩
  have hv4 : Below w3.heap.size w3 w4 := hv0.trans (b4.mono hv0.size)
  go_wp2_with fail
  refine hK.out _ _ (hv4) (fun hHeld => ?_)
  clear hK K
  try simp only [Act.put, List.setIfInBounds_toArray, List.set_cons_zero, List.set_cons_succ]
  refine wpAnyH_ready (rs := [20]) (by kernel_rfl) (by simp) ?_
  refine AllReadyH.cons (o := { dst := some 54, op := Op.call { callee := Callee.value (Operand.func 25), args := #[Operand.tmp 53], argTypes := #[22] }, type := 30, pos := "ref.go:267", after := #[{ on := 19, ground := Ground.data }, { on := 13, ground := Ground.chain }, { on := 6, ground := Ground.guard }], guard := some (6, false) }) rfl (fun K hK => ?_) AllReadyH.nil
  go_simp
  refine (HS4.out _ hv4).mono ?_
  rintro e w5 ⟨rfl, b5⟩
  have hv5 : Below w3.heap.size w3 w5 := hv4.trans (b5.mono hv4.size)
  go_wp2_with fail
  refine hK.out _ _ (hv5) (fun hHeld => ?_)
  clear hK K
  try simp only [Act.put, List.setIfInBounds_toArray, List.set_cons_zero, List.set_cons_succ]
  refine wpAnyH_take (i := 21) (oi := { dst := some 55, op := Op.binOp BinOp.neq 30 (Operand.tmp 47) (Operand.tmp 54) 30, type := 4, pos := "ref.go:267", after := #[{ on := 13, ground := Ground.data }, { on := 20, ground := Ground.data }, { on := 6, ground := Ground.guard }], guard := some (6, false) }) (v := ?v21_20) rfl (by kernel_rfl) (by kernel_rfl) (by kernel_rfl) (fun _ _ _ h => h) (Or.inl ⟨by rfl, ?h21_20⟩) (by assumption) ?r21_20
  case h21_20 =>
    intro W hSW
    try dsimp only at hSW
    go_simp
    try with_reducible rfl
  try simp only [Act.put, List.setIfInBounds_toArray, List.set_cons_zero, List.set_cons_succ]
  refine wpAnyH_take (i := 22) (oi := { dst := some 56, op := Op.pick (Operand.tmp 40) (Operand.const (Value.bool true)) (Operand.tmp 55), type := 4, pos := "ref.go:267", after := #[{ on := 6, ground := Ground.data }, { on := 21, ground := Ground.data }], guard := none }) (v := ?v22_21) rfl (by kernel_rfl) (by kernel_rfl) (by kernel_rfl) (fun _ _ _ h => h) (Or.inl ⟨by rfl, ?h22_21⟩) (by assumption) ?r22_21
  case h22_21 =>
    intro W hSW
    try dsimp only at hSW
    go_simp
    try with_reducible rfl
  try simp only [Act.put, List.setIfInBounds_toArray, List.set_cons_zero, List.set_cons_succ]
  refine wpAnyH_done (by kernel_rfl) ?_ _
  go_wp2_with fail
  have q4 : Below w.heap.size w w5 := q3.trans (hv5.mono q3.size)
  have rz4 := rz3.below' hv5
  have B34 := Lib.hid hv5
  go_loopw [17] (fun u17 wr => ∃ k : Nat, k ≤ M ∧ u17 = .int .i64 ((k : Int) - 1) ∧ Hid (Below w5.heap.size w5 wr) ∧ Hid (Mk.clashF L1 L2 M = Mk.clashF L1 L2 k)) (fun u17 _ => (intOf u17 + 1).toNat)
  case atStart => exact ⟨M, Nat.le_refl _, by rw [← HM.out]; congr 1; omega, Lib.hid (Below.refl _ _), Lib.hid rfl⟩
  case round =>
    obtain ⟨k, hk, rfl, HBW, HF⟩ := hrel
    have q5 := q4.trans (HBW.out.mono q4.size)
    have rzr := rz4.below' HBW.out
    by_cases h0 : k = 0
    · subst h0
      have HN := Lib.hid (HF.out.trans (show Mk.clashF L1 L2 0 = none from rfl))
      go_wp2_with (refine wpList_storeRow rfl _ (.tmp 12) (.tmp 85) rfl (l' := [Value.slice none 0 0, Value.slice none 0 0, Value.bool false]) rzr rfl rfl sizeCo rfl rfl ?_; intro w9 r9 g9 z9)
      refine bodyPost_ret (resultRowS rfl _ _ r9 rfl Tryd.underlying46 sizeCo) rfl ?_
      exact refClash_none HN q5 g9
    · obtain ⟨k, rfl⟩ : ∃ j, k = j + 1 := ⟨k - 1, by omega⟩
      have e1 : ((k + 1 : Nat) : Int) - 1 = (k : Int) := by omega
      rw [e1]
      have hkM : (k : Int) < (M : Int) := by omega
      have hk0 : (0 : Int) ≤ (k : Int) := by omega
      have hk64 : (k : Int) ≤ 64 := by have := HM.out; omega
      obtain ⟨A5, N5, c5, hx5, hN5, rd5, _⟩ := (RJ1'.out.below b3).2 k (L1.getD k []) (by rw [List.getD, List.getElem?_eq_getElem (by rw [HL1.out]; omega)]; rfl)
      obtain ⟨A6, N6, c6, hx6, hN6, rd6, _⟩ := RJ2'.out.2 k (L2.getD k []) (by rw [List.getD, List.getElem?_eq_getElem (by rw [HL2.out]; omega)]; rfl)
      have hb3r : Below w3.heap.size w3 wr := B34.out.trans (HBW.out.mono B34.out.size)
      have HC5 := Lib.hid ((hb3r.cell (p := ⟨g1, off1 + k, none⟩) hg1').trans ((b3.cell (p := ⟨g1, off1 + k, none⟩) (by omega)).trans (HCL1.out k _ hx5)))
      have HC6 := Lib.hid ((hb3r.cell (p := ⟨g2, off2 + k, none⟩) hg2').trans (HCL2.out k _ hx6))
      have hg1r : g1 < wr.heap.size := by have := hb3r.size; omega
      have hg2r : g2 < wr.heap.size := by have := hb3r.size; omega
      have HCV4 := Lib.hid (fun (W : World) (h : Below wr.heap.size wr W) => run_toS W 22 9 5 Tryd.underlying22 Tryd.underlying5 Tryd.underlying9 A5 N5 c5 _ (L1.getD k []) ((rd5.below hb3r).below (h.mono hb3r.size)))
      have HCV9 := Lib.hid (fun (W : World) (h : Below wr.heap.size wr W) => run_toS W 22 9 5 Tryd.underlying22 Tryd.underlying5 Tryd.underlying9 A6 N6 c6 _ (L2.getD k []) ((rd6.below hb3r).below (h.mono hb3r.size)))
      obtain ⟨S, hS⟩ : ∃ S, decide (L1.getD k [] = L2.getD k []) = S := ⟨_, rfl⟩
      have hneq := str_beq (L1.getD k []) (L2.getD k []) S hS
      have HS := Lib.hid hS
      have RD5 := Lib.hid (And.intro hN5 ((rd5.below hb3r).more hb3r.size))
      have RD6 := Lib.hid (And.intro hN6 ((rd6.below hb3r).more hb3r.size))
      obtain ⟨s5, hs5⟩ : ∃ s : ByteArray, ⟨(L1.getD k []).toArray⟩ = s := ⟨_, rfl⟩
      obtain ⟨s6, hs6⟩ : ∃ s : ByteArray, ⟨(L2.getD k []).toArray⟩ = s := ⟨_, rfl⟩
      rw [hs5] at hneq HCV4
      rw [hs6] at hneq HCV9
      have HNE := Lib.hid hneq
      clear hS hN5 hN6 rd5 rd6 hx5 hx6 hs5 hs6 hneq
      go_wp2_with fail
      have hv0 : Below wr.heap.size wr wr.drew := (Below.refl _ _).drew
      refine wp_region_held_drew (S := fun W => Below wr.heap.size wr W) (by kernel_rfl) (hv0) (fun hHeld => ?_)
      obtain ⟨wd, hwd⟩ : ∃ x, wr.drew = x := ⟨_, rfl⟩
      rw [hwd] at hv0 hHeld  ⊢
      clear hwd
      refine wpAnyH_take (i := 0) (oi := { dst := some 65, op := Op.move (Operand.tmp 13), type := 48, pos := "ref.go:271", after := #[], guard := none }) (v := ?v0_501) rfl (by kernel_rfl) (by kernel_rfl) (by kernel_rfl) (fun _ _ _ h => h) (Or.inl ⟨by rfl, ?h0_501⟩) (by assumption) ?r0_501
      case h0_501 =>
        intro W hSW
        try dsimp only at hSW
        go_simp
        try with_reducible rfl
      try simp only [Act.put, List.setIfInBounds_toArray, List.set_cons_zero, List.set_cons_succ]
      refine wpAnyH_take (i := 1) (oi := { dst := some 66, op := Op.move (Operand.tmp 17), type := 3, pos := "ref.go:271", after := #[], guard := none }) (v := ?v1_502) rfl (by kernel_rfl) (by kernel_rfl) (by kernel_rfl) (fun _ _ _ h => h) (Or.inl ⟨by rfl, ?h1_502⟩) (by assumption) ?r1_502
      case h1_502 =>
        intro W hSW
        try dsimp only at hSW
        go_simp
        try with_reducible rfl
      try simp only [Act.put, List.setIfInBounds_toArray, List.set_cons_zero, List.set_cons_succ]
      refine wpAnyH_take (i := 2) (oi := { dst := some 67, op := Op.indexAddr 48 (Operand.tmp 65) (Operand.tmp 66), type := 0, pos := "ref.go:271", after := #[{ on := 0, ground := Ground.data }, { on := 1, ground := Ground.data }], guard := none }) (v := ?v2_503) rfl (by kernel_rfl) (by kernel_rfl) (by kernel_rfl) (fun _ _ _ h => h) (Or.inl ⟨by rfl, ?h2_503⟩) (by assumption) ?r2_503
      case h2_503 =>
        intro W hSW
        try dsimp only at hSW
        go_simp
        try with_reducible rfl
      try simp only [Act.put, List.setIfInBounds_toArray, List.set_cons_zero, List.set_cons_succ]
      refine wpAnyH_take (i := 3) (oi := { dst := some 68, op := Op.load 22 (Operand.tmp 67), type := 22, pos := "ref.go:271", after := #[{ on := 2, ground := Ground.data }], guard := none }) (v := ?v3_504) rfl (by kernel_rfl) (by kernel_rfl) (by kernel_rfl) (fun _ _ _ h => h) (Or.inl ⟨by rfl, ?h3_504⟩) (by assumption) ?r3_504
      case h3_504 =>
        intro W hSW
        try dsimp only at hSW
        have hcc := (hSW.cell (p := ⟨g1, off1 + k, none⟩) hg1r).trans HC5.out
        go_simp
        try with_reducible rfl
      try simp only [Act.put, List.setIfInBounds_toArray, List.set_cons_zero, List.set_cons_succ]
      refine wpAnyH_take (i := 4) (oi := { dst := some 69, op := Op.convert 22 9 (Operand.tmp 68), type := 9, pos := "ref.go:271", after := #[{ on := 3, ground := Ground.data }], guard := none }) (v := ?v4_505) rfl (by kernel_rfl) (by kernel_rfl) (by kernel_rfl) (fun _ _ _ h => h) (Or.inl ⟨by rfl, ?h4_505⟩) (by assumption) ?r4_505
      case h4_505 =>
        intro W hSW
        try dsimp only at hSW
        have hcc := HCV4.out W hSW
        go_simp
        try with_reducible rfl
      try simp only [Act.put, List.setIfInBounds_toArray, List.set_cons_zero, List.set_cons_succ]
      refine wpAnyH_take (i := 5) (oi := { dst := some 70, op := Op.move (Operand.tmp 15), type := 48, pos := "ref.go:271", after := #[], guard := none }) (v := ?v5_506) rfl (by kernel_rfl) (by kernel_rfl) (by kernel_rfl) (fun _ _ _ h => h) (Or.inl ⟨by rfl, ?h5_506⟩) (by assumption) ?r5_506
      case h5_506 =>
        intro W hSW
        try dsimp only at hSW
        go_simp
        try with_reducible rfl
      try simp only [Act.put, List.setIfInBounds_toArray, List.set_cons_zero, List.set_cons_succ]
      refine wpAnyH_take (i := 6) (oi := { dst := some 71, op := Op.move (Operand.tmp 17), type := 3, pos := "ref.go:271", after := #[], guard := none }) (v := ?v6_507) rfl (by kernel_rfl) (by kernel_rfl) (by kernel_rfl) (fun _ _ _ h => h) (Or.inl ⟨by rfl, ?h6_507⟩) (by assumption) ?r6_507
      case h6_507 =>
        intro W hSW
        try dsimp only at hSW
        go_simp
        try with_reducible rfl
      try simp only [Act.put, List.setIfInBounds_toArray, List.set_cons_zero, List.set_cons_succ]
      refine wpAnyH_take (i := 7) (oi := { dst := some 72, op := Op.indexAddr 48 (Operand.tmp 70) (Operand.tmp 71), type := 0, pos := "ref.go:271", after := #[{ on := 5, ground := Ground.data }, { on := 6, ground := Ground.data }], guard := none }) (v := ?v7_508) rfl (by kernel_rfl) (by kernel_rfl) (by kernel_rfl) (fun _ _ _ h => h) (Or.inl ⟨by rfl, ?h7_508⟩) (by assumption) ?r7_508
      case h7_508 =>
        intro W hSW
        try dsimp only at hSW
        go_simp
        try with_reducible rfl
      try simp only [Act.put, List.setIfInBounds_toArray, List.set_cons_zero, List.set_cons_succ]
      refine wpAnyH_take (i := 8) (oi := { dst := some 73, op := Op.load 22 (Operand.tmp 72), type := 22, pos := "ref.go:271", after := #[{ on := 7, ground := Ground.data }], guard := none }) (v := ?v8_509) rfl (by kernel_rfl) (by kernel_rfl) (by kernel_rfl) (fun _ _ _ h => h) (Or.inl ⟨by rfl, ?h8_509⟩) (by assumption) ?r8_509
      case h8_509 =>
        intro W hSW
        try dsimp only at hSW
        have hcc := (hSW.cell (p := ⟨g2, off2 + k, none⟩) hg2r).trans HC6.out
        go_simp
        try with_reducible rfl
      try simp only [Act.put, List.setIfInBounds_toArray, List.set_cons_zero, List.set_cons_succ]
      refine wpAnyH_take (i := 9) (oi := { dst := some 74, op := Op.convert 22 9 (Operand.tmp 73), type := 9, pos := "ref.go:271", after := #[{ on := 8, ground := Ground.data }], guard := none }) (v := ?v9_510) rfl (by kernel_rfl) (by kernel_rfl) (by kernel_rfl) (fun _ _ _ h => h) (Or.inl ⟨by rfl, ?h9_510⟩) (by assumption) ?r9_510
      case h9_510 =>
        intro W hSW
        try dsimp only at hSW
        have hcc := HCV9.out W hSW
        go_simp
        try with_reducible rfl
      try simp only [Act.put, List.setIfInBounds_toArray, List.set_cons_zero, List.set_cons_succ]
      refine wpAnyH_take (i := 10) (oi := { dst := some 75, op := Op.binOp BinOp.neq 9 (Operand.tmp 69) (Operand.tmp 74) 9, type := 4, pos := "ref.go:271", after := #[{ on := 4, ground := Ground.data }, { on := 9, ground := Ground.data }], guard := none }) (v := ?v10_511) rfl (by kernel_rfl) (by kernel_rfl) (by kernel_rfl) (fun _ _ _ h => h) (Or.inl ⟨by rfl, ?h10_511⟩) (by assumption) ?r10_511
      case h10_511 =>
        intro W hSW
        try dsimp only at hSW
        have hcc := HNE.out
        go_simp
        try with_reducible rfl
      try simp only [Act.put, List.setIfInBounds_toArray, List.set_cons_zero, List.set_cons_succ]
      refine wpAnyH_done (by kernel_rfl) ?_ _
      have hvx := hv0
      obtain ⟨wx, hwx⟩ : ∃ x, wd = x := ⟨_, rfl⟩
      try rw [hwx] at hvx
      try rw [hwx]
      have k5 : wx.cell? ⟨g1, off1 + k, none⟩ = some (.slice A5 N5 c5) := (hvx.cell (p := ⟨g1, off1 + k, none⟩) hg1r).trans HC5.out
      have k6 : wx.cell? ⟨g2, off2 + k, none⟩ = some (.slice A6 N6 c6) := (hvx.cell (p := ⟨g2, off2 + k, none⟩) hg2r).trans HC6.out
      have hg1x : g1 < wx.heap.size := by have := hvx.size; omega
      have hg2x : g2 < wx.heap.size := by have := hvx.size; omega
      have rzx := rzr.below' hvx
      clear hHeld hwx
      cases S with
      | true =>
        have HF2 : Hid (Mk.clashF L1 L2 M = Mk.clashF L1 L2 k) := Lib.hid (HF.out.trans (by rw [Mk.clashF, if_pos (of_decide_eq_true HS.out)]))
        go_wp2_with fail
        go_roundw
        case rel => exact ⟨k, by omega, by go_num, Lib.hid (HBW.out.trans (hvx.mono HBW.out.size)), HF2⟩
        case measure => simp [intOf] <;> omega
      | false =>
        have HF2 : Hid (Mk.clashF L1 L2 M = some k) := Lib.hid (HF.out.trans (by rw [Mk.clashF, if_neg (of_decide_eq_false HS.out)]))
        go_wp2_with fail
        have hv0 : Below wx.heap.size wx wx.drew := (Below.refl _ _).drew
        refine wp_region_late (fun W => Below wx.heap.size wx W) [9] (by kernel_rfl) (hv0) (fun hHeld => ?_)
        refine wpAnyL_take (i := 0) (oi := { dst := some 76, op := Op.move (Operand.tmp 13), type := 48, pos := "ref.go:272", after := #[], guard := none }) (v := ?v0_701) rfl (by kernel_rfl) (by kernel_rfl) (by kernel_rfl) (by kernel_rfl) (fun _ _ _ h => h) (Or.inl ⟨by rfl, ?h0_701⟩) (by assumption) ?r0_701
        case h0_701 =>
          intro W hSW
          try dsimp only at hSW
          go_simp
          try with_reducible rfl
        try simp only [Act.put, List.setIfInBounds_toArray, List.set_cons_zero, List.set_cons_succ]
        refine wpAnyL_take (i := 1) (oi := { dst := some 77, op := Op.move (Operand.tmp 17), type := 3, pos := "ref.go:272", after := #[], guard := none }) (v := ?v1_702) rfl (by kernel_rfl) (by kernel_rfl) (by kernel_rfl) (by kernel_rfl) (fun _ _ _ h => h) (Or.inl ⟨by rfl, ?h1_702⟩) (by assumption) ?r1_702
        case h1_702 =>
          intro W hSW
          try dsimp only at hSW
          go_simp
          try with_reducible rfl
        try simp only [Act.put, List.setIfInBounds_toArray, List.set_cons_zero, List.set_cons_succ]
        refine wpAnyL_take (i := 2) (oi := { dst := some 78, op := Op.indexAddr 48 (Operand.tmp 76) (Operand.tmp 77), type := 0, pos := "ref.go:272", after := #[{ on := 0, ground := Ground.data }, { on := 1, ground := Ground.data }], guard := none }) (v := ?v2_703) rfl (by kernel_rfl) (by kernel_rfl) (by kernel_rfl) (by kernel_rfl) (fun _ _ _ h => h) (Or.inl ⟨by rfl, ?h2_703⟩) (by assumption) ?r2_703
        case h2_703 =>
          intro W hSW
          try dsimp only at hSW
          go_simp
          try with_reducible rfl
        try simp only [Act.put, List.setIfInBounds_toArray, List.set_cons_zero, List.set_cons_succ]
        refine wpAnyL_take (i := 3) (oi := { dst := some 79, op := Op.load 22 (Operand.tmp 78), type := 22, pos := "ref.go:272", after := #[{ on := 2, ground := Ground.data }], guard := none }) (v := ?v3_704) rfl (by kernel_rfl) (by kernel_rfl) (by kernel_rfl) (by kernel_rfl) (fun _ _ _ h => h) (Or.inl ⟨by rfl, ?h3_704⟩) (by assumption) ?r3_704
        case h3_704 =>
          intro W hSW
          try dsimp only at hSW
          have hcc := (hSW.cell (p := ⟨g1, off1 + k, none⟩) hg1x).trans k5
          go_simp
          try with_reducible rfl
        try simp only [Act.put, List.setIfInBounds_toArray, List.set_cons_zero, List.set_cons_succ]
        refine wpAnyL_take (i := 4) (oi := { dst := some 80, op := Op.move (Operand.tmp 15), type := 48, pos := "ref.go:272", after := #[], guard := none }) (v := ?v4_705) rfl (by kernel_rfl) (by kernel_rfl) (by kernel_rfl) (by kernel_rfl) (fun _ _ _ h => h) (Or.inl ⟨by rfl, ?h4_705⟩) (by assumption) ?r4_705
        case h4_705 =>
          intro W hSW
          try dsimp only at hSW
          go_simp
          try with_reducible rfl
        try simp only [Act.put, List.setIfInBounds_toArray, List.set_cons_zero, List.set_cons_succ]
        refine wpAnyL_take (i := 5) (oi := { dst := some 81, op := Op.move (Operand.tmp 17), type := 3, pos := "ref.go:272", after := #[], guard := none }) (v := ?v5_706) rfl (by kernel_rfl) (by kernel_rfl) (by kernel_rfl) (by kernel_rfl) (fun _ _ _ h => h) (Or.inl ⟨by rfl, ?h5_706⟩) (by assumption) ?r5_706
        case h5_706 =>
          intro W hSW
          try dsimp only at hSW
          go_simp
          try with_reducible rfl
        try simp only [Act.put, List.setIfInBounds_toArray, List.set_cons_zero, List.set_cons_succ]
        refine wpAnyL_take (i := 6) (oi := { dst := some 82, op := Op.indexAddr 48 (Operand.tmp 80) (Operand.tmp 81), type := 0, pos := "ref.go:272", after := #[{ on := 4, ground := Ground.data }, { on := 5, ground := Ground.data }], guard := none }) (v := ?v6_707) rfl (by kernel_rfl) (by kernel_rfl) (by kernel_rfl) (by kernel_rfl) (fun _ _ _ h => h) (Or.inl ⟨by rfl, ?h6_707⟩) (by assumption) ?r6_707
        case h6_707 =>
          intro W hSW
          try dsimp only at hSW
          go_simp
          try with_reducible rfl
        try simp only [Act.put, List.setIfInBounds_toArray, List.set_cons_zero, List.set_cons_succ]
        refine wpAnyL_take (i := 7) (oi := { dst := some 83, op := Op.load 22 (Operand.tmp 82), type := 22, pos := "ref.go:272", after := #[{ on := 6, ground := Ground.data }], guard := none }) (v := ?v7_708) rfl (by kernel_rfl) (by kernel_rfl) (by kernel_rfl) (by kernel_rfl) (fun _ _ _ h => h) (Or.inl ⟨by rfl, ?h7_708⟩) (by assumption) ?r7_708
        case h7_708 =>
          intro W hSW
          try dsimp only at hSW
          have hcc := (hSW.cell (p := ⟨g2, off2 + k, none⟩) hg2x).trans k6
          go_simp
          try with_reducible rfl
        try simp only [Act.put, List.setIfInBounds_toArray, List.set_cons_zero, List.set_cons_succ]
        refine wpAnyL_take (i := 8) (oi := { dst := some 84, op := Op.build 46 #[(0, Operand.tmp 79), (1, Operand.tmp 83), (2, Operand.const (Value.bool true))], type := 46, pos := "ref.go:272", after := #[{ on := 3, ground := Ground.data }, { on := 7, ground := Ground.data }], guard := none }) (v := ?v8_709) rfl (by kernel_rfl) (by kernel_rfl) (by kernel_rfl) (by kernel_rfl) (fun _ _ _ h => h) (Or.inl ⟨by rfl, ?h8_709⟩) (by assumption) ?r8_709
        case h8_709 =>
          intro W hSW
          try dsimp only at hSW
          go_simp
          try with_reducible rfl
        try simp only [Act.put, List.setIfInBounds_toArray, List.set_cons_zero, List.set_cons_succ]
        refine wpAnyL_ready (rs := [9]) (by kernel_rfl) (by simp) ?_
        refine AllReadyL.late (o := { dst := none, op := Op.store 46 (Operand.tmp 12) (Operand.tmp 84), type := 0, pos := "ref.go:272", after := #[{ on := 8, ground := Ground.data }, { on := 0, ground := Ground.phase }, { on := 1, ground := Ground.phase }, { on := 2, ground := Ground.phase }, { on := 3, ground := Ground.phase }, { on := 4, ground := Ground.phase }, { on := 5, ground := Ground.phase }, { on := 6, ground := Ground.phase }, { on := 7, ground := Ground.phase }, { on := 8, ground := Ground.phase }], guard := none }) rfl (by rfl) (fun K hK => ?_) AllReadyL.nil
        rw [if_pos (by rfl)]
        refine wp_storeRow _ (.tmp 12) (.tmp 84) rfl (l' := [Value.slice A5 N5 c5, Value.slice A6 N6 c6, Value.bool true]) (rzx.below' hv0) rfl rfl sizeCo rfl rfl ?_
        intro w20 r9 g9 z9
        refine hK.out _ _ ?_
        clear hK K
        try simp only [Act.put, List.setIfInBounds_toArray, List.set_cons_zero, List.set_cons_succ]
        refine wpAnyL_done (by kernel_rfl) ?_ _
        go_wp2_with fail
        refine bodyPost_ret (resultRowS rfl _ _ r9 rfl Tryd.underlying46 sizeCo) rfl ?_
        exact refClash_found HF2 q5 hvx hv0 g9 RD5 RD6 rzr
end Go.Proofs.YtfnbcchmembomaaDoor
