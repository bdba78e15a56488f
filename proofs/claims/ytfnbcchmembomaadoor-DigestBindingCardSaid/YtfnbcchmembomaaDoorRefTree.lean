/- The reference's trees: walks of Text, leaf, node, Root. -/
import Derived.Test.YtfnbcchmembomaaDoorRefTreeP
import Derived.Test.YtfnbcchmembomaaDoorHeld2
import Derived.Test.YtfnbcchmembomaaDoorPreW
namespace Go.Proofs.YtfnbcchmembomaaDoor
set_option linter.unusedVariables false
set_option linter.unusedSimpArgs false
open Go.RowKit
set_option maxRecDepth 100000 in
set_option maxHeartbeats 1000000 in
theorem refText_any (d : List UInt8) (hd : d.length = 16) (w : World) :
    Calls Tryd.prog 51 #[dv d] w fun e w' => e = .returned (.string (Mk.str d)) ∧ Below w.heap.size w w' := by
  have r0 := IsRow.new w 30 (bvs d)
  have hb0 : Below w.heap.size w (w.alloc (.cells (bvs d).toArray 30)) := (Below.refl _ w).alloc (Nat.le_refl _) _
  have HZ := Lib.hid (alloc_size1 w (.cells (bvs d).toArray 30))
  have HD := Lib.hid hd
  clear hd
  go_enter Tryd.func51, Tryd.ntmps51
  go_wp2
  go_loopw [3, 4] (fun u3 u4 wr => ∃ (k : Nat) (A' : Option Addr) (c' : Nat), k ≤ 16 ∧ u4 = .int .i64 k ∧ u3 = .slice A' k c' ∧ wr.ownsRow (w.heap.size + 1) 5 1 (.slice A' k c') k (bvs (d.take k)) ∧ Hid (Below w.heap.size w wr) ∧ Hid (IsRow wr w.heap.size 30 (bvs d)))
    (fun _ u4 _ => 16 - (intOf u4).toNat)
  case atStart => exact ⟨0, none, 0, by omega, rfl, rfl, World.ownsRow_nil _ _ _ _, Lib.hid hb0, Lib.hid r0⟩
  case round =>
    obtain ⟨k, A', c', hk, rfl, rfl, own, HB, HR⟩ := hrel
    have hBw := HB.out.size
    have hrl := HR.out.lt
    by_cases hkl : k < 16
    · have hkd : k < d.length := by rw [HD.out]; exact hkl
      have hcell : wr.cell? ⟨w.heap.size, k, none⟩ = some (.int .u8 ((d[k]).toNat : Int)) := by rw [HR.out.cell]; simp [bvs, hkd]
      have HT : Hid (bvs (d.take (k + 1)) = bvs (d.take k) ++ [.int .u8 ((d[k]).toNat : Int)]) := Lib.hid (by show (d.take (k + 1)).map _ = (d.take k).map _ ++ [_]; rw [List.take_succ_eq_append_getElem hkd, List.map_append]; rfl)
      generalize ((d[k]).toNat : Int) = x at *
      clear hkd
      go_wp2_with (at_builtin; refine wpList_app1 rfl (.tmp 9) (.tmp 13) 22 rfl (w.heap.size + 1) 5 _ 1 bytesE A' k c' _ _ rfl rfl own HB.out rfl (by omega) (by omega) (by omega) ?_; intro g4 c4 w4 own4 hb4 hg4)
      go_roundw
      case rel => exact ⟨k + 1, _, c4, by omega, by go_num, rfl, by rw [HT.out]; exact own4, Lib.hid hb4, Lib.hid (HR.out.grown hg4.1 (fun e => by have := (own.lt _ e).1; omega))⟩
      case measure => simp [intOf]; omega
    · have hk16 : k = 16 := by omega
      subst hk16
      have hdt : d.take 16 = d := List.take_of_length_le (by rw [HD.out]; exact Nat.le_refl _)
      rw [hdt] at own
      have rd := Rd.of_own own
      go_wp2_with (with_reducible refine wpList_toS rfl (.tmp 15) 22 9 5 rfl Tryd.underlying22 Tryd.underlying5 Tryd.underlying9 A' 16 c' rfl d rd ?_)
      go_ret
      exact ⟨rfl, HB.out⟩
set_option maxRecDepth 100000 in
set_option maxHeartbeats 1000000 in
theorem refLeaf_any (d : List UInt8) (hd : d.length = 16) (w : World) (hT : RTab w) :
    Calls Tryd.prog 47 #[dv d] w fun e w' => e = .returned (dv (Mk.short (Mk.leaf d))) ∧ Below w.heap.size w w' := by
  have r0 := IsRow.new w 30 (bvs d)
  have hb0 : Below w.heap.size w (w.alloc (.cells (bvs d).toArray 30)) := (Below.refl _ w).alloc (Nat.le_refl _) _
  have hz0 := alloc_size1 w (.cells (bvs d).toArray 30)
  obtain ⟨w0, hw0⟩ : ∃ w0, w.alloc (.cells (bvs d).toArray 30) = w0 := ⟨_, rfl⟩
  rw [hw0] at r0 hb0 hz0
  have HZ0 := Lib.hid hz0
  have HW0 := Lib.hid hw0
  have HD := Lib.hid hd
  have hle : (Mk.input 1 [Mk.str d]).length ≤ 1000 := leaf_le d hd
  have hl16 := Mk.short_len (Mk.leaf d)
  have HOf := Lib.hid (fun (W : World) (h : Below w.heap.size w W) (A' : Option Addr) (c' : Nat) (rd : Rd W W.heap.size 1 A' 1 (svs [Mk.str d])) => refOf_any 1 A' 1 c' [Mk.str d] rfl W.heap.size W rd (Nat.le_refl _) (by omega) (hT.below h))
  rw [show Mk.of 1 [Mk.str d] = Mk.short (Mk.leaf d) from rfl] at HOf
  generalize Mk.short (Mk.leaf d) = s at *
  have HS := Lib.hid hl16
  have HT := Lib.hid (fun W => refText_any d HD.out W)
  clear hw0 hd hl16 hz0
  go_enter Tryd.func47, Tryd.ntmps47
  go_wp2_with (first
    | (refine wpList_allocRow rfl _ rfl _ info16 ?_; rw [HW0.out]; intro w1 r1 b1 z1; have r01 := r0.below' b1; clear z1)
    | (refine wpList_loadRow rfl _ (.tmp 1) rfl r01 rfl Tryd.underlying30 (by rw [bvs_len, HD.out]; exact size16) ?_)
    | (go_at_call 51; refine (HT.out w1).mono ?_; rintro e w2 ⟨rfl, b2⟩; have q2 := hb0.trans ((b1.trans (b2.mono b1.size)).mono hb0.size))
    | (go_at_call 14; refine (HOf.out _ (q2.alloc (by have := q2.size; omega) _) _ _ (by have := Rd.new w2 (svs [Mk.str d]) 9 1 (size := 1) rfl; rwa [← alloc_size1 w2 (.cells (svs [Mk.str d]).toArray 9)] at this)).mono ?_; rintro e w3 ⟨rfl, b3⟩; have r3 := ((r1.below' b2).alloc (.cells (svs [Mk.str d]).toArray 9)).below' b3)
    | (refine wpList_storeRow rfl _ (.tmp 2) (.tmp 6) rfl r3 rfl rfl (by rw [bvs_len, HS.out]; exact size16) (by rw [bvs_len, HS.out, List.length_replicate]) (bvs_all _) ?_; intro w4 r4 g4 z4)
    | fail)
  have q3 : Below w.heap.size w w3 := (q2.alloc (by have := q2.size; omega) _).trans (b3.mono (by rw [alloc_size1]; have := q2.size; omega))
  exact bodyPost_ret (resultRow rfl _ _ r4 rfl Tryd.underlying30 (by rw [bvs_len, HS.out]; exact size16)) rfl ⟨rfl, q3.grown g4 q3.size (by intro j hj; have hj := Option.some.inj hj; have := HZ0.out; omega)⟩
set_option maxRecDepth 100000 in
set_option maxHeartbeats 1000000 in
theorem refNode_any (a b : List UInt8) (ha : a.length = 16) (hb : b.length = 16) (w : World) (hT : RTab w) :
    Calls Tryd.prog 48 #[dv a, dv b] w fun e w' => e = .returned (dv (Mk.short (Mk.node a b))) ∧ Below w.heap.size w w' := by
  have h2 := rows2 w 30 30 (bvs a) (bvs b)
  have hb0 : Below w.heap.size w ((w.alloc (.cells (bvs a).toArray 30)).alloc (.cells (bvs b).toArray 30)) := ((Below.refl _ w).alloc (Nat.le_refl _) _).alloc (by rw [alloc_size1]; omega) _
  have hz0 : ((w.alloc (.cells (bvs a).toArray 30)).alloc (.cells (bvs b).toArray 30)).heap.size = w.heap.size + 2 := by rw [alloc_size1, alloc_size1]
  obtain ⟨w0, hw0⟩ : ∃ w0, (w.alloc (.cells (bvs a).toArray 30)).alloc (.cells (bvs b).toArray 30) = w0 := ⟨_, rfl⟩
  rw [hw0] at h2 hb0 hz0
  have HZ0 := Lib.hid hz0
  have HW0 := Lib.hid hw0
  have HA := Lib.hid ha
  have HB := Lib.hid hb
  have hle : (Mk.input 2 [Mk.str a, Mk.str b]).length ≤ 1000 := node_le a b ha hb
  have hl16 := Mk.short_len (Mk.node a b)
  have HOf := Lib.hid (fun (W : World) (h : Below w.heap.size w W) (A' : Option Addr) (c' : Nat) (rd : Rd W W.heap.size 1 A' 2 (svs [Mk.str a, Mk.str b])) => refOf_any 2 A' 2 c' [Mk.str a, Mk.str b] rfl W.heap.size W rd (Nat.le_refl _) (by omega) (hT.below h))
  rw [show Mk.of 2 [Mk.str a, Mk.str b] = Mk.short (Mk.node a b) from rfl] at HOf
  generalize Mk.short (Mk.node a b) = s at *
  have HS := Lib.hid hl16
  have HTa := Lib.hid (fun W => refText_any a HA.out W)
  have HTb := Lib.hid (fun W => refText_any b HB.out W)
  have ra := h2.1
  have rb := h2.2
  clear hw0 ha hb hl16 hz0 h2
  go_enter Tryd.func48, Tryd.ntmps48
  go_wp2_with (first
    | (refine wpList_allocRow rfl _ rfl _ info16 ?_; rw [HW0.out]; intro w1 r1 b1 z1; have ra1 := ra.below' b1; have rb1 := rb.below' b1; clear z1)
    | fail)
  have q1 := hb0.trans (b1.mono hb0.size)
  have hv0 : Below w1.heap.size w1 w1.drew := (Below.refl _ _).drew
  refine wp_region_late (fun W => Below w1.heap.size w1 W) [6] (by kernel_rfl) (hv0) (fun hHeld => ?_)
  refine wpAnyL_take (i := 0) (oi := { dst := some 5, op := Op.load 30 (Operand.tmp 2), type := 30, pos := "ref.go:110", after := #[], guard := none }) (v := _) rfl (by kernel_rfl) (by kernel_rfl) (by kernel_rfl) (by kernel_rfl) (fun _ _ _ h => h) (yi_row rfl _ (.tmp 2) rfl rfl (fun W hW => ra1.below' hW) Tryd.underlying30 (by rw [bvs_len, HA.out]; exact size16)) (by assumption) ?_
  try simp only [Act.put, List.setIfInBounds_toArray, List.set_cons_zero, List.set_cons_succ]
  refine wpAnyL_take (i := 2) (oi := { dst := some 7, op := Op.load 30 (Operand.tmp 3), type := 30, pos := "ref.go:110", after := #[], guard := none }) (v := _) rfl (by kernel_rfl) (by kernel_rfl) (by kernel_rfl) (by kernel_rfl) (fun _ _ _ h => h) (yi_row rfl _ (.tmp 3) rfl rfl (fun W hW => rb1.below' hW) Tryd.underlying30 (by rw [bvs_len, HB.out]; exact size16)) (by assumption) ?_
  try simp only [Act.put, List.setIfInBounds_toArray, List.set_cons_zero, List.set_cons_succ]
  refine wpAnyL_ready (rs := [1]) (by kernel_rfl) (by simp) ?_
  refine AllReadyL.cons (o := { dst := some 6, op := Op.call { callee := Callee.value (Operand.func 51), args := #[Operand.tmp 5], argTypes := #[30] }, type := 9, pos := "ref.go:110", after := #[{ on := 0, ground := Ground.data }], guard := none }) rfl (fun K hK => ?_) AllReadyL.nil
  go_simp
  refine (HTa.out w1.drew).mono ?_
  rintro e w4 ⟨rfl, b4⟩
  have hv4 : Below w1.heap.size w1 w4 := hv0.trans (b4.mono hv0.size)
  go_wp2_with fail
  refine hK.out _ _ (hv4) (fun hHeld => ?_)
  clear hK K
  try simp only [Act.put, List.setIfInBounds_toArray, List.set_cons_zero, List.set_cons_succ]
  refine wpAnyL_ready (rs := [3]) (by kernel_rfl) (by simp) ?_
  refine AllReadyL.cons (o := { dst := some 8, op := Op.call { callee := Callee.value (Operand.func 51), args := #[Operand.tmp 7], argTypes := #[30] }, type := 9, pos := "ref.go:110", after := #[{ on := 2, ground := Ground.data }, { on := 1, ground := Ground.chain }], guard := none }) rfl (fun K hK => ?_) AllReadyL.nil
  go_simp
  refine (HTb.out w4).mono ?_
  rintro e w5 ⟨rfl, b5⟩
  have hv5 : Below w1.heap.size w1 w5 := hv4.trans (b5.mono hv4.size)
  go_wp2_with fail
  refine hK.out _ _ (hv5) (fun hHeld => ?_)
  clear hK K
  try simp only [Act.put, List.setIfInBounds_toArray, List.set_cons_zero, List.set_cons_succ]
  refine wpAnyL_ready (rs := [4]) (by kernel_rfl) (by simp) ?_
  refine AllReadyL.cons (o := { dst := some 9, op := Op.buildSlice 28 2 #[(0, Operand.tmp 6), (1, Operand.tmp 8)], type := 28, pos := "ref.go:110", after := #[{ on := 1, ground := Ground.data }, { on := 3, ground := Ground.data }], guard := none }) rfl (fun K hK => ?_) AllReadyL.nil
  go_simp
  obtain ⟨w6, hw6⟩ : ∃ w', w5.alloc (.cells #[Value.string (Mk.str a), Value.string (Mk.str b)] 9) = w' := ⟨_, rfl⟩
  rw [hw6]
  have hv6 : Below w1.heap.size w1 w6 := by rw [← hw6]; exact hv5.alloc hv5.size _
  have rds : Rd w6 w6.heap.size 1 (some ⟨w5.heap.size, 0, none⟩) 2 (svs [Mk.str a, Mk.str b]) := by rw [← hw6, alloc_size1]; exact Rd.new w5 (svs [Mk.str a, Mk.str b]) 9 2 (size := 1) rfl
  clear hw6
  refine hK.out _ _ (hv6) (fun hHeld => ?_)
  clear hK K
  try simp only [Act.put, List.setIfInBounds_toArray, List.set_cons_zero, List.set_cons_succ]
  refine wpAnyL_ready (rs := [5]) (by kernel_rfl) (by simp) ?_
  refine AllReadyL.cons (o := { dst := some 10, op := Op.call { callee := Callee.value (Operand.func 14), args := #[Operand.const (Value.int IntKind.i64 2), Operand.tmp 9], argTypes := #[3, 28] }, type := 30, pos := "ref.go:110", after := #[{ on := 4, ground := Ground.data }, { on := 3, ground := Ground.chain }], guard := none }) rfl (fun K hK => ?_) AllReadyL.nil
  go_simp
  refine (HOf.out _ (q1.trans (hv6.mono q1.size)) _ _ rds).mono ?_
  rintro e w7 ⟨rfl, b7⟩
  have hv7 : Below w1.heap.size w1 w7 := hv6.trans (b7.mono hv6.size)
  go_wp2_with fail
  refine hK.out _ _ (hv7) (fun hHeld => ?_)
  clear hK K
  try simp only [Act.put, List.setIfInBounds_toArray, List.set_cons_zero, List.set_cons_succ]
  refine wpAnyL_ready (rs := [6]) (by kernel_rfl) (by simp) ?_
  refine AllReadyL.late (o := { dst := none, op := Op.store 30 (Operand.tmp 4) (Operand.tmp 10), type := 0, pos := "ref.go:110", after := #[{ on := 5, ground := Ground.data }, { on := 5, ground := Ground.chain }, { on := 0, ground := Ground.phase }, { on := 1, ground := Ground.phase }, { on := 2, ground := Ground.phase }, { on := 3, ground := Ground.phase }, { on := 4, ground := Ground.phase }, { on := 5, ground := Ground.phase }], guard := none }) rfl (by rfl) (fun K hK => ?_) AllReadyL.nil
  rw [if_pos (by rfl)]
  refine wp_storeRow _ (.tmp 4) (.tmp 10) rfl (r1.below' hv7) rfl rfl (by rw [bvs_len, HS.out]; exact size16) (by rw [bvs_len, HS.out, List.length_replicate]) (bvs_all _) ?_
  intro w8 r8 g8 z8
  have hv8 := q1.trans (hv7.mono q1.size)
  clear z8
  refine hK.out _ _ ?_
  clear hK K
  try simp only [Act.put, List.setIfInBounds_toArray, List.set_cons_zero, List.set_cons_succ]
  refine wpAnyL_done (by kernel_rfl) ?_ _
  go_wp2_with fail
  exact bodyPost_ret (resultRow rfl _ _ r8 rfl Tryd.underlying30 (by rw [bvs_len, HS.out]; exact size16)) rfl ⟨rfl, hv8.grown g8 hv8.size (by intro j hj; have hj := Option.some.inj hj; have := HZ0.out; omega)⟩
set_option maxRecDepth 100000 in
set_option maxHeartbeats 1000000 in
theorem refRoot_none (A : Option Addr) (c : Nat) (w : World) (hT : RTab w) :
    Calls Tryd.prog 20 #[.slice A 0 c] w fun e w' => e = .returned (dv (Mk.of 1 [])) ∧ Below w.heap.size w w' := by
  have hl16 := Mk.short_len (Mk.input 1 [])
  have HL16 := Lib.hid hl16
  clear hl16
  go_enter Tryd.func20, Tryd.ntmps20
  go_wp2_with (first
    | (refine wpList_allocRow rfl _ rfl _ info16 ?_; intro w1 r1 b1 z1; have HZ1 := Lib.hid z1; clear z1)
    | (go_at_call 14; refine (refOf_any 1 none 0 0 [] rfl 0 w1 (Rd.nil_ _ _ _ _) (Nat.zero_le _) (by decide) (hT.below b1)).mono ?_; rintro e w2 ⟨rfl, b2⟩; have r2 := r1.below' b2)
    | (refine wpList_storeRow rfl _ (.tmp 2) (.tmp 7) rfl r2 rfl rfl (by rw [bvs_len]; exact HL16.out ▸ size16) (by rw [bvs_len, List.length_replicate]; exact HL16.out.symm) (bvs_all _) ?_; intro w5 r5 g5 z5))
  have hb2 : Below w.heap.size w w2 := b1.trans (b2.mono b1.size)
  exact bodyPost_ret (resultRow rfl _ _ r5 rfl Tryd.underlying30 (by rw [bvs_len]; exact HL16.out ▸ size16)) rfl ⟨rfl, hb2.grown g5 hb2.size (by intro k hk; have hk := Option.some.inj hk; omega)⟩
set_option maxRecDepth 100000 in
set_option maxHeartbeats 1000000 in
theorem refRoot_sole (A : Option Addr) (c : Nat) (d : List UInt8) (hd : d.length = 16) (B : Nat) (w : World) (hr : Rd w B 16 A 1 (bvs d)) (hB : B ≤ w.heap.size) (hc : 1 ≤ c) (hT : RTab w) :
    Calls Tryd.prog 20 #[.slice A 1 c] w fun e w' => e = .returned (dv (Mk.short (Mk.leaf d))) ∧ Below w.heap.size w w' := by
  have hl16 := Mk.short_len (Mk.leaf d)
  have HL16 := Lib.hid hl16
  obtain ⟨b, off, rfl, hbB, hcell⟩ := hr.2 (by omega)
  have hrg : w.rangeAt b off (bvs d) := fun j v hv => hcell j v hv
  have HD := Lib.hid hd
  have HLf := Lib.hid (fun (W : World) (h : Below w.heap.size w W) => refLeaf_any d HD.out W (hT.below h))
  clear hl16 hcell hd hr
  go_enter Tryd.func20, Tryd.ntmps20
  go_wp2_with (first
    | (refine wpList_allocRow rfl _ rfl _ info16 ?_; intro w1 r1 b1 z1; have HZ1 := Lib.hid z1; have rg1 : w1.rangeAt b off (bvs d) := fun j v hv => (b1.cell (p := ⟨b, off + j, none⟩) (show b < _ by omega)).trans (hrg j v hv); clear z1)
    | (refine wpList_load_mid rfl _ (.tmp 12) rfl b off rfl (bvs d) _ rg1 Tryd.underlying30 rfl (by rw [bvs_len, HD.out]; exact size16) ?_)
    | (go_at_call 47; refine (HLf.out _ b1).mono ?_; rintro e w2 ⟨rfl, b2⟩; have r2 := r1.below' b2)
    | (refine wpList_storeRow rfl _ (.tmp 2) (.tmp 14) rfl r2 rfl rfl (by rw [bvs_len]; exact HL16.out ▸ size16) (by rw [bvs_len, List.length_replicate]; exact HL16.out.symm) (bvs_all _) ?_; intro w5 r5 g5 z5))
  have hb2 : Below w.heap.size w w2 := b1.trans (b2.mono b1.size)
  exact bodyPost_ret (resultRow rfl _ _ r5 rfl Tryd.underlying30 (by rw [bvs_len]; exact HL16.out ▸ size16)) rfl ⟨rfl, hb2.grown g5 hb2.size (by intro k hk; have hk := Option.some.inj hk; omega)⟩
set_option maxRecDepth 100000 in
set_option maxHeartbeats 2000000 in
theorem refRoot_step (n c : Nat) (ad : Addr) (l : List (List UInt8)) (hl : l.length = n) (h2 : 2 ≤ n) (hn : n ≤ 1099511627776) (w : World) (hc : n ≤ c) (hcm : c ≤ maxLen) (hT : RTab w)
    (H1 : ∀ W, Below w.heap.size w W → Calls Tryd.prog 20 #[.slice (some ad) (Mk.split n) c] W fun e W' => e = .returned (dv (Mk.root (l.take (Mk.split n)))) ∧ Below W.heap.size W W')
    (H2 : ∀ W, Below w.heap.size w W → Calls Tryd.prog 20 #[.slice (some (ad.add (Mk.split n * 16))) (n - Mk.split n) (c - Mk.split n)] W fun e W' => e = .returned (dv (Mk.root (l.drop (Mk.split n)))) ∧ Below W.heap.size W W') :
    Calls Tryd.prog 20 #[.slice (some ad) n c] w fun e w' => e = .returned (dv (Mk.root l)) ∧ Below w.heap.size w w' := by
  unfold maxLen at hcm
  have hroot := Mk.root_more (l := l) (by omega)
  rw [hl] at hroot
  have hl16 := Mk.short_len (Mk.node (Mk.root (l.take (Mk.split n))) (Mk.root (l.drop (Mk.split n))))
  have hra := Mk.root_len (l.take (Mk.split n))
  have hrb := Mk.root_len (l.drop (Mk.split n))
  generalize Mk.root (l.take (Mk.split n)) = ra at *
  generalize Mk.root (l.drop (Mk.split n)) = rb at *
  have hs1 := Mk.split_pos n
  have hs2 := Mk.split_lt h2
  have hsp := refSplit_any n h2 (by omega)
  generalize Mk.split n = k at *
  have HSP := Lib.hid hsp
  have HR := Lib.hid hroot
  have HL16 := Lib.hid hl16
  have HRA := Lib.hid hra
  have HRB := Lib.hid hrb
  have HH1 := Lib.hid H1
  have HH2 := Lib.hid H2
  have hne0 : ((n : Int) == 0) = false := by simp; omega
  have hne1 : ((n : Int) == 1) = false := by simp; omega
  have hck : ¬ c = k := by omega
  have hkc : k ≤ c := by omega
  have hkn : k ≤ n := by omega
  have HNd := Lib.hid (fun (W : World) (h : Below w.heap.size w W) => refNode_any ra rb HRA.out HRB.out W (hT.below h))
  clear hsp hroot hl16 hra hrb H1 H2 hl
  go_enter Tryd.func20, Tryd.ntmps20
  go_wp2_with (first
    | (refine wpList_allocRow rfl _ rfl _ info16 ?_; intro w1 r1 b1 z1; clear z1)
    | (go_at_call 42; refine (HSP.out _).mono ?_; rintro e w' ⟨rfl, rfl⟩))
  have hv0 : Below w1.heap.size w1 w1.drew := (Below.refl _ _).drew
  refine wp_region_late (fun W => Below w1.heap.size w1 W) [9] (by kernel_rfl) (hv0) (fun hHeld => ?_)
  refine wpAnyL_take (i := 0) (oi := { dst := some 18, op := Op.move (Operand.tmp 0), type := 34, pos := "ref.go:130", after := #[], guard := none }) (v := ?v0_1) rfl (by kernel_rfl) (by kernel_rfl) (by kernel_rfl) (by kernel_rfl) (fun _ _ _ h => h) (Or.inl ⟨by rfl, ?h0_1⟩) (by assumption) ?r0_1
  case h0_1 =>
    intro W hSW
    try dsimp only at hSW
    go_simp
    try with_reducible rfl
  try simp only [Act.put, List.setIfInBounds_toArray, List.set_cons_zero, List.set_cons_succ]
  refine wpAnyL_take (i := 1) (oi := { dst := some 19, op := Op.move (Operand.tmp 3), type := 3, pos := "ref.go:130", after := #[], guard := none }) (v := ?v1_2) rfl (by kernel_rfl) (by kernel_rfl) (by kernel_rfl) (by kernel_rfl) (fun _ _ _ h => h) (Or.inl ⟨by rfl, ?h1_2⟩) (by assumption) ?r1_2
  case h1_2 =>
    intro W hSW
    try dsimp only at hSW
    go_simp
    try with_reducible rfl
  try simp only [Act.put, List.setIfInBounds_toArray, List.set_cons_zero, List.set_cons_succ]
  refine wpAnyL_take (i := 2) (oi := { dst := some 20, op := Op.slice 34 (Operand.tmp 18) none (some (Operand.tmp 19)) none, type := 34, pos := "ref.go:130", after := #[{ on := 0, ground := Ground.data }, { on := 1, ground := Ground.data }], guard := none }) (v := ?v2_3) rfl (by kernel_rfl) (by kernel_rfl) (by kernel_rfl) (by kernel_rfl) (fun _ _ _ h => h) (Or.inl ⟨by rfl, ?h2_3⟩) (by assumption) ?r2_3
  case h2_3 =>
    intro W hSW
    try dsimp only at hSW
    go_simp
    try with_reducible rfl
  try simp only [Act.put, List.setIfInBounds_toArray, List.set_cons_zero, List.set_cons_succ]
  refine wpAnyL_take (i := 4) (oi := { dst := some 22, op := Op.move (Operand.tmp 0), type := 34, pos := "ref.go:130", after := #[], guard := none }) (v := ?v4_4) rfl (by kernel_rfl) (by kernel_rfl) (by kernel_rfl) (by kernel_rfl) (fun _ _ _ h => h) (Or.inl ⟨by rfl, ?h4_4⟩) (by assumption) ?r4_4
  case h4_4 =>
    intro W hSW
    try dsimp only at hSW
    go_simp
    try with_reducible rfl
  try simp only [Act.put, List.setIfInBounds_toArray, List.set_cons_zero, List.set_cons_succ]
  refine wpAnyL_take (i := 5) (oi := { dst := some 23, op := Op.move (Operand.tmp 3), type := 3, pos := "ref.go:130", after := #[], guard := none }) (v := ?v5_5) rfl (by kernel_rfl) (by kernel_rfl) (by kernel_rfl) (by kernel_rfl) (fun _ _ _ h => h) (Or.inl ⟨by rfl, ?h5_5⟩) (by assumption) ?r5_5
  case h5_5 =>
    intro W hSW
    try dsimp only at hSW
    go_simp
    try with_reducible rfl
  try simp only [Act.put, List.setIfInBounds_toArray, List.set_cons_zero, List.set_cons_succ]
  refine wpAnyL_take (i := 6) (oi := { dst := some 24, op := Op.slice 34 (Operand.tmp 22) (some (Operand.tmp 23)) none none, type := 34, pos := "ref.go:130", after := #[{ on := 4, ground := Ground.data }, { on := 5, ground := Ground.data }], guard := none }) (v := ?v6_6) rfl (by kernel_rfl) (by kernel_rfl) (by kernel_rfl) (by kernel_rfl) (fun _ _ _ h => h) (Or.inl ⟨by rfl, ?h6_6⟩) (by assumption) ?r6_6
  case h6_6 =>
    intro W hSW
    try dsimp only at hSW
    go_simp
    try with_reducible rfl
  try simp only [Act.put, List.setIfInBounds_toArray, List.set_cons_zero, List.set_cons_succ]
  refine wpAnyL_ready (rs := [3]) (by kernel_rfl) (by simp) ?_
  refine AllReadyL.cons (o := { dst := some 21, op := Op.call { callee := Callee.value (Operand.func 20), args := #[Operand.tmp 20], argTypes := #[34] }, type := 30, pos := "ref.go:130", after := #[{ on := 2, ground := Ground.data }], guard := none }) rfl (fun K hK => ?_) AllReadyL.nil
  go_simp
  refine (HH1.out _ (b1.trans (hv0.mono b1.size))).mono ?_
  rintro e w4 ⟨rfl, b4⟩
  have hv4 : Below w1.heap.size w1 w4 := hv0.trans (b4.mono hv0.size)
  go_wp2_with fail
  refine hK.out _ _ (hv4) (fun hHeld => ?_)
  clear hK K
  try simp only [Act.put, List.setIfInBounds_toArray, List.set_cons_zero, List.set_cons_succ]
  refine wpAnyL_ready (rs := [7]) (by kernel_rfl) (by simp) ?_
  refine AllReadyL.cons (o := { dst := some 25, op := Op.call { callee := Callee.value (Operand.func 20), args := #[Operand.tmp 24], argTypes := #[34] }, type := 30, pos := "ref.go:130", after := #[{ on := 6, ground := Ground.data }, { on := 3, ground := Ground.chain }], guard := none }) rfl (fun K hK => ?_) AllReadyL.nil
  go_simp
  refine (HH2.out _ (b1.trans (hv4.mono b1.size))).mono ?_
  rintro e w5 ⟨rfl, b5⟩
  have hv5 : Below w1.heap.size w1 w5 := hv4.trans (b5.mono hv4.size)
  go_wp2_with fail
  refine hK.out _ _ (hv5) (fun hHeld => ?_)
  clear hK K
  try simp only [Act.put, List.setIfInBounds_toArray, List.set_cons_zero, List.set_cons_succ]
  refine wpAnyL_ready (rs := [8]) (by kernel_rfl) (by simp) ?_
  refine AllReadyL.cons (o := { dst := some 26, op := Op.call { callee := Callee.value (Operand.func 48), args := #[Operand.tmp 21, Operand.tmp 25], argTypes := #[30, 30] }, type := 30, pos := "ref.go:130", after := #[{ on := 3, ground := Ground.data }, { on := 7, ground := Ground.data }, { on := 7, ground := Ground.chain }], guard := none }) rfl (fun K hK => ?_) AllReadyL.nil
  go_simp
  refine (HNd.out _ (b1.trans (hv5.mono b1.size))).mono ?_
  rintro e w6 ⟨rfl, b6⟩
  have hv6 : Below w1.heap.size w1 w6 := hv5.trans (b6.mono hv5.size)
  go_wp2_with fail
  refine hK.out _ _ (hv6) (fun hHeld => ?_)
  clear hK K
  try simp only [Act.put, List.setIfInBounds_toArray, List.set_cons_zero, List.set_cons_succ]
  refine wpAnyL_ready (rs := [9]) (by kernel_rfl) (by simp) ?_
  refine AllReadyL.late (o := { dst := none, op := Op.store 30 (Operand.tmp 2) (Operand.tmp 26), type := 0, pos := "ref.go:130", after := #[{ on := 8, ground := Ground.data }, { on := 8, ground := Ground.chain }, { on := 0, ground := Ground.phase }, { on := 1, ground := Ground.phase }, { on := 2, ground := Ground.phase }, { on := 3, ground := Ground.phase }, { on := 4, ground := Ground.phase }, { on := 5, ground := Ground.phase }, { on := 6, ground := Ground.phase }, { on := 7, ground := Ground.phase }, { on := 8, ground := Ground.phase }], guard := none }) rfl (by rfl) (fun K hK => ?_) AllReadyL.nil
  rw [if_pos (by rfl)]
  refine wp_storeRow _ (.tmp 2) (.tmp 26) rfl (r1.below' hv6) rfl rfl (by rw [bvs_len, HL16.out]; exact size16) (by rw [bvs_len, HL16.out, List.length_replicate]) (bvs_all _) ?_
  intro w7 r7 g7 z7
  have hv7 := b1.trans (hv6.mono b1.size)
  clear z7
  refine hK.out _ _ ?_
  clear hK K
  try simp only [Act.put, List.setIfInBounds_toArray, List.set_cons_zero, List.set_cons_succ]
  refine wpAnyL_done (by kernel_rfl) ?_ _
  go_wp2_with fail
  exact bodyPost_ret (resultRow rfl _ _ r7 rfl Tryd.underlying30 (by rw [bvs_len, HL16.out]; exact size16)) rfl ⟨by rw [HR.out], hv7.grown g7 hv7.size (by intro j hj; have hj := Option.some.inj hj; omega)⟩
theorem refRoot_any : ∀ (n c : Nat) (A : Option Addr) (l : List (List UInt8)), l.length = n → n ≤ 1099511627776 → ∀ (B : Nat) (w : World), Rd w B 16 A n (dvs l) → D16 l → B ≤ w.heap.size → n ≤ c → c ≤ maxLen → RTab w →
    Calls Tryd.prog 20 #[.slice A n c] w fun e w' => e = .returned (dv (Mk.root l)) ∧ Below w.heap.size w w' := by
  intro n
  induction n using Nat.strongRecOn with
  | ind n ih =>
    intro c A l hl hn B w hr hd hB hc hcm hT
    by_cases h0 : n = 0
    · subst h0
      rw [Mk.root_zero hl]
      exact refRoot_none A c w hT
    · by_cases h1 : n = 1
      · subst h1
        rw [Mk.root_one hl]
        match l, hl with
        | [d], _ => exact refRoot_sole A c d (hd d (by simp)) B w (by simpa [dvs] using hr) hB hc hT
      · obtain ⟨b, off, rfl, _, _⟩ := hr.2 (by omega)
        have hs1 := Mk.split_pos n
        have hs2 := Mk.split_lt (n := n) (by omega)
        refine refRoot_step n c ⟨b, off, none⟩ l hl (by omega) hn w hc hcm hT (fun W hW => ?_) (fun W hW => ?_)
        · exact ih (Mk.split n) hs2 c _ (l.take (Mk.split n)) (by rw [List.length_take, hl]; omega) (by omega) B W ((hr.first hd (by omega)).below (hW.mono hB)) (hd.take _) (Nat.le_trans hB hW.size) (by omega) hcm (hT.below hW)
        · exact ih (n - Mk.split n) (by omega) (c - Mk.split n) _ (l.drop (Mk.split n)) (by rw [List.length_drop, hl]) (by omega) B W ((hr.rest hd hs2).below (hW.mono hB)) (hd.drop _) (Nat.le_trans hB hW.size) (by omega) (by omega) (hT.below hW)
end Go.Proofs.YtfnbcchmembomaaDoor
