/- Walks of layer 37's comparison of places and of layer 36's order by loss. No condition. -/
import Derived.Test.YtfihdenapjmaeaaSch1
import Derived.Test.YtfihdenapjmaeaaHeld
namespace Go.Proofs.Ytfihdenapjmaeaa
set_option linter.unusedVariables false
set_option linter.unusedSimpArgs false
open Go.RowKit
theorem alloc_size1 (w : World) (o : Obj) : (w.alloc o).heap.size = w.heap.size + 1 := by simp
theorem compare_b (x y : Int) (w : World) : Calls Try.prog 45 #[.int .i64 x, .int .i64 y] w fun e w' => e = .returned (.int .i64 (cmpI x y)) ∧ Below w.heap.size w w' :=
  (compare_any x y w).mono fun _ _ ⟨h1, h2⟩ => ⟨h1, by rw [h2]; exact Below.refl _ _⟩
theorem or_b (A : Option Addr) (c n : Nat) (l : List Int) (hn : l.length = n) (hl : n ≤ 1000) (w : World) (B : Nat) (hr : Rd w B 1 A n (ivs l)) (q : Int) (hq : orI l = q) : Calls Try.prog 44 #[.slice A n c] w fun e w' => e = .returned (.int .i64 q) ∧ Below w.heap.size w w' := by
  subst hn hq
  exact (or_any A c l hl w B hr).mono fun _ _ ⟨h1, h2⟩ => ⟨h1, by rw [h2]; exact Below.refl _ _⟩
set_option maxRecDepth 100000 in
set_option maxHeartbeats 800000 in
theorem places_any (a b : Sc.Tk) (w : World) : Calls Try.prog 41 #[tv a, tv b] w fun e w' => e = .returned (.int .i64 (orI [cmpI a.row b.row, cmpI a.grp b.grp])) ∧ Below w.heap.size w w' := by
  have h2 := rows2 w 58 58 (tcs a) (tcs b)
  have hbw : Below w.heap.size w ((w.alloc (.cells (tcs a).toArray 58)).alloc (.cells (tcs b).toArray 58)) := ((Below.refl _ w).alloc (Nat.le_refl _) _).alloc (by rw [alloc_size1]; omega) _
  obtain ⟨kind, row, grp, left, bad⟩ := a
  obtain ⟨kind', row', grp', left', bad'⟩ := b
  have HZ : Hid (w.heap.size + 2 = ((w.alloc (.cells (tcs ⟨kind, row, grp, left, bad⟩).toArray 58)).alloc (.cells (tcs ⟨kind', row', grp', left', bad'⟩).toArray 58)).heap.size) := Lib.hid (by rw [alloc_size1, alloc_size1])
  obtain ⟨w0, hw0⟩ : ∃ w0, ((w.alloc (.cells (tcs ⟨kind, row, grp, left, bad⟩).toArray 58)).alloc (.cells (tcs ⟨kind', row', grp', left', bad'⟩).toArray 58)) = w0 := ⟨_, rfl⟩
  rw [hw0] at h2 hbw HZ
  have A1 := Lib.hid (show w0.cell? ⟨w.heap.size, 1, none⟩ = some (.int .i64 row) from h2.1.cell 1); have A2 := Lib.hid (show w0.cell? ⟨w.heap.size, 2, none⟩ = some (.int .i64 grp) from h2.1.cell 2)
  have B1 := Lib.hid (show w0.cell? ⟨w.heap.size + 1, 1, none⟩ = some (.int .i64 row') from h2.2.cell 1); have B2 := Lib.hid (show w0.cell? ⟨w.heap.size + 1, 2, none⟩ = some (.int .i64 grp') from h2.2.cell 2)
  simp only [tcs] at hw0
  have HW0 := Lib.hid hw0
  have HC := Lib.hid (fun W => compare_b row row' W)
  have HD := Lib.hid (fun W => compare_b grp grp' W)
  show Calls _ _ _ _ fun e w' => e = .returned (.int .i64 (orI [cmpI row row', cmpI grp grp'])) ∧ Below w.heap.size w w'
  generalize cmpI row row' = x at *
  generalize cmpI grp grp' = y at *
  obtain ⟨q, hq⟩ : ∃ q, orI [x, y] = q := ⟨_, rfl⟩
  rw [hq]
  have HQ := Lib.hid hq
  clear h2 hw0 hq
  go_enter Try.func41, Try.ntmps41
  go_wp2_with fail
  rw [HW0.out]
  have hv0 : Below w0.heap.size w0 w0.drew := (Below.refl _ _).drew
  refine wp_region_held_drew (S := fun W => Below w0.heap.size w0 W) (by kernel_rfl) (hv0) (fun hHeld => ?_)
  refine wpAnyH_take (i := 0) (oi := { dst := some 5, op := Op.fieldAddr 58 (Operand.tmp 2) 1, type := 0, pos := "schedule.go:72", after := #[], guard := none }) (v := ?v0_1) rfl (by kernel_rfl) (by kernel_rfl) (by kernel_rfl) (fun _ _ _ h => h) (Or.inl ⟨by rfl, ?h0_1⟩) (by assumption) ?r0_1
  case h0_1 =>
    intro W hSW
    try dsimp only at hSW
    go_simp
    try with_reducible rfl
  try simp only [Act.put, List.setIfInBounds_toArray, List.set_cons_zero, List.set_cons_succ]
  refine wpAnyH_take (i := 1) (oi := { dst := some 6, op := Op.fieldAddr 47 (Operand.tmp 5) 0, type := 0, pos := "schedule.go:72", after := #[{ on := 0, ground := Ground.data }], guard := none }) (v := ?v1_2) rfl (by kernel_rfl) (by kernel_rfl) (by kernel_rfl) (fun _ _ _ h => h) (Or.inl ⟨by rfl, ?h1_2⟩) (by assumption) ?r1_2
  case h1_2 =>
    intro W hSW
    try dsimp only at hSW
    go_simp
    try with_reducible rfl
  try simp only [Act.put, List.setIfInBounds_toArray, List.set_cons_zero, List.set_cons_succ]
  refine wpAnyH_take (i := 2) (oi := { dst := some 7, op := Op.load 3 (Operand.tmp 6), type := 3, pos := "schedule.go:72", after := #[{ on := 1, ground := Ground.data }], guard := none }) (v := ?v2_3) rfl (by kernel_rfl) (by kernel_rfl) (by kernel_rfl) (fun _ _ _ h => h) (Or.inl ⟨by rfl, ?h2_3⟩) (by assumption) ?r2_3
  case h2_3 =>
    intro W hSW
    try dsimp only at hSW
    have hcc := (hSW.cell (p := ⟨w.heap.size, 1, none⟩) (show w.heap.size < w0.heap.size by have := HZ.out; omega)).trans A1.out
    go_simp
    try with_reducible rfl
  try simp only [Act.put, List.setIfInBounds_toArray, List.set_cons_zero, List.set_cons_succ]
  refine wpAnyH_take (i := 3) (oi := { dst := some 8, op := Op.fieldAddr 58 (Operand.tmp 3) 1, type := 0, pos := "schedule.go:72", after := #[], guard := none }) (v := ?v3_4) rfl (by kernel_rfl) (by kernel_rfl) (by kernel_rfl) (fun _ _ _ h => h) (Or.inl ⟨by rfl, ?h3_4⟩) (by assumption) ?r3_4
  case h3_4 =>
    intro W hSW
    try dsimp only at hSW
    go_simp
    try with_reducible rfl
  try simp only [Act.put, List.setIfInBounds_toArray, List.set_cons_zero, List.set_cons_succ]
  refine wpAnyH_take (i := 4) (oi := { dst := some 9, op := Op.fieldAddr 47 (Operand.tmp 8) 0, type := 0, pos := "schedule.go:72", after := #[{ on := 3, ground := Ground.data }], guard := none }) (v := ?v4_5) rfl (by kernel_rfl) (by kernel_rfl) (by kernel_rfl) (fun _ _ _ h => h) (Or.inl ⟨by rfl, ?h4_5⟩) (by assumption) ?r4_5
  case h4_5 =>
    intro W hSW
    try dsimp only at hSW
    go_simp
    try with_reducible rfl
  try simp only [Act.put, List.setIfInBounds_toArray, List.set_cons_zero, List.set_cons_succ]
  refine wpAnyH_take (i := 5) (oi := { dst := some 10, op := Op.load 3 (Operand.tmp 9), type := 3, pos := "schedule.go:72", after := #[{ on := 4, ground := Ground.data }], guard := none }) (v := ?v5_6) rfl (by kernel_rfl) (by kernel_rfl) (by kernel_rfl) (fun _ _ _ h => h) (Or.inl ⟨by rfl, ?h5_6⟩) (by assumption) ?r5_6
  case h5_6 =>
    intro W hSW
    try dsimp only at hSW
    have hcc := (hSW.cell (p := ⟨w.heap.size + 1, 1, none⟩) (show w.heap.size + 1 < w0.heap.size by have := HZ.out; omega)).trans B1.out
    go_simp
    try with_reducible rfl
  try simp only [Act.put, List.setIfInBounds_toArray, List.set_cons_zero, List.set_cons_succ]
  refine wpAnyH_take (i := 7) (oi := { dst := some 12, op := Op.fieldAddr 58 (Operand.tmp 2) 1, type := 0, pos := "schedule.go:72", after := #[], guard := none }) (v := ?v7_7) rfl (by kernel_rfl) (by kernel_rfl) (by kernel_rfl) (fun _ _ _ h => h) (Or.inl ⟨by rfl, ?h7_7⟩) (by assumption) ?r7_7
  case h7_7 =>
    intro W hSW
    try dsimp only at hSW
    go_simp
    try with_reducible rfl
  try simp only [Act.put, List.setIfInBounds_toArray, List.set_cons_zero, List.set_cons_succ]
  refine wpAnyH_take (i := 8) (oi := { dst := some 13, op := Op.fieldAddr 47 (Operand.tmp 12) 1, type := 0, pos := "schedule.go:72", after := #[{ on := 7, ground := Ground.data }], guard := none }) (v := ?v8_8) rfl (by kernel_rfl) (by kernel_rfl) (by kernel_rfl) (fun _ _ _ h => h) (Or.inl ⟨by rfl, ?h8_8⟩) (by assumption) ?r8_8
  case h8_8 =>
    intro W hSW
    try dsimp only at hSW
    go_simp
    try with_reducible rfl
  try simp only [Act.put, List.setIfInBounds_toArray, List.set_cons_zero, List.set_cons_succ]
  refine wpAnyH_take (i := 9) (oi := { dst := some 14, op := Op.load 3 (Operand.tmp 13), type := 3, pos := "schedule.go:72", after := #[{ on := 8, ground := Ground.data }], guard := none }) (v := ?v9_9) rfl (by kernel_rfl) (by kernel_rfl) (by kernel_rfl) (fun _ _ _ h => h) (Or.inl ⟨by rfl, ?h9_9⟩) (by assumption) ?r9_9
  case h9_9 =>
    intro W hSW
    try dsimp only at hSW
    have hcc := (hSW.cell (p := ⟨w.heap.size, 2, none⟩) (show w.heap.size < w0.heap.size by have := HZ.out; omega)).trans A2.out
    go_simp
    try with_reducible rfl
  try simp only [Act.put, List.setIfInBounds_toArray, List.set_cons_zero, List.set_cons_succ]
  refine wpAnyH_take (i := 10) (oi := { dst := some 15, op := Op.fieldAddr 58 (Operand.tmp 3) 1, type := 0, pos := "schedule.go:72", after := #[], guard := none }) (v := ?v10_10) rfl (by kernel_rfl) (by kernel_rfl) (by kernel_rfl) (fun _ _ _ h => h) (Or.inl ⟨by rfl, ?h10_10⟩) (by assumption) ?r10_10
  case h10_10 =>
    intro W hSW
    try dsimp only at hSW
    go_simp
    try with_reducible rfl
  try simp only [Act.put, List.setIfInBounds_toArray, List.set_cons_zero, List.set_cons_succ]
  refine wpAnyH_take (i := 11) (oi := { dst := some 16, op := Op.fieldAddr 47 (Operand.tmp 15) 1, type := 0, pos := "schedule.go:72", after := #[{ on := 10, ground := Ground.data }], guard := none }) (v := ?v11_11) rfl (by kernel_rfl) (by kernel_rfl) (by kernel_rfl) (fun _ _ _ h => h) (Or.inl ⟨by rfl, ?h11_11⟩) (by assumption) ?r11_11
  case h11_11 =>
    intro W hSW
    try dsimp only at hSW
    go_simp
    try with_reducible rfl
  try simp only [Act.put, List.setIfInBounds_toArray, List.set_cons_zero, List.set_cons_succ]
  refine wpAnyH_take (i := 12) (oi := { dst := some 17, op := Op.load 3 (Operand.tmp 16), type := 3, pos := "schedule.go:72", after := #[{ on := 11, ground := Ground.data }], guard := none }) (v := ?v12_12) rfl (by kernel_rfl) (by kernel_rfl) (by kernel_rfl) (fun _ _ _ h => h) (Or.inl ⟨by rfl, ?h12_12⟩) (by assumption) ?r12_12
  case h12_12 =>
    intro W hSW
    try dsimp only at hSW
    have hcc := (hSW.cell (p := ⟨w.heap.size + 1, 2, none⟩) (show w.heap.size + 1 < w0.heap.size by have := HZ.out; omega)).trans B2.out
    go_simp
    try with_reducible rfl
  try simp only [Act.put, List.setIfInBounds_toArray, List.set_cons_zero, List.set_cons_succ]
  refine wpAnyH_ready (rs := [6]) (by kernel_rfl) (by simp) ?_
  refine AllReadyH.cons (o := { dst := some 11, op := Op.call { callee := Callee.value (Operand.func 45), args := #[Operand.tmp 7, Operand.tmp 10], argTypes := #[3, 3] }, type := 3, pos := "schedule.go:72", after := #[{ on := 2, ground := Ground.data }, { on := 5, ground := Ground.data }], guard := none }) rfl (fun K hK => ?_) AllReadyH.nil
  go_simp
  refine (HC.out _).mono ?_
  rintro e w1 ⟨rfl, b1⟩
  have hv1 : Below w0.heap.size w0 w1 := hv0.trans (b1.mono hv0.size)
  go_wp2_with fail
  refine hK.out _ _ (hv1) (fun hHeld => ?_)
  clear hK K
  try simp only [Act.put, List.setIfInBounds_toArray, List.set_cons_zero, List.set_cons_succ]
  refine wpAnyH_ready (rs := [13]) (by kernel_rfl) (by simp) ?_
  refine AllReadyH.cons (o := { dst := some 18, op := Op.call { callee := Callee.value (Operand.func 45), args := #[Operand.tmp 14, Operand.tmp 17], argTypes := #[3, 3] }, type := 3, pos := "schedule.go:72", after := #[{ on := 9, ground := Ground.data }, { on := 12, ground := Ground.data }, { on := 6, ground := Ground.chain }], guard := none }) rfl (fun K hK => ?_) AllReadyH.nil
  go_simp
  refine (HD.out _).mono ?_
  rintro e w2 ⟨rfl, b2⟩
  have hv2 : Below w0.heap.size w0 w2 := hv1.trans (b2.mono hv1.size)
  go_wp2_with fail
  refine hK.out _ _ (hv2) (fun hHeld => ?_)
  clear hK K
  try simp only [Act.put, List.setIfInBounds_toArray, List.set_cons_zero, List.set_cons_succ]
  refine wpAnyH_ready (rs := [14]) (by kernel_rfl) (by simp) ?_
  refine AllReadyH.cons (o := { dst := some 19, op := Op.buildSlice 22 2 #[(0, Operand.tmp 11), (1, Operand.tmp 18)], type := 22, pos := "schedule.go:72", after := #[{ on := 6, ground := Ground.data }, { on := 13, ground := Ground.data }], guard := none }) rfl (fun K hK => ?_) AllReadyH.nil
  go_simp
  obtain ⟨w3, hw3⟩ : ∃ w', w2.alloc (.cells #[.int .i64 x, .int .i64 y] 3) = w' := ⟨_, rfl⟩
  rw [hw3]
  have rdS : Rd w3 w3.heap.size 1 (some ⟨w2.heap.size, 0, none⟩) 2 (ivs [x, y]) := by rw [← hw3, alloc_size1]; exact Rd.new w2 (ivs [x, y]) 3 2 rfl
  have bb3 : Below w2.heap.size w2 w3 := by rw [← hw3]; exact (Below.refl _ _).alloc (Nat.le_refl _) _
  have hv3 : Below w0.heap.size w0 w3 := hv2.trans (bb3.mono hv2.size)
  clear hw3
  refine hK.out _ _ (hv3) (fun hHeld => ?_)
  clear hK K
  try simp only [Act.put, List.setIfInBounds_toArray, List.set_cons_zero, List.set_cons_succ]
  refine wpAnyH_ready (rs := [15]) (by kernel_rfl) (by simp) ?_
  refine AllReadyH.cons (o := { dst := some 20, op := Op.call { callee := Callee.value (Operand.func 44), args := #[Operand.tmp 19], argTypes := #[22] }, type := 3, pos := "schedule.go:72", after := #[{ on := 14, ground := Ground.data }, { on := 13, ground := Ground.chain }], guard := none }) rfl (fun K hK => ?_) AllReadyH.nil
  go_simp
  refine (or_b _ 2 2 [x, y] rfl (by omega) _ _ rdS q HQ.out).mono ?_
  rintro e w4 ⟨rfl, b4⟩
  have hv4 : Below w0.heap.size w0 w4 := hv3.trans (b4.mono hv3.size)
  go_wp2_with fail
  refine hK.out _ _ (hv4) (fun hHeld => ?_)
  clear hK K
  try simp only [Act.put, List.setIfInBounds_toArray, List.set_cons_zero, List.set_cons_succ]
  refine wpAnyH_take (i := 16) (oi := { dst := some 4, op := Op.assign (Operand.tmp 20), type := 3, pos := "schedule.go:72", after := #[{ on := 15, ground := Ground.data }, { on := 15, ground := Ground.chain }, { on := 0, ground := Ground.phase }, { on := 1, ground := Ground.phase }, { on := 2, ground := Ground.phase }, { on := 3, ground := Ground.phase }, { on := 4, ground := Ground.phase }, { on := 5, ground := Ground.phase }, { on := 6, ground := Ground.phase }, { on := 7, ground := Ground.phase }, { on := 8, ground := Ground.phase }, { on := 9, ground := Ground.phase }, { on := 10, ground := Ground.phase }, { on := 11, ground := Ground.phase }, { on := 12, ground := Ground.phase }, { on := 13, ground := Ground.phase }, { on := 14, ground := Ground.phase }, { on := 15, ground := Ground.phase }], guard := none }) (v := ?v16_13) rfl (by kernel_rfl) (by kernel_rfl) (by kernel_rfl) (fun _ _ _ h => h) (Or.inl ⟨by rfl, ?h16_13⟩) (by assumption) ?r16_13
  case h16_13 =>
    intro W hSW
    try dsimp only at hSW
    go_simp
    try with_reducible rfl
  try simp only [Act.put, List.setIfInBounds_toArray, List.set_cons_zero, List.set_cons_succ]
  refine wpAnyH_done (by kernel_rfl) ?_ _
  go_wp2_with fail
  go_ret
  exact ⟨rfl, hbw.trans (hv4.mono hbw.size)⟩

/-- a stripe's health as its cells: row, group, further losses, units that are not good -/
def hcs (t : Sc.Tk) : List Value := [.int .i64 t.row, .int .i64 t.grp, .int .i64 t.left, .int .i64 t.bad]
abbrev hv (t : Sc.Tk) : Value := .agg #[.int .i64 t.row, .int .i64 t.grp, .int .i64 t.left, .int .i64 t.bad]
def lostI (t : Sc.Tk) : Int := if t.left < 0 then 1 else 0
theorem lost_any (t : Sc.Tk) (w : World) : Calls Try.prog 55 #[hv t] w fun e w' => e = .returned (.int .i64 (lostI t)) ∧ Below w.heap.size w w' := by
  obtain ⟨kind, row, grp, left, bad⟩ := t
  have HL := Lib.hid (show lostI ⟨kind, row, grp, left, bad⟩ = if left < 0 then 1 else 0 from rfl)
  generalize lostI ⟨kind, row, grp, left, bad⟩ = q at *
  have hb := (Below.refl w.heap.size w).alloc (Nat.le_refl _) (.cells #[.int .i64 row, .int .i64 grp, .int .i64 left, .int .i64 bad] 78)
  by_cases h : left < 0
  · go_enter Try.func55, Try.ntmps55
    go_wp2
    go_ret
    exact ⟨ret_int (by rw [HL.out, if_pos h]), hb⟩
  · go_enter Try.func55, Try.ntmps55
    go_wp2
    go_ret
    exact ⟨ret_int (by rw [HL.out, if_neg (by omega)]), hb⟩
/-- the order by loss -/
def lossI (a b : Sc.Tk) : Int := orI [cmpI (lostI a) (lostI b), cmpI a.left b.left, cmpI b.bad a.bad, cmpI a.row b.row, cmpI a.grp b.grp]
set_option maxRecDepth 100000 in
set_option maxHeartbeats 1600000 in
theorem loss_any (a b : Sc.Tk) (bl : Nat) (w : World) (hbl : w.cell? ⟨bl, 0, none⟩ = some (.func (.func 55) #[] #[])) : Calls Try.prog 56 #[hv a, hv b, .pointer (some ⟨bl, 0, none⟩)] w fun e w' => e = .returned (.int .i64 (lossI a b)) ∧ Below w.heap.size w w' := by
  have hbl2 : bl < w.heap.size := by
    rcases Nat.lt_or_ge bl w.heap.size with h | h
    · exact h
    · exfalso
      have hn : w.heap[bl]? = none := Array.getElem?_eq_none h
      simp [World.cell?, hn] at hbl
  have h2 := rows2 w 78 78 (hcs a) (hcs b)
  have hbw : Below w.heap.size w ((w.alloc (.cells (hcs a).toArray 78)).alloc (.cells (hcs b).toArray 78)) := ((Below.refl _ w).alloc (Nat.le_refl _) _).alloc (by rw [alloc_size1]; omega) _
  have HLA := Lib.hid (fun W => lost_any a W)
  have HLB := Lib.hid (fun W => lost_any b W)
  obtain ⟨q, hq⟩ : ∃ q, lossI a b = q := ⟨_, rfl⟩
  rw [hq]
  unfold lossI at hq
  generalize lostI a = la at *
  generalize lostI b = lb at *
  obtain ⟨kind, row, grp, left, bad⟩ := a
  obtain ⟨kind', row', grp', left', bad'⟩ := b
  have HZ : Hid (w.heap.size + 2 = ((w.alloc (.cells (hcs ⟨kind, row, grp, left, bad⟩).toArray 78)).alloc (.cells (hcs ⟨kind', row', grp', left', bad'⟩).toArray 78)).heap.size) := Lib.hid (by rw [alloc_size1, alloc_size1])
  obtain ⟨w0, hw0⟩ : ∃ w0, ((w.alloc (.cells (hcs ⟨kind, row, grp, left, bad⟩).toArray 78)).alloc (.cells (hcs ⟨kind', row', grp', left', bad'⟩).toArray 78)) = w0 := ⟨_, rfl⟩
  rw [hw0] at h2 hbw HZ
  have CL := Lib.hid ((hbw.cell (p := ⟨bl, 0, none⟩) hbl2).trans hbl)
  have HB2 := Lib.hid hbl2
  have RA := h2.1
  have RB := h2.2
  have A0 := Lib.hid (show w0.cell? ⟨w.heap.size, 0, none⟩ = some (.int .i64 row) from RA.cell 0)
  have B0 := Lib.hid (show w0.cell? ⟨w.heap.size + 1, 0, none⟩ = some (.int .i64 row') from RB.cell 0)
  have A1 := Lib.hid (show w0.cell? ⟨w.heap.size, 1, none⟩ = some (.int .i64 grp) from RA.cell 1)
  have B1 := Lib.hid (show w0.cell? ⟨w.heap.size + 1, 1, none⟩ = some (.int .i64 grp') from RB.cell 1)
  have A2 := Lib.hid (show w0.cell? ⟨w.heap.size, 2, none⟩ = some (.int .i64 left) from RA.cell 2)
  have B2 := Lib.hid (show w0.cell? ⟨w.heap.size + 1, 2, none⟩ = some (.int .i64 left') from RB.cell 2)
  have A3 := Lib.hid (show w0.cell? ⟨w.heap.size, 3, none⟩ = some (.int .i64 bad) from RA.cell 3)
  have B3 := Lib.hid (show w0.cell? ⟨w.heap.size + 1, 3, none⟩ = some (.int .i64 bad') from RB.cell 3)
  simp only [hcs] at hw0
  have HW0 := Lib.hid hw0
  simp only [] at hq
  have H1 := Lib.hid (fun W => compare_b la lb W)
  have H2 := Lib.hid (fun W => compare_b left left' W)
  have H3 := Lib.hid (fun W => compare_b bad' bad W)
  have H4 := Lib.hid (fun W => compare_b row row' W)
  have H5 := Lib.hid (fun W => compare_b grp grp' W)
  generalize cmpI la lb = x1 at *
  generalize cmpI left left' = x2 at *
  generalize cmpI bad' bad = x3 at *
  generalize cmpI row row' = x4 at *
  generalize cmpI grp grp' = x5 at *
  have HQ := Lib.hid hq
  clear h2 hw0 hq hbl hbl2 RA RB
  go_enter Try.func56, Try.ntmps56
  go_wp2_with fail
  rw [HW0.out]
  have hv0 : Below w0.heap.size w0 w0.drew := (Below.refl _ _).drew
  refine wp_region_held_drew (S := fun W => Below w0.heap.size w0 W) (by kernel_rfl) (hv0) (fun hHeld => ?_)
  refine wpAnyH_take (i := 0) (oi := { dst := some 6, op := Op.load 93 (Operand.tmp 2), type := 93, pos := "health.go:43", after := #[], guard := none }) (v := ?v0_1) rfl (by kernel_rfl) (by kernel_rfl) (by kernel_rfl) (fun _ _ _ h => h) (Or.inl ⟨by rfl, ?h0_1⟩) (by assumption) ?r0_1
  case h0_1 =>
    intro W hSW
    try dsimp only at hSW
    have hcc := (hSW.cell (p := ⟨bl, 0, none⟩) (show bl < w0.heap.size by have := HZ.out; have := HB2.out; omega)).trans CL.out
    go_simp
    try with_reducible rfl
  try simp only [Act.put, List.setIfInBounds_toArray, List.set_cons_zero, List.set_cons_succ]
  refine wpAnyH_take (i := 1) (oi := { dst := some 7, op := Op.load 78 (Operand.tmp 3), type := 78, pos := "health.go:43", after := #[], guard := none }) (v := ?v1_2) rfl (by kernel_rfl) (by kernel_rfl) (by kernel_rfl) (fun _ _ _ h => h) (Or.inl ⟨by rfl, ?h1_2⟩) (by assumption) ?r1_2
  case h1_2 =>
    intro W hSW
    try dsimp only at hSW
    have hc0 := (hSW.cell (p := ⟨w.heap.size, 0, none⟩) (show w.heap.size < w0.heap.size by have := HZ.out; omega)).trans A0.out
    have hc1 := (hSW.cell (p := ⟨w.heap.size, 1, none⟩) (show w.heap.size < w0.heap.size by have := HZ.out; omega)).trans A1.out
    have hc2 := (hSW.cell (p := ⟨w.heap.size, 2, none⟩) (show w.heap.size < w0.heap.size by have := HZ.out; omega)).trans A2.out
    have hc3 := (hSW.cell (p := ⟨w.heap.size, 3, none⟩) (show w.heap.size < w0.heap.size by have := HZ.out; omega)).trans A3.out
    go_simp
    try with_reducible rfl
  try simp only [Act.put, List.setIfInBounds_toArray, List.set_cons_zero, List.set_cons_succ]
  refine wpAnyH_take (i := 3) (oi := { dst := some 9, op := Op.load 93 (Operand.tmp 2), type := 93, pos := "health.go:43", after := #[], guard := none }) (v := ?v3_3) rfl (by kernel_rfl) (by kernel_rfl) (by kernel_rfl) (fun _ _ _ h => h) (Or.inl ⟨by rfl, ?h3_3⟩) (by assumption) ?r3_3
  case h3_3 =>
    intro W hSW
    try dsimp only at hSW
    have hcc := (hSW.cell (p := ⟨bl, 0, none⟩) (show bl < w0.heap.size by have := HZ.out; have := HB2.out; omega)).trans CL.out
    go_simp
    try with_reducible rfl
  try simp only [Act.put, List.setIfInBounds_toArray, List.set_cons_zero, List.set_cons_succ]
  refine wpAnyH_take (i := 4) (oi := { dst := some 10, op := Op.load 78 (Operand.tmp 4), type := 78, pos := "health.go:43", after := #[], guard := none }) (v := ?v4_4) rfl (by kernel_rfl) (by kernel_rfl) (by kernel_rfl) (fun _ _ _ h => h) (Or.inl ⟨by rfl, ?h4_4⟩) (by assumption) ?r4_4
  case h4_4 =>
    intro W hSW
    try dsimp only at hSW
    have hc0 := (hSW.cell (p := ⟨w.heap.size + 1, 0, none⟩) (show w.heap.size + 1 < w0.heap.size by have := HZ.out; omega)).trans B0.out
    have hc1 := (hSW.cell (p := ⟨w.heap.size + 1, 1, none⟩) (show w.heap.size + 1 < w0.heap.size by have := HZ.out; omega)).trans B1.out
    have hc2 := (hSW.cell (p := ⟨w.heap.size + 1, 2, none⟩) (show w.heap.size + 1 < w0.heap.size by have := HZ.out; omega)).trans B2.out
    have hc3 := (hSW.cell (p := ⟨w.heap.size + 1, 3, none⟩) (show w.heap.size + 1 < w0.heap.size by have := HZ.out; omega)).trans B3.out
    go_simp
    try with_reducible rfl
  try simp only [Act.put, List.setIfInBounds_toArray, List.set_cons_zero, List.set_cons_succ]
  refine wpAnyH_take (i := 7) (oi := { dst := some 13, op := Op.fieldAddr 78 (Operand.tmp 3) 1, type := 0, pos := "health.go:43", after := #[], guard := none }) (v := ?v7_5) rfl (by kernel_rfl) (by kernel_rfl) (by kernel_rfl) (fun _ _ _ h => h) (Or.inl ⟨by rfl, ?h7_5⟩) (by assumption) ?r7_5
  case h7_5 =>
    intro W hSW
    try dsimp only at hSW
    go_simp
    try with_reducible rfl
  try simp only [Act.put, List.setIfInBounds_toArray, List.set_cons_zero, List.set_cons_succ]
  refine wpAnyH_take (i := 8) (oi := { dst := some 14, op := Op.load 3 (Operand.tmp 13), type := 3, pos := "health.go:43", after := #[{ on := 7, ground := Ground.data }], guard := none }) (v := ?v8_6) rfl (by kernel_rfl) (by kernel_rfl) (by kernel_rfl) (fun _ _ _ h => h) (Or.inl ⟨by rfl, ?h8_6⟩) (by assumption) ?r8_6
  case h8_6 =>
    intro W hSW
    try dsimp only at hSW
    have hcc := (hSW.cell (p := ⟨w.heap.size, 2, none⟩) (show w.heap.size < w0.heap.size by have := HZ.out; omega)).trans A2.out
    go_simp
    try with_reducible rfl
  try simp only [Act.put, List.setIfInBounds_toArray, List.set_cons_zero, List.set_cons_succ]
  refine wpAnyH_take (i := 9) (oi := { dst := some 15, op := Op.fieldAddr 78 (Operand.tmp 4) 1, type := 0, pos := "health.go:43", after := #[], guard := none }) (v := ?v9_7) rfl (by kernel_rfl) (by kernel_rfl) (by kernel_rfl) (fun _ _ _ h => h) (Or.inl ⟨by rfl, ?h9_7⟩) (by assumption) ?r9_7
  case h9_7 =>
    intro W hSW
    try dsimp only at hSW
    go_simp
    try with_reducible rfl
  try simp only [Act.put, List.setIfInBounds_toArray, List.set_cons_zero, List.set_cons_succ]
  refine wpAnyH_take (i := 10) (oi := { dst := some 16, op := Op.load 3 (Operand.tmp 15), type := 3, pos := "health.go:43", after := #[{ on := 9, ground := Ground.data }], guard := none }) (v := ?v10_8) rfl (by kernel_rfl) (by kernel_rfl) (by kernel_rfl) (fun _ _ _ h => h) (Or.inl ⟨by rfl, ?h10_8⟩) (by assumption) ?r10_8
  case h10_8 =>
    intro W hSW
    try dsimp only at hSW
    have hcc := (hSW.cell (p := ⟨w.heap.size + 1, 2, none⟩) (show w.heap.size + 1 < w0.heap.size by have := HZ.out; omega)).trans B2.out
    go_simp
    try with_reducible rfl
  try simp only [Act.put, List.setIfInBounds_toArray, List.set_cons_zero, List.set_cons_succ]
  refine wpAnyH_take (i := 12) (oi := { dst := some 18, op := Op.fieldAddr 78 (Operand.tmp 4) 2, type := 0, pos := "health.go:43", after := #[], guard := none }) (v := ?v12_9) rfl (by kernel_rfl) (by kernel_rfl) (by kernel_rfl) (fun _ _ _ h => h) (Or.inl ⟨by rfl, ?h12_9⟩) (by assumption) ?r12_9
  case h12_9 =>
    intro W hSW
    try dsimp only at hSW
    go_simp
    try with_reducible rfl
  try simp only [Act.put, List.setIfInBounds_toArray, List.set_cons_zero, List.set_cons_succ]
  refine wpAnyH_take (i := 13) (oi := { dst := some 19, op := Op.load 3 (Operand.tmp 18), type := 3, pos := "health.go:43", after := #[{ on := 12, ground := Ground.data }], guard := none }) (v := ?v13_10) rfl (by kernel_rfl) (by kernel_rfl) (by kernel_rfl) (fun _ _ _ h => h) (Or.inl ⟨by rfl, ?h13_10⟩) (by assumption) ?r13_10
  case h13_10 =>
    intro W hSW
    try dsimp only at hSW
    have hcc := (hSW.cell (p := ⟨w.heap.size + 1, 3, none⟩) (show w.heap.size + 1 < w0.heap.size by have := HZ.out; omega)).trans B3.out
    go_simp
    try with_reducible rfl
  try simp only [Act.put, List.setIfInBounds_toArray, List.set_cons_zero, List.set_cons_succ]
  refine wpAnyH_take (i := 14) (oi := { dst := some 20, op := Op.fieldAddr 78 (Operand.tmp 3) 2, type := 0, pos := "health.go:43", after := #[], guard := none }) (v := ?v14_11) rfl (by kernel_rfl) (by kernel_rfl) (by kernel_rfl) (fun _ _ _ h => h) (Or.inl ⟨by rfl, ?h14_11⟩) (by assumption) ?r14_11
  case h14_11 =>
    intro W hSW
    try dsimp only at hSW
    go_simp
    try with_reducible rfl
  try simp only [Act.put, List.setIfInBounds_toArray, List.set_cons_zero, List.set_cons_succ]
  refine wpAnyH_take (i := 15) (oi := { dst := some 21, op := Op.load 3 (Operand.tmp 20), type := 3, pos := "health.go:43", after := #[{ on := 14, ground := Ground.data }], guard := none }) (v := ?v15_12) rfl (by kernel_rfl) (by kernel_rfl) (by kernel_rfl) (fun _ _ _ h => h) (Or.inl ⟨by rfl, ?h15_12⟩) (by assumption) ?r15_12
  case h15_12 =>
    intro W hSW
    try dsimp only at hSW
    have hcc := (hSW.cell (p := ⟨w.heap.size, 3, none⟩) (show w.heap.size < w0.heap.size by have := HZ.out; omega)).trans A3.out
    go_simp
    try with_reducible rfl
  try simp only [Act.put, List.setIfInBounds_toArray, List.set_cons_zero, List.set_cons_succ]
  refine wpAnyH_take (i := 17) (oi := { dst := some 23, op := Op.fieldAddr 78 (Operand.tmp 3) 0, type := 0, pos := "health.go:43", after := #[], guard := none }) (v := ?v17_13) rfl (by kernel_rfl) (by kernel_rfl) (by kernel_rfl) (fun _ _ _ h => h) (Or.inl ⟨by rfl, ?h17_13⟩) (by assumption) ?r17_13
  case h17_13 =>
    intro W hSW
    try dsimp only at hSW
    go_simp
    try with_reducible rfl
  try simp only [Act.put, List.setIfInBounds_toArray, List.set_cons_zero, List.set_cons_succ]
  refine wpAnyH_take (i := 18) (oi := { dst := some 24, op := Op.fieldAddr 47 (Operand.tmp 23) 0, type := 0, pos := "health.go:43", after := #[{ on := 17, ground := Ground.data }], guard := none }) (v := ?v18_14) rfl (by kernel_rfl) (by kernel_rfl) (by kernel_rfl) (fun _ _ _ h => h) (Or.inl ⟨by rfl, ?h18_14⟩) (by assumption) ?r18_14
  case h18_14 =>
    intro W hSW
    try dsimp only at hSW
    go_simp
    try with_reducible rfl
  try simp only [Act.put, List.setIfInBounds_toArray, List.set_cons_zero, List.set_cons_succ]
  refine wpAnyH_take (i := 19) (oi := { dst := some 25, op := Op.load 3 (Operand.tmp 24), type := 3, pos := "health.go:43", after := #[{ on := 18, ground := Ground.data }], guard := none }) (v := ?v19_15) rfl (by kernel_rfl) (by kernel_rfl) (by kernel_rfl) (fun _ _ _ h => h) (Or.inl ⟨by rfl, ?h19_15⟩) (by assumption) ?r19_15
  case h19_15 =>
    intro W hSW
    try dsimp only at hSW
    have hcc := (hSW.cell (p := ⟨w.heap.size, 0, none⟩) (show w.heap.size < w0.heap.size by have := HZ.out; omega)).trans A0.out
    go_simp
    try with_reducible rfl
  try simp only [Act.put, List.setIfInBounds_toArray, List.set_cons_zero, List.set_cons_succ]
  refine wpAnyH_take (i := 20) (oi := { dst := some 26, op := Op.fieldAddr 78 (Operand.tmp 4) 0, type := 0, pos := "health.go:43", after := #[], guard := none }) (v := ?v20_16) rfl (by kernel_rfl) (by kernel_rfl) (by kernel_rfl) (fun _ _ _ h => h) (Or.inl ⟨by rfl, ?h20_16⟩) (by assumption) ?r20_16
  case h20_16 =>
    intro W hSW
    try dsimp only at hSW
    go_simp
    try with_reducible rfl
  try simp only [Act.put, List.setIfInBounds_toArray, List.set_cons_zero, List.set_cons_succ]
  refine wpAnyH_take (i := 21) (oi := { dst := some 27, op := Op.fieldAddr 47 (Operand.tmp 26) 0, type := 0, pos := "health.go:43", after := #[{ on := 20, ground := Ground.data }], guard := none }) (v := ?v21_17) rfl (by kernel_rfl) (by kernel_rfl) (by kernel_rfl) (fun _ _ _ h => h) (Or.inl ⟨by rfl, ?h21_17⟩) (by assumption) ?r21_17
  case h21_17 =>
    intro W hSW
    try dsimp only at hSW
    go_simp
    try with_reducible rfl
  try simp only [Act.put, List.setIfInBounds_toArray, List.set_cons_zero, List.set_cons_succ]
  refine wpAnyH_take (i := 22) (oi := { dst := some 28, op := Op.load 3 (Operand.tmp 27), type := 3, pos := "health.go:43", after := #[{ on := 21, ground := Ground.data }], guard := none }) (v := ?v22_18) rfl (by kernel_rfl) (by kernel_rfl) (by kernel_rfl) (fun _ _ _ h => h) (Or.inl ⟨by rfl, ?h22_18⟩) (by assumption) ?r22_18
  case h22_18 =>
    intro W hSW
    try dsimp only at hSW
    have hcc := (hSW.cell (p := ⟨w.heap.size + 1, 0, none⟩) (show w.heap.size + 1 < w0.heap.size by have := HZ.out; omega)).trans B0.out
    go_simp
    try with_reducible rfl
  try simp only [Act.put, List.setIfInBounds_toArray, List.set_cons_zero, List.set_cons_succ]
  refine wpAnyH_take (i := 24) (oi := { dst := some 30, op := Op.fieldAddr 78 (Operand.tmp 3) 0, type := 0, pos := "health.go:43", after := #[], guard := none }) (v := ?v24_19) rfl (by kernel_rfl) (by kernel_rfl) (by kernel_rfl) (fun _ _ _ h => h) (Or.inl ⟨by rfl, ?h24_19⟩) (by assumption) ?r24_19
  case h24_19 =>
    intro W hSW
    try dsimp only at hSW
    go_simp
    try with_reducible rfl
  try simp only [Act.put, List.setIfInBounds_toArray, List.set_cons_zero, List.set_cons_succ]
  refine wpAnyH_take (i := 25) (oi := { dst := some 31, op := Op.fieldAddr 47 (Operand.tmp 30) 1, type := 0, pos := "health.go:43", after := #[{ on := 24, ground := Ground.data }], guard := none }) (v := ?v25_20) rfl (by kernel_rfl) (by kernel_rfl) (by kernel_rfl) (fun _ _ _ h => h) (Or.inl ⟨by rfl, ?h25_20⟩) (by assumption) ?r25_20
  case h25_20 =>
    intro W hSW
    try dsimp only at hSW
    go_simp
    try with_reducible rfl
  try simp only [Act.put, List.setIfInBounds_toArray, List.set_cons_zero, List.set_cons_succ]
  refine wpAnyH_take (i := 26) (oi := { dst := some 32, op := Op.load 3 (Operand.tmp 31), type := 3, pos := "health.go:43", after := #[{ on := 25, ground := Ground.data }], guard := none }) (v := ?v26_21) rfl (by kernel_rfl) (by kernel_rfl) (by kernel_rfl) (fun _ _ _ h => h) (Or.inl ⟨by rfl, ?h26_21⟩) (by assumption) ?r26_21
  case h26_21 =>
    intro W hSW
    try dsimp only at hSW
    have hcc := (hSW.cell (p := ⟨w.heap.size, 1, none⟩) (show w.heap.size < w0.heap.size by have := HZ.out; omega)).trans A1.out
    go_simp
    try with_reducible rfl
  try simp only [Act.put, List.setIfInBounds_toArray, List.set_cons_zero, List.set_cons_succ]
  refine wpAnyH_take (i := 27) (oi := { dst := some 33, op := Op.fieldAddr 78 (Operand.tmp 4) 0, type := 0, pos := "health.go:43", after := #[], guard := none }) (v := ?v27_22) rfl (by kernel_rfl) (by kernel_rfl) (by kernel_rfl) (fun _ _ _ h => h) (Or.inl ⟨by rfl, ?h27_22⟩) (by assumption) ?r27_22
  case h27_22 =>
    intro W hSW
    try dsimp only at hSW
    go_simp
    try with_reducible rfl
  try simp only [Act.put, List.setIfInBounds_toArray, List.set_cons_zero, List.set_cons_succ]
  refine wpAnyH_take (i := 28) (oi := { dst := some 34, op := Op.fieldAddr 47 (Operand.tmp 33) 1, type := 0, pos := "health.go:43", after := #[{ on := 27, ground := Ground.data }], guard := none }) (v := ?v28_23) rfl (by kernel_rfl) (by kernel_rfl) (by kernel_rfl) (fun _ _ _ h => h) (Or.inl ⟨by rfl, ?h28_23⟩) (by assumption) ?r28_23
  case h28_23 =>
    intro W hSW
    try dsimp only at hSW
    go_simp
    try with_reducible rfl
  try simp only [Act.put, List.setIfInBounds_toArray, List.set_cons_zero, List.set_cons_succ]
  refine wpAnyH_take (i := 29) (oi := { dst := some 35, op := Op.load 3 (Operand.tmp 34), type := 3, pos := "health.go:43", after := #[{ on := 28, ground := Ground.data }], guard := none }) (v := ?v29_24) rfl (by kernel_rfl) (by kernel_rfl) (by kernel_rfl) (fun _ _ _ h => h) (Or.inl ⟨by rfl, ?h29_24⟩) (by assumption) ?r29_24
  case h29_24 =>
    intro W hSW
    try dsimp only at hSW
    have hcc := (hSW.cell (p := ⟨w.heap.size + 1, 1, none⟩) (show w.heap.size + 1 < w0.heap.size by have := HZ.out; omega)).trans B1.out
    go_simp
    try with_reducible rfl
  try simp only [Act.put, List.setIfInBounds_toArray, List.set_cons_zero, List.set_cons_succ]
  refine wpAnyH_ready (rs := [2]) (by kernel_rfl) (by simp) ?_
  refine AllReadyH.cons (o := { dst := some 8, op := Op.call { callee := Callee.value (Operand.tmp 6), args := #[Operand.tmp 7], argTypes := #[78] }, type := 3, pos := "health.go:43", after := #[{ on := 0, ground := Ground.data }, { on := 1, ground := Ground.data }], guard := none }) rfl (fun K hK => ?_) AllReadyH.nil
  go_simp
  refine (HLA.out _).mono ?_
  rintro e w1 ⟨rfl, b1⟩
  have hv1 : Below w0.heap.size w0 w1 := hv0.trans (b1.mono hv0.size)
  go_wp2_with fail
  refine hK.out _ _ (hv1) (fun hHeld => ?_)
  clear hK K
  try simp only [Act.put, List.setIfInBounds_toArray, List.set_cons_zero, List.set_cons_succ]
  refine wpAnyH_ready (rs := [5]) (by kernel_rfl) (by simp) ?_
  refine AllReadyH.cons (o := { dst := some 11, op := Op.call { callee := Callee.value (Operand.tmp 9), args := #[Operand.tmp 10], argTypes := #[78] }, type := 3, pos := "health.go:43", after := #[{ on := 3, ground := Ground.data }, { on := 4, ground := Ground.data }, { on := 2, ground := Ground.chain }], guard := none }) rfl (fun K hK => ?_) AllReadyH.nil
  go_simp
  refine (HLB.out _).mono ?_
  rintro e w2 ⟨rfl, b2⟩
  have hv2 : Below w0.heap.size w0 w2 := hv1.trans (b2.mono hv1.size)
  go_wp2_with fail
  refine hK.out _ _ (hv2) (fun hHeld => ?_)
  clear hK K
  try simp only [Act.put, List.setIfInBounds_toArray, List.set_cons_zero, List.set_cons_succ]
  refine wpAnyH_ready (rs := [6]) (by kernel_rfl) (by simp) ?_
  refine AllReadyH.cons (o := { dst := some 12, op := Op.call { callee := Callee.value (Operand.func 45), args := #[Operand.tmp 8, Operand.tmp 11], argTypes := #[3, 3] }, type := 3, pos := "health.go:43", after := #[{ on := 2, ground := Ground.data }, { on := 5, ground := Ground.data }, { on := 5, ground := Ground.chain }], guard := none }) rfl (fun K hK => ?_) AllReadyH.nil
  go_simp
  refine (H1.out _).mono ?_
  rintro e w3 ⟨rfl, b3⟩
  have hv3 : Below w0.heap.size w0 w3 := hv2.trans (b3.mono hv2.size)
  go_wp2_with fail
  refine hK.out _ _ (hv3) (fun hHeld => ?_)
  clear hK K
  try simp only [Act.put, List.setIfInBounds_toArray, List.set_cons_zero, List.set_cons_succ]
  refine wpAnyH_ready (rs := [11]) (by kernel_rfl) (by simp) ?_
  refine AllReadyH.cons (o := { dst := some 17, op := Op.call { callee := Callee.value (Operand.func 45), args := #[Operand.tmp 14, Operand.tmp 16], argTypes := #[3, 3] }, type := 3, pos := "health.go:43", after := #[{ on := 8, ground := Ground.data }, { on := 10, ground := Ground.data }, { on := 6, ground := Ground.chain }], guard := none }) rfl (fun K hK => ?_) AllReadyH.nil
  go_simp
  refine (H2.out _).mono ?_
  rintro e w4 ⟨rfl, b4⟩
  have hv4 : Below w0.heap.size w0 w4 := hv3.trans (b4.mono hv3.size)
  go_wp2_with fail
  refine hK.out _ _ (hv4) (fun hHeld => ?_)
  clear hK K
  try simp only [Act.put, List.setIfInBounds_toArray, List.set_cons_zero, List.set_cons_succ]
  refine wpAnyH_ready (rs := [16]) (by kernel_rfl) (by simp) ?_
  refine AllReadyH.cons (o := { dst := some 22, op := Op.call { callee := Callee.value (Operand.func 45), args := #[Operand.tmp 19, Operand.tmp 21], argTypes := #[3, 3] }, type := 3, pos := "health.go:43", after := #[{ on := 13, ground := Ground.data }, { on := 15, ground := Ground.data }, { on := 11, ground := Ground.chain }], guard := none }) rfl (fun K hK => ?_) AllReadyH.nil
  go_simp
  refine (H3.out _).mono ?_
  rintro e w5 ⟨rfl, b5⟩
  have hv5 : Below w0.heap.size w0 w5 := hv4.trans (b5.mono hv4.size)
  go_wp2_with fail
  refine hK.out _ _ (hv5) (fun hHeld => ?_)
  clear hK K
  try simp only [Act.put, List.setIfInBounds_toArray, List.set_cons_zero, List.set_cons_succ]
  refine wpAnyH_ready (rs := [23]) (by kernel_rfl) (by simp) ?_
  refine AllReadyH.cons (o := { dst := some 29, op := Op.call { callee := Callee.value (Operand.func 45), args := #[Operand.tmp 25, Operand.tmp 28], argTypes := #[3, 3] }, type := 3, pos := "health.go:43", after := #[{ on := 19, ground := Ground.data }, { on := 22, ground := Ground.data }, { on := 16, ground := Ground.chain }], guard := none }) rfl (fun K hK => ?_) AllReadyH.nil
  go_simp
  refine (H4.out _).mono ?_
  rintro e w6 ⟨rfl, b6⟩
  have hv6 : Below w0.heap.size w0 w6 := hv5.trans (b6.mono hv5.size)
  go_wp2_with fail
  refine hK.out _ _ (hv6) (fun hHeld => ?_)
  clear hK K
  try simp only [Act.put, List.setIfInBounds_toArray, List.set_cons_zero, List.set_cons_succ]
  refine wpAnyH_ready (rs := [30]) (by kernel_rfl) (by simp) ?_
  refine AllReadyH.cons (o := { dst := some 36, op := Op.call { callee := Callee.value (Operand.func 45), args := #[Operand.tmp 32, Operand.tmp 35], argTypes := #[3, 3] }, type := 3, pos := "health.go:43", after := #[{ on := 26, ground := Ground.data }, { on := 29, ground := Ground.data }, { on := 23, ground := Ground.chain }], guard := none }) rfl (fun K hK => ?_) AllReadyH.nil
  go_simp
  refine (H5.out _).mono ?_
  rintro e w7 ⟨rfl, b7⟩
  have hv7 : Below w0.heap.size w0 w7 := hv6.trans (b7.mono hv6.size)
  go_wp2_with fail
  refine hK.out _ _ (hv7) (fun hHeld => ?_)
  clear hK K
  try simp only [Act.put, List.setIfInBounds_toArray, List.set_cons_zero, List.set_cons_succ]
  refine wpAnyH_ready (rs := [31]) (by kernel_rfl) (by simp) ?_
  refine AllReadyH.cons (o := { dst := some 37, op := Op.buildSlice 22 5 #[(0, Operand.tmp 12), (1, Operand.tmp 17), (2, Operand.tmp 22), (3, Operand.tmp 29), (4, Operand.tmp 36)], type := 22, pos := "health.go:43", after := #[{ on := 6, ground := Ground.data }, { on := 11, ground := Ground.data }, { on := 16, ground := Ground.data }, { on := 23, ground := Ground.data }, { on := 30, ground := Ground.data }], guard := none }) rfl (fun K hK => ?_) AllReadyH.nil
  go_simp
  obtain ⟨w8, hw8⟩ : ∃ w', w7.alloc (.cells #[.int .i64 x1, .int .i64 x2, .int .i64 x3, .int .i64 x4, .int .i64 x5] 3) = w' := ⟨_, rfl⟩
  rw [hw8]
  have rdS : Rd w8 w8.heap.size 1 (some ⟨w7.heap.size, 0, none⟩) 5 (ivs [x1, x2, x3, x4, x5]) := by rw [← hw8, alloc_size1]; exact Rd.new w7 (ivs [x1, x2, x3, x4, x5]) 3 5 rfl
  have bb8 : Below w7.heap.size w7 w8 := by rw [← hw8]; exact (Below.refl _ _).alloc (Nat.le_refl _) _
  have hv8 : Below w0.heap.size w0 w8 := hv7.trans (bb8.mono hv7.size)
  clear hw8
  refine hK.out _ _ (hv8) (fun hHeld => ?_)
  clear hK K
  try simp only [Act.put, List.setIfInBounds_toArray, List.set_cons_zero, List.set_cons_succ]
  refine wpAnyH_ready (rs := [32]) (by kernel_rfl) (by simp) ?_
  refine AllReadyH.cons (o := { dst := some 38, op := Op.call { callee := Callee.value (Operand.func 44), args := #[Operand.tmp 37], argTypes := #[22] }, type := 3, pos := "health.go:43", after := #[{ on := 31, ground := Ground.data }, { on := 30, ground := Ground.chain }], guard := none }) rfl (fun K hK => ?_) AllReadyH.nil
  go_simp
  refine (or_b _ 5 5 [x1, x2, x3, x4, x5] rfl (by omega) _ _ rdS q HQ.out).mono ?_
  rintro e w9 ⟨rfl, b9⟩
  have hv9 : Below w0.heap.size w0 w9 := hv8.trans (b9.mono hv8.size)
  go_wp2_with fail
  refine hK.out _ _ (hv9) (fun hHeld => ?_)
  clear hK K
  try simp only [Act.put, List.setIfInBounds_toArray, List.set_cons_zero, List.set_cons_succ]
  refine wpAnyH_take (i := 33) (oi := { dst := some 5, op := Op.assign (Operand.tmp 38), type := 3, pos := "health.go:43", after := #[{ on := 32, ground := Ground.data }, { on := 32, ground := Ground.chain }, { on := 0, ground := Ground.phase }, { on := 1, ground := Ground.phase }, { on := 2, ground := Ground.phase }, { on := 3, ground := Ground.phase }, { on := 4, ground := Ground.phase }, { on := 5, ground := Ground.phase }, { on := 6, ground := Ground.phase }, { on := 7, ground := Ground.phase }, { on := 8, ground := Ground.phase }, { on := 9, ground := Ground.phase }, { on := 10, ground := Ground.phase }, { on := 11, ground := Ground.phase }, { on := 12, ground := Ground.phase }, { on := 13, ground := Ground.phase }, { on := 14, ground := Ground.phase }, { on := 15, ground := Ground.phase }, { on := 16, ground := Ground.phase }, { on := 17, ground := Ground.phase }, { on := 18, ground := Ground.phase }, { on := 19, ground := Ground.phase }, { on := 20, ground := Ground.phase }, { on := 21, ground := Ground.phase }, { on := 22, ground := Ground.phase }, { on := 23, ground := Ground.phase }, { on := 24, ground := Ground.phase }, { on := 25, ground := Ground.phase }, { on := 26, ground := Ground.phase }, { on := 27, ground := Ground.phase }, { on := 28, ground := Ground.phase }, { on := 29, ground := Ground.phase }, { on := 30, ground := Ground.phase }, { on := 31, ground := Ground.phase }, { on := 32, ground := Ground.phase }], guard := none }) (v := ?v33_25) rfl (by kernel_rfl) (by kernel_rfl) (by kernel_rfl) (fun _ _ _ h => h) (Or.inl ⟨by rfl, ?h33_25⟩) (by assumption) ?r33_25
  case h33_25 =>
    intro W hSW
    try dsimp only at hSW
    go_simp
    try with_reducible rfl
  try simp only [Act.put, List.setIfInBounds_toArray, List.set_cons_zero, List.set_cons_succ]
  refine wpAnyH_done (by kernel_rfl) ?_ _
  go_wp2_with fail
  go_ret
  exact ⟨rfl, hbw.trans (hv9.mono hbw.size)⟩
end Go.Proofs.Ytfihdenapjmaeaa
