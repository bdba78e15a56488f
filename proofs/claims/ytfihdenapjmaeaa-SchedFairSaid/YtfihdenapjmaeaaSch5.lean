/- Layer 37's comparison of two rebuilds. Conditions: both have units that are not good. -/
import Derived.Test.YtfihdenapjmaeaaSch4
import Derived.Deep.DeepCutAuto
namespace Go.Proofs.Ytfihdenapjmaeaa
set_option linter.unusedVariables false
set_option linter.unusedSimpArgs false
open Go.RowKit
theorem eqS (w : World) (a b a' b' : Int) : (binOp .eql 47 (.agg #[.int .i64 a, .int .i64 b]) (.agg #[.int .i64 a', .int .i64 b'])).run Try.prog w = .ok (.bool (a == a' && b == b')) w := by
  go_simp
  repeat' split
  all_goals simp_all
theorem neqS (w : World) (a b a' b' : Int) : (binOp .neq 47 (.agg #[.int .i64 a, .int .i64 b]) (.agg #[.int .i64 a', .int .i64 b'])).run Try.prog w = .ok (.bool !(a == a' && b == b')) w := by
  go_simp
  repeat' split
  all_goals simp_all
theorem eqH (w : World) (a b c d a' b' c' d' : Int) : (binOp .eql 78 (.agg #[.int .i64 a, .int .i64 b, .int .i64 c, .int .i64 d]) (.agg #[.int .i64 a', .int .i64 b', .int .i64 c', .int .i64 d'])).run Try.prog w = .ok (.bool (a == a' && b == b' && c == c' && d == d')) w := by
  go_simp
  repeat' split
  all_goals simp_all
section
variable {P : Program} {w : World} {o : Oper} {a : Act} {K : Act → World → Prop} {Q : Exit → Act → World → Prop}
theorem wp_allocRow (ty : TypeId) (ho : o.op = .alloc ty) (zs : List Value) (hz : (P.info? ty).map (fun i => (i.zero, i.size)) = some (some (.agg zs.toArray), zs.length))
    (h : ∀ w', IsRow w' w.heap.size ty zs → Below w.heap.size w w' → w'.heap.size = w.heap.size + 1 → K (a.put o.dst (.pointer (some ⟨w.heap.size, 0, none⟩))) w') : o.wp P a w K Q := by
  have hz1 := (zero_of_info (P := P) hz).1
  have hn : Sem.run P (newVar ty (.agg zs.toArray)) w = .ok ⟨w.heap.size, 0, none⟩ (w.alloc (.cells zs.toArray ty)) := by
    simp [newVar, Value.cells, go_sem]
  unfold Oper.wp execOp
  simp only [ho, Instr.alloc, Sem.run_bind, Sem.run_pure, Result.andThen_ok, hz1, hn]
  exact h _ (IsRow.new w ty zs) ((Below.refl _ _).alloc (Nat.le_refl _) _) (by simp)
theorem wp_storeRow (ty : TypeId) (x y : Operand) (ho : o.op = .store ty x y) {b t : Nat} {l l' : List Value} (hr : IsRow w b t l) (hx : a.eval x = .pointer (some ⟨b, 0, none⟩))
    (hy : a.eval y = .agg l'.toArray) (hi : (P.info? ty).map (·.size) = some l'.length) (hl : l.length = l'.length) (h1 : l'.all (·.oneCell') = true)
    (h : ∀ w', IsRow w' b t l' → w.grownBy w' (some b) → w'.heap.size = w.heap.size → K (a.put o.dst undef) w') : o.wp P a w K Q := by
  have hs := run_storeVar_row (P := P) w b t ty l.toArray l'.toArray hr (by simpa using hi) (by simpa using hl) (by simpa using h1)
  unfold Oper.wp execOp
  simp only [ho, hx, hy, Instr.storeAt, Instr.sureAddr, Sem.run_bind, Sem.run_pure, Result.andThen_ok, hs]
  exact h _ (setRow_heap w b _ _ t _ hr) ⟨rfl, rfl, rfl, by simp [World.setRow], fun k _ hk => setRow_other w b k _ (fun e => hk (by rw [e]))⟩ (by simp [World.setRow])
end
theorem infoH : (Try.prog.info? 78).map (fun i => (i.zero, i.size)) = some (some (.agg #[.int .i64 0, .int .i64 0, .int .i64 0, .int .i64 0]), 4) := by kernel_rfl
theorem infoH4 : (Try.prog.info? 78).map (·.size) = some 4 := by kernel_rfl
/-- the answer: 0 for the same stripe and health, -1 where a is before b, else 1 -/
def rebI (a b : Sc.Tk) : Int := if a.row = b.row ∧ a.grp = b.grp ∧ a.left = b.left ∧ a.bad = b.bad then 0 else if lossI b a < 0 then 1 else -1
def hz4 : List Value := [.int .i64 0, .int .i64 0, .int .i64 0, .int .i64 0]
set_option maxRecDepth 100000 in
set_option maxHeartbeats 1600000 in
theorem rebuilds_cut (a b : Sc.Tk) (ha : 0 < a.bad) (hb : 0 < b.bad) (w : World) : Calls Try.prog 40 #[tv a, tv b] w fun e w' => e = .returned (.int .i64 (rebI a b)) ∧ Below w.heap.size w w' := by
  have h2 := rows2 w 58 58 (tcs a) (tcs b)
  have hbw : Below w.heap.size w ((w.alloc (.cells (tcs a).toArray 58)).alloc (.cells (tcs b).toArray 58)) := ((Below.refl _ w).alloc (Nat.le_refl _) _).alloc (by rw [alloc_size1]; omega) _
  obtain ⟨kind, row, grp, left, bad⟩ := a
  obtain ⟨kind', row', grp', left', bad'⟩ := b
  have HZ : Hid (w.heap.size + 2 = ((w.alloc (.cells (tcs ⟨kind, row, grp, left, bad⟩).toArray 58)).alloc (.cells (tcs ⟨kind', row', grp', left', bad'⟩).toArray 58)).heap.size) := Lib.hid (by rw [alloc_size1, alloc_size1])
  obtain ⟨w0, hw0⟩ : ∃ w0, ((w.alloc (.cells (tcs ⟨kind, row, grp, left, bad⟩).toArray 58)).alloc (.cells (tcs ⟨kind', row', grp', left', bad'⟩).toArray 58)) = w0 := ⟨_, rfl⟩
  rw [hw0] at h2 hbw HZ
  have RA := h2.1
  have RB := h2.2
  have A1 := Lib.hid (show w0.cell? ⟨w.heap.size, 1, none⟩ = some (.int .i64 row) from RA.cell 1)
  have B1 := Lib.hid (show w0.cell? ⟨w.heap.size + 1, 1, none⟩ = some (.int .i64 row') from RB.cell 1)
  have A2 := Lib.hid (show w0.cell? ⟨w.heap.size, 2, none⟩ = some (.int .i64 grp) from RA.cell 2)
  have B2 := Lib.hid (show w0.cell? ⟨w.heap.size + 1, 2, none⟩ = some (.int .i64 grp') from RB.cell 2)
  have A3 := Lib.hid (show w0.cell? ⟨w.heap.size, 3, none⟩ = some (.int .i64 left) from RA.cell 3)
  have B3 := Lib.hid (show w0.cell? ⟨w.heap.size + 1, 3, none⟩ = some (.int .i64 left') from RB.cell 3)
  have A4 := Lib.hid (show w0.cell? ⟨w.heap.size, 4, none⟩ = some (.int .i64 bad) from RA.cell 4)
  have B4 := Lib.hid (show w0.cell? ⟨w.heap.size + 1, 4, none⟩ = some (.int .i64 bad') from RB.cell 4)
  simp only [tcs] at hw0
  have HW0 := Lib.hid hw0
  have HAB := Lib.hid (show 0 < bad ∧ 0 < bad' from ⟨ha, hb⟩)
  obtain ⟨res, hres⟩ : ∃ r, rebI ⟨kind, row, grp, left, bad⟩ ⟨kind', row', grp', left', bad'⟩ = r := ⟨_, rfl⟩
  rw [hres]
  have HRES := Lib.hid hres
  clear h2 hw0 RA RB ha hb hres
  go_enter Try.func40, Try.ntmps40
  go_upto_region 1 with fail
  go_cut [5, 6] (fun u5 u6 wx => ∃ wv p q, wv = wx ∧ u5 = .pointer (some ⟨p, 0, none⟩) ∧ u6 = .pointer (some ⟨q, 0, none⟩) ∧ IsRow wx p 78 (hcs ⟨kind, row, grp, left, bad⟩) ∧ IsRow wx q 78 (hcs ⟨kind', row', grp', left', bad'⟩) ∧ Below w.heap.size w wx)
  case first =>
    go_wp2_with fail
    rw [HW0.out]
    have hv0 : Below w0.heap.size w0 w0.drew := (Below.refl _ _).drew
    refine wp_region_held_drew (S := fun W => Below w0.heap.size w0 W) (by kernel_rfl) (hv0) (fun hHeld => ?_)
    refine wpAnyH_take (i := 0) (oi := { dst := some 7, op := Op.fieldAddr 58 (Operand.tmp 2) 1, type := 0, pos := "schedule.go:60", after := #[], guard := none }) (v := ?v0_1) rfl (by kernel_rfl) (by kernel_rfl) (by kernel_rfl) (fun _ _ _ h => h) (Or.inl ⟨by rfl, ?h0_1⟩) (by assumption) ?r0_1
    case h0_1 =>
      intro W hSW
      try dsimp only at hSW
      go_simp
      try with_reducible rfl
    try simp only [Act.put, List.setIfInBounds_toArray, List.set_cons_zero, List.set_cons_succ]
    refine wpAnyH_take (i := 1) (oi := { dst := some 8, op := Op.load 47 (Operand.tmp 7), type := 47, pos := "schedule.go:60", after := #[{ on := 0, ground := Ground.data }], guard := none }) (v := ?v1_2) rfl (by kernel_rfl) (by kernel_rfl) (by kernel_rfl) (fun _ _ _ h => h) (Or.inl ⟨by rfl, ?h1_2⟩) (by assumption) ?r1_2
    case h1_2 =>
      intro W hSW
      try dsimp only at hSW
      have hc1 := (hSW.cell (p := ⟨w.heap.size, 1, none⟩) (show w.heap.size < w0.heap.size by have := HZ.out; omega)).trans A1.out
      have hc2 := (hSW.cell (p := ⟨w.heap.size, 2, none⟩) (show w.heap.size < w0.heap.size by have := HZ.out; omega)).trans A2.out
      go_simp
      try with_reducible rfl
    try simp only [Act.put, List.setIfInBounds_toArray, List.set_cons_zero, List.set_cons_succ]
    refine wpAnyH_take (i := 2) (oi := { dst := some 9, op := Op.fieldAddr 58 (Operand.tmp 2) 2, type := 0, pos := "schedule.go:60", after := #[], guard := none }) (v := ?v2_3) rfl (by kernel_rfl) (by kernel_rfl) (by kernel_rfl) (fun _ _ _ h => h) (Or.inl ⟨by rfl, ?h2_3⟩) (by assumption) ?r2_3
    case h2_3 =>
      intro W hSW
      try dsimp only at hSW
      go_simp
      try with_reducible rfl
    try simp only [Act.put, List.setIfInBounds_toArray, List.set_cons_zero, List.set_cons_succ]
    refine wpAnyH_take (i := 3) (oi := { dst := some 10, op := Op.load 3 (Operand.tmp 9), type := 3, pos := "schedule.go:60", after := #[{ on := 2, ground := Ground.data }], guard := none }) (v := ?v3_4) rfl (by kernel_rfl) (by kernel_rfl) (by kernel_rfl) (fun _ _ _ h => h) (Or.inl ⟨by rfl, ?h3_4⟩) (by assumption) ?r3_4
    case h3_4 =>
      intro W hSW
      try dsimp only at hSW
      have hcc := (hSW.cell (p := ⟨w.heap.size, 3, none⟩) (show w.heap.size < w0.heap.size by have := HZ.out; omega)).trans A3.out
      go_simp
      try with_reducible rfl
    try simp only [Act.put, List.setIfInBounds_toArray, List.set_cons_zero, List.set_cons_succ]
    refine wpAnyH_take (i := 4) (oi := { dst := some 11, op := Op.fieldAddr 58 (Operand.tmp 2) 3, type := 0, pos := "schedule.go:60", after := #[], guard := none }) (v := ?v4_5) rfl (by kernel_rfl) (by kernel_rfl) (by kernel_rfl) (fun _ _ _ h => h) (Or.inl ⟨by rfl, ?h4_5⟩) (by assumption) ?r4_5
    case h4_5 =>
      intro W hSW
      try dsimp only at hSW
      go_simp
      try with_reducible rfl
    try simp only [Act.put, List.setIfInBounds_toArray, List.set_cons_zero, List.set_cons_succ]
    refine wpAnyH_take (i := 5) (oi := { dst := some 12, op := Op.load 3 (Operand.tmp 11), type := 3, pos := "schedule.go:60", after := #[{ on := 4, ground := Ground.data }], guard := none }) (v := ?v5_6) rfl (by kernel_rfl) (by kernel_rfl) (by kernel_rfl) (fun _ _ _ h => h) (Or.inl ⟨by rfl, ?h5_6⟩) (by assumption) ?r5_6
    case h5_6 =>
      intro W hSW
      try dsimp only at hSW
      have hcc := (hSW.cell (p := ⟨w.heap.size, 4, none⟩) (show w.heap.size < w0.heap.size by have := HZ.out; omega)).trans A4.out
      go_simp
      try with_reducible rfl
    try simp only [Act.put, List.setIfInBounds_toArray, List.set_cons_zero, List.set_cons_succ]
    refine wpAnyH_take (i := 6) (oi := { dst := some 13, op := Op.build 78 #[(0, Operand.tmp 8), (1, Operand.tmp 10), (2, Operand.tmp 12)], type := 78, pos := "schedule.go:60", after := #[{ on := 1, ground := Ground.data }, { on := 3, ground := Ground.data }, { on := 5, ground := Ground.data }], guard := none }) (v := ?v6_7) rfl (by kernel_rfl) (by kernel_rfl) (by kernel_rfl) (fun _ _ _ h => h) (Or.inl ⟨by rfl, ?h6_7⟩) (by assumption) ?r6_7
    case h6_7 =>
      intro W hSW
      try dsimp only at hSW
      go_simp
      try with_reducible rfl
    try simp only [Act.put, List.setIfInBounds_toArray, List.set_cons_zero, List.set_cons_succ]
    refine wpAnyH_take (i := 7) (oi := { dst := some 14, op := Op.fieldAddr 58 (Operand.tmp 3) 1, type := 0, pos := "schedule.go:60", after := #[{ on := 16, ground := Ground.gcOnly Departure.lateStores }], guard := none }) (v := ?v7_8) rfl (by kernel_rfl) (by kernel_rfl) (by kernel_rfl) (fun _ _ _ h => h) (Or.inl ⟨by rfl, ?h7_8⟩) (by assumption) ?r7_8
    case h7_8 =>
      intro W hSW
      try dsimp only at hSW
      go_simp
      try with_reducible rfl
    try simp only [Act.put, List.setIfInBounds_toArray, List.set_cons_zero, List.set_cons_succ]
    refine wpAnyH_take (i := 8) (oi := { dst := some 15, op := Op.load 47 (Operand.tmp 14), type := 47, pos := "schedule.go:60", after := #[{ on := 7, ground := Ground.data }, { on := 16, ground := Ground.gcOnly Departure.lateStores }], guard := none }) (v := ?v8_9) rfl (by kernel_rfl) (by kernel_rfl) (by kernel_rfl) (fun _ _ _ h => h) (Or.inl ⟨by rfl, ?h8_9⟩) (by assumption) ?r8_9
    case h8_9 =>
      intro W hSW
      try dsimp only at hSW
      have hc1 := (hSW.cell (p := ⟨w.heap.size + 1, 1, none⟩) (show w.heap.size + 1 < w0.heap.size by have := HZ.out; omega)).trans B1.out
      have hc2 := (hSW.cell (p := ⟨w.heap.size + 1, 2, none⟩) (show w.heap.size + 1 < w0.heap.size by have := HZ.out; omega)).trans B2.out
      go_simp
      try with_reducible rfl
    try simp only [Act.put, List.setIfInBounds_toArray, List.set_cons_zero, List.set_cons_succ]
    refine wpAnyH_take (i := 9) (oi := { dst := some 16, op := Op.fieldAddr 58 (Operand.tmp 3) 2, type := 0, pos := "schedule.go:60", after := #[{ on := 16, ground := Ground.gcOnly Departure.lateStores }], guard := none }) (v := ?v9_10) rfl (by kernel_rfl) (by kernel_rfl) (by kernel_rfl) (fun _ _ _ h => h) (Or.inl ⟨by rfl, ?h9_10⟩) (by assumption) ?r9_10
    case h9_10 =>
      intro W hSW
      try dsimp only at hSW
      go_simp
      try with_reducible rfl
    try simp only [Act.put, List.setIfInBounds_toArray, List.set_cons_zero, List.set_cons_succ]
    refine wpAnyH_take (i := 10) (oi := { dst := some 17, op := Op.load 3 (Operand.tmp 16), type := 3, pos := "schedule.go:60", after := #[{ on := 9, ground := Ground.data }, { on := 16, ground := Ground.gcOnly Departure.lateStores }], guard := none }) (v := ?v10_11) rfl (by kernel_rfl) (by kernel_rfl) (by kernel_rfl) (fun _ _ _ h => h) (Or.inl ⟨by rfl, ?h10_11⟩) (by assumption) ?r10_11
    case h10_11 =>
      intro W hSW
      try dsimp only at hSW
      have hcc := (hSW.cell (p := ⟨w.heap.size + 1, 3, none⟩) (show w.heap.size + 1 < w0.heap.size by have := HZ.out; omega)).trans B3.out
      go_simp
      try with_reducible rfl
    try simp only [Act.put, List.setIfInBounds_toArray, List.set_cons_zero, List.set_cons_succ]
    refine wpAnyH_take (i := 11) (oi := { dst := some 18, op := Op.fieldAddr 58 (Operand.tmp 3) 3, type := 0, pos := "schedule.go:60", after := #[{ on := 16, ground := Ground.gcOnly Departure.lateStores }], guard := none }) (v := ?v11_12) rfl (by kernel_rfl) (by kernel_rfl) (by kernel_rfl) (fun _ _ _ h => h) (Or.inl ⟨by rfl, ?h11_12⟩) (by assumption) ?r11_12
    case h11_12 =>
      intro W hSW
      try dsimp only at hSW
      go_simp
      try with_reducible rfl
    try simp only [Act.put, List.setIfInBounds_toArray, List.set_cons_zero, List.set_cons_succ]
    refine wpAnyH_take (i := 12) (oi := { dst := some 19, op := Op.load 3 (Operand.tmp 18), type := 3, pos := "schedule.go:60", after := #[{ on := 11, ground := Ground.data }, { on := 16, ground := Ground.gcOnly Departure.lateStores }], guard := none }) (v := ?v12_13) rfl (by kernel_rfl) (by kernel_rfl) (by kernel_rfl) (fun _ _ _ h => h) (Or.inl ⟨by rfl, ?h12_13⟩) (by assumption) ?r12_13
    case h12_13 =>
      intro W hSW
      try dsimp only at hSW
      have hcc := (hSW.cell (p := ⟨w.heap.size + 1, 4, none⟩) (show w.heap.size + 1 < w0.heap.size by have := HZ.out; omega)).trans B4.out
      go_simp
      try with_reducible rfl
    try simp only [Act.put, List.setIfInBounds_toArray, List.set_cons_zero, List.set_cons_succ]
    refine wpAnyH_take (i := 13) (oi := { dst := some 20, op := Op.build 78 #[(0, Operand.tmp 15), (1, Operand.tmp 17), (2, Operand.tmp 19)], type := 78, pos := "schedule.go:60", after := #[{ on := 8, ground := Ground.data }, { on := 10, ground := Ground.data }, { on := 12, ground := Ground.data }, { on := 16, ground := Ground.gcOnly Departure.lateStores }], guard := none }) (v := ?v13_14) rfl (by kernel_rfl) (by kernel_rfl) (by kernel_rfl) (fun _ _ _ h => h) (Or.inl ⟨by rfl, ?h13_14⟩) (by assumption) ?r13_14
    case h13_14 =>
      intro W hSW
      try dsimp only at hSW
      go_simp
      try with_reducible rfl
    try simp only [Act.put, List.setIfInBounds_toArray, List.set_cons_zero, List.set_cons_succ]
    refine wpAnyH_ready (rs := [14, 15]) (by kernel_rfl) (by simp) ?_
    refine AllReadyH.cons (o := { dst := some 5, op := Op.alloc 78, type := 0, pos := "schedule.go:60", after := #[], guard := none }) rfl (fun K hK => ?_) ?_
    · skip
      rw [if_pos (by rfl)]
      refine wp_allocRow 78 rfl hz4 infoH ?_
      intro w1 r14 b1 z1
      have hv1 : Below w0.heap.size w0 w1 := hv0.trans (b1.mono hv0.size)
      obtain ⟨p14, hp14⟩ : ∃ p, w0.drew.heap.size = p := ⟨_, rfl⟩
      rw [hp14] at r14 z1
      have l14 : w0.heap.size ≤ p14 := by rw [← hp14]; exact hv0.size
      rw [hp14]
      try (have r15' := r15.below' b1; have ne : p15 < p14 := by rw [← hp14]; exact r15.lt)
      clear hp14 z1
      refine hK.out _ _ (hv1) (fun hHeld => ?_)
      clear hK K
      try simp only [Act.put, List.setIfInBounds_toArray, List.set_cons_zero, List.set_cons_succ]
      refine wpAnyH_ready (rs := [15]) (by kernel_rfl) (by simp) ?_
      refine AllReadyH.cons (o := { dst := some 6, op := Op.alloc 78, type := 0, pos := "schedule.go:60", after := #[], guard := none }) rfl (fun K hK => ?_) AllReadyH.nil
      rw [if_pos (by rfl)]
      refine wp_allocRow 78 rfl hz4 infoH ?_
      intro w2 r15 b2 z2
      have hv2 : Below w0.heap.size w0 w2 := hv1.trans (b2.mono hv1.size)
      obtain ⟨p15, hp15⟩ : ∃ p, w1.heap.size = p := ⟨_, rfl⟩
      rw [hp15] at r15 z2
      have l15 : w0.heap.size ≤ p15 := by rw [← hp15]; exact hv1.size
      rw [hp15]
      try (have r14' := r14.below' b2; have ne : p14 < p15 := by rw [← hp15]; exact r14.lt)
      clear hp15 z2
      refine hK.out _ _ (hv2) (fun hHeld => ?_)
      clear hK K
      try simp only [Act.put, List.setIfInBounds_toArray, List.set_cons_zero, List.set_cons_succ]
      refine wpAnyH_ready (rs := [16]) (by kernel_rfl) (by simp) ?_
      refine AllReadyH.cons (o := { dst := none, op := Op.store 78 (Operand.tmp 5) (Operand.tmp 13), type := 0, pos := "schedule.go:60", after := #[{ on := 14, ground := Ground.data }, { on := 6, ground := Ground.data }, { on := 0, ground := Ground.phase }, { on := 1, ground := Ground.phase }, { on := 2, ground := Ground.phase }, { on := 3, ground := Ground.phase }, { on := 4, ground := Ground.phase }, { on := 5, ground := Ground.phase }, { on := 6, ground := Ground.phase }, { on := 7, ground := Ground.textOnly Departure.lateStores }, { on := 8, ground := Ground.textOnly Departure.lateStores }, { on := 9, ground := Ground.textOnly Departure.lateStores }, { on := 10, ground := Ground.textOnly Departure.lateStores }, { on := 11, ground := Ground.textOnly Departure.lateStores }, { on := 12, ground := Ground.textOnly Departure.lateStores }, { on := 13, ground := Ground.textOnly Departure.lateStores }, { on := 14, ground := Ground.phase }, { on := 15, ground := Ground.phase }], guard := none }) rfl (fun K hK => ?_) AllReadyH.nil
      rw [if_pos (by rfl)]
      have q14 : IsRow w2 p14 78 hz4 := by first | exact r14' | exact r14
      refine wp_storeRow 78 (.tmp 5) (.tmp 13) rfl q14 rfl (l' := hcs ⟨kind, row, grp, left, bad⟩) rfl infoH4 rfl rfl ?_
      intro w3 s14 g3 z3
      have hv3 : Below w0.heap.size w0 w3 := hv2.grown g3 hv2.size (fun k hk => by have := Option.some.inj hk; omega)
      have q15 : IsRow w2 p15 78 hz4 := by first | exact r15' | exact r15
      have q15 := q15.grown g3 (fun e => by have := Option.some.inj e; omega)
      clear z3
      refine hK.out _ _ (hv3) (fun hHeld => ?_)
      clear hK K
      try simp only [Act.put, List.setIfInBounds_toArray, List.set_cons_zero, List.set_cons_succ]
      refine wpAnyH_ready (rs := [17]) (by kernel_rfl) (by simp) ?_
      refine AllReadyH.cons (o := { dst := none, op := Op.store 78 (Operand.tmp 6) (Operand.tmp 20), type := 0, pos := "schedule.go:60", after := #[{ on := 15, ground := Ground.data }, { on := 13, ground := Ground.data }, { on := 16, ground := Ground.chain }, { on := 0, ground := Ground.phase }, { on := 1, ground := Ground.phase }, { on := 2, ground := Ground.phase }, { on := 3, ground := Ground.phase }, { on := 4, ground := Ground.phase }, { on := 5, ground := Ground.phase }, { on := 6, ground := Ground.phase }, { on := 7, ground := Ground.phase }, { on := 8, ground := Ground.phase }, { on := 9, ground := Ground.phase }, { on := 10, ground := Ground.phase }, { on := 11, ground := Ground.phase }, { on := 12, ground := Ground.phase }, { on := 13, ground := Ground.phase }, { on := 14, ground := Ground.phase }, { on := 15, ground := Ground.phase }, { on := 16, ground := Ground.phase }], guard := none }) rfl (fun K hK => ?_) AllReadyH.nil
      rw [if_pos (by rfl)]
      refine wp_storeRow 78 (.tmp 6) (.tmp 20) rfl q15 rfl (l' := hcs ⟨kind', row', grp', left', bad'⟩) rfl infoH4 rfl rfl ?_
      intro w4 s15 g4 z4
      have hv4 : Below w0.heap.size w0 w4 := hv3.grown g4 hv3.size (fun k hk => by have := Option.some.inj hk; omega)
      have s14 := s14.grown g4 (fun e => by have := Option.some.inj e; omega)
      clear z4
      refine hK.out _ _ (hv4) (fun hHeld => ?_)
      clear hK K
      try simp only [Act.put, List.setIfInBounds_toArray, List.set_cons_zero, List.set_cons_succ]
      refine wpAnyH_done (by kernel_rfl) ?_ _
      go_wp2_with fail
      go_meet
      exact ⟨_, p14, p15, rfl, rfl, rfl, s14, s15, hbw.trans (hv4.mono hbw.size)⟩
    · skip
      refine AllReadyH.cons (o := { dst := some 6, op := Op.alloc 78, type := 0, pos := "schedule.go:60", after := #[], guard := none }) rfl (fun K hK => ?_) AllReadyH.nil
      rw [if_pos (by rfl)]
      refine wp_allocRow 78 rfl hz4 infoH ?_
      intro w1 r15 b1 z1
      have hv1 : Below w0.heap.size w0 w1 := hv0.trans (b1.mono hv0.size)
      obtain ⟨p15, hp15⟩ : ∃ p, w0.drew.heap.size = p := ⟨_, rfl⟩
      rw [hp15] at r15 z1
      have l15 : w0.heap.size ≤ p15 := by rw [← hp15]; exact hv0.size
      rw [hp15]
      try (have r14' := r14.below' b1; have ne : p14 < p15 := by rw [← hp15]; exact r14.lt)
      clear hp15 z1
      refine hK.out _ _ (hv1) (fun hHeld => ?_)
      clear hK K
      try simp only [Act.put, List.setIfInBounds_toArray, List.set_cons_zero, List.set_cons_succ]
      refine wpAnyH_ready (rs := [14]) (by kernel_rfl) (by simp) ?_
      refine AllReadyH.cons (o := { dst := some 5, op := Op.alloc 78, type := 0, pos := "schedule.go:60", after := #[], guard := none }) rfl (fun K hK => ?_) AllReadyH.nil
      rw [if_pos (by rfl)]
      refine wp_allocRow 78 rfl hz4 infoH ?_
      intro w2 r14 b2 z2
      have hv2 : Below w0.heap.size w0 w2 := hv1.trans (b2.mono hv1.size)
      obtain ⟨p14, hp14⟩ : ∃ p, w1.heap.size = p := ⟨_, rfl⟩
      rw [hp14] at r14 z2
      have l14 : w0.heap.size ≤ p14 := by rw [← hp14]; exact hv1.size
      rw [hp14]
      try (have r15' := r15.below' b2; have ne : p15 < p14 := by rw [← hp14]; exact r15.lt)
      clear hp14 z2
      refine hK.out _ _ (hv2) (fun hHeld => ?_)
      clear hK K
      try simp only [Act.put, List.setIfInBounds_toArray, List.set_cons_zero, List.set_cons_succ]
      refine wpAnyH_ready (rs := [16]) (by kernel_rfl) (by simp) ?_
      refine AllReadyH.cons (o := { dst := none, op := Op.store 78 (Operand.tmp 5) (Operand.tmp 13), type := 0, pos := "schedule.go:60", after := #[{ on := 14, ground := Ground.data }, { on := 6, ground := Ground.data }, { on := 0, ground := Ground.phase }, { on := 1, ground := Ground.phase }, { on := 2, ground := Ground.phase }, { on := 3, ground := Ground.phase }, { on := 4, ground := Ground.phase }, { on := 5, ground := Ground.phase }, { on := 6, ground := Ground.phase }, { on := 7, ground := Ground.textOnly Departure.lateStores }, { on := 8, ground := Ground.textOnly Departure.lateStores }, { on := 9, ground := Ground.textOnly Departure.lateStores }, { on := 10, ground := Ground.textOnly Departure.lateStores }, { on := 11, ground := Ground.textOnly Departure.lateStores }, { on := 12, ground := Ground.textOnly Departure.lateStores }, { on := 13, ground := Ground.textOnly Departure.lateStores }, { on := 14, ground := Ground.phase }, { on := 15, ground := Ground.phase }], guard := none }) rfl (fun K hK => ?_) AllReadyH.nil
      rw [if_pos (by rfl)]
      have q14 : IsRow w2 p14 78 hz4 := by first | exact r14' | exact r14
      refine wp_storeRow 78 (.tmp 5) (.tmp 13) rfl q14 rfl (l' := hcs ⟨kind, row, grp, left, bad⟩) rfl infoH4 rfl rfl ?_
      intro w3 s14 g3 z3
      have hv3 : Below w0.heap.size w0 w3 := hv2.grown g3 hv2.size (fun k hk => by have := Option.some.inj hk; omega)
      have q15 : IsRow w2 p15 78 hz4 := by first | exact r15' | exact r15
      have q15 := q15.grown g3 (fun e => by have := Option.some.inj e; omega)
      clear z3
      refine hK.out _ _ (hv3) (fun hHeld => ?_)
      clear hK K
      try simp only [Act.put, List.setIfInBounds_toArray, List.set_cons_zero, List.set_cons_succ]
      refine wpAnyH_ready (rs := [17]) (by kernel_rfl) (by simp) ?_
      refine AllReadyH.cons (o := { dst := none, op := Op.store 78 (Operand.tmp 6) (Operand.tmp 20), type := 0, pos := "schedule.go:60", after := #[{ on := 15, ground := Ground.data }, { on := 13, ground := Ground.data }, { on := 16, ground := Ground.chain }, { on := 0, ground := Ground.phase }, { on := 1, ground := Ground.phase }, { on := 2, ground := Ground.phase }, { on := 3, ground := Ground.phase }, { on := 4, ground := Ground.phase }, { on := 5, ground := Ground.phase }, { on := 6, ground := Ground.phase }, { on := 7, ground := Ground.phase }, { on := 8, ground := Ground.phase }, { on := 9, ground := Ground.phase }, { on := 10, ground := Ground.phase }, { on := 11, ground := Ground.phase }, { on := 12, ground := Ground.phase }, { on := 13, ground := Ground.phase }, { on := 14, ground := Ground.phase }, { on := 15, ground := Ground.phase }, { on := 16, ground := Ground.phase }], guard := none }) rfl (fun K hK => ?_) AllReadyH.nil
      rw [if_pos (by rfl)]
      refine wp_storeRow 78 (.tmp 6) (.tmp 20) rfl q15 rfl (l' := hcs ⟨kind', row', grp', left', bad'⟩) rfl infoH4 rfl rfl ?_
      intro w4 s15 g4 z4
      have hv4 : Below w0.heap.size w0 w4 := hv3.grown g4 hv3.size (fun k hk => by have := Option.some.inj hk; omega)
      have s14 := s14.grown g4 (fun e => by have := Option.some.inj e; omega)
      clear z4
      refine hK.out _ _ (hv4) (fun hHeld => ?_)
      clear hK K
      try simp only [Act.put, List.setIfInBounds_toArray, List.set_cons_zero, List.set_cons_succ]
      refine wpAnyH_done (by kernel_rfl) ?_ _
      go_wp2_with fail
      go_meet
      exact ⟨_, p14, p15, rfl, rfl, rfl, s14, s15, hbw.trans (hv4.mono hbw.size)⟩
  case rest =>
    obtain ⟨wx, p, q, rfl, rfl, rfl, rp, rq, hbx⟩ := hcut
    by_cases hs : row = row' ∧ grp = grp' ∧ left = left' ∧ bad = bad'
    · obtain ⟨rfl, rfl, rfl, rfl⟩ := hs
      have c0 : wx.cell? ⟨p, 0, none⟩ = some (.int .i64 row) := rp.cell 0
      have d0 : wx.cell? ⟨q, 0, none⟩ = some (.int .i64 row) := rq.cell 0
      have c1 : wx.cell? ⟨p, 1, none⟩ = some (.int .i64 grp) := rp.cell 1
      have d1 : wx.cell? ⟨q, 1, none⟩ = some (.int .i64 grp) := rq.cell 1
      have c2 : wx.cell? ⟨p, 2, none⟩ = some (.int .i64 left) := rp.cell 2
      have d2 : wx.cell? ⟨q, 2, none⟩ = some (.int .i64 left) := rq.cell 2
      have c3 : wx.cell? ⟨p, 3, none⟩ = some (.int .i64 bad) := rp.cell 3
      have d3 : wx.cell? ⟨q, 3, none⟩ = some (.int .i64 bad) := rq.cell 3
      go_wp2
      go_ret
      exact ⟨ret_int (by rw [← HRES.out]; simp [rebI]), hbx⟩
    · have hne : ∀ W, (binOp .eql 78 (.agg #[.int .i64 row, .int .i64 grp, .int .i64 left, .int .i64 bad]) (.agg #[.int .i64 row', .int .i64 grp', .int .i64 left', .int .i64 bad'])).run Try.prog W = .ok (.bool false) W := fun W => by
        rw [eqH]
        have hq : (row == row' && grp == grp' && left == left' && bad == bad') = false := by
          rw [Bool.eq_false_iff]; intro h; apply hs; simpa [and_assoc] using h
        rw [hq]
      have hne2 : ∀ W, (binOp .eql 78 (.agg #[.int .i64 row', .int .i64 grp', .int .i64 left', .int .i64 bad']) (.agg #[.int .i64 row, .int .i64 grp, .int .i64 left, .int .i64 bad])).run Try.prog W = .ok (.bool false) W := fun W => by
        rw [eqH]
        have hq : (row' == row && grp' == grp && left' == left && bad' == bad) = false := by
          rw [Bool.eq_false_iff]; intro h; apply hs; simp only [Bool.and_eq_true, beq_iff_eq] at h; exact ⟨h.1.1.1.symm, h.1.1.2.symm, h.1.2.symm, h.2.symm⟩
        rw [hq]
      have HRE : Hid (res = if lossI ⟨kind', row', grp', left', bad'⟩ ⟨kind, row, grp, left, bad⟩ < 0 then 1 else -1) := Lib.hid (by rw [← HRES.out]; unfold rebI; rw [if_neg hs])
      have HS := Lib.hid hs
      have c0 : wx.cell? ⟨p, 0, none⟩ = some (.int .i64 row) := rp.cell 0
      have d0 : wx.cell? ⟨q, 0, none⟩ = some (.int .i64 row') := rq.cell 0
      have c1 : wx.cell? ⟨p, 1, none⟩ = some (.int .i64 grp) := rp.cell 1
      have d1 : wx.cell? ⟨q, 1, none⟩ = some (.int .i64 grp') := rq.cell 1
      have c2 : wx.cell? ⟨p, 2, none⟩ = some (.int .i64 left) := rp.cell 2
      have d2 : wx.cell? ⟨q, 2, none⟩ = some (.int .i64 left') := rq.cell 2
      have c3 : wx.cell? ⟨p, 3, none⟩ = some (.int .i64 bad) := rp.cell 3
      have d3 : wx.cell? ⟨q, 3, none⟩ = some (.int .i64 bad') := rq.cell 3
      have HP := Lib.hid rp.lt
      have HQ := Lib.hid rq.lt
      have HNE := Lib.hid hne2
      have C0 := Lib.hid c0
      have D0 := Lib.hid d0
      have C1 := Lib.hid c1
      have D1 := Lib.hid d1
      have C2 := Lib.hid c2
      have D2 := Lib.hid d2
      have C3 := Lib.hid c3
      have D3 := Lib.hid d3
      clear rp rq hs
      go_wp2
      clear hne hne2 c0 d0 c1 d1 c2 d2 c3 d3
      by_cases hl : lossI ⟨kind', row', grp', left', bad'⟩ ⟨kind, row, grp, left, bad⟩ < 0
      · have HF := Lib.hid (show first2 ⟨kind, row, grp, left, bad⟩ ⟨kind', row', grp', left', bad'⟩ = ⟨kind', row', grp', left', bad'⟩ by unfold first2; rw [if_pos hl])
        have HL := Lib.hid (show (if lossI ⟨kind', row', grp', left', bad'⟩ ⟨kind, row, grp, left, bad⟩ < 0 then (1 : Int) else -1) = 1 by rw [if_pos hl])
        clear hl
        have hv0 : Below wx.heap.size wx wx.drew := (Below.refl _ _).drew
        refine wp_region_held_drew (S := fun W => Below wx.heap.size wx W) (by kernel_rfl) (hv0) (fun hHeld => ?_)
        refine wpAnyH_take (i := 0) (oi := { dst := some 24, op := Op.load 78 (Operand.tmp 5), type := 78, pos := "schedule.go:64", after := #[], guard := none }) (v := ?v0_1001) rfl (by kernel_rfl) (by kernel_rfl) (by kernel_rfl) (fun _ _ _ h => h) (Or.inl ⟨by rfl, ?h0_1001⟩) (by assumption) ?r0_1001
        case h0_1001 =>
          intro W hSW
          try dsimp only at hSW
          have hc0 := (hSW.cell (p := ⟨p, 0, none⟩) HP.out).trans C0.out
          have hc1 := (hSW.cell (p := ⟨p, 1, none⟩) HP.out).trans C1.out
          have hc2 := (hSW.cell (p := ⟨p, 2, none⟩) HP.out).trans C2.out
          have hc3 := (hSW.cell (p := ⟨p, 3, none⟩) HP.out).trans C3.out
          go_simp
          try with_reducible rfl
        try simp only [Act.put, List.setIfInBounds_toArray, List.set_cons_zero, List.set_cons_succ]
        refine wpAnyH_take (i := 1) (oi := { dst := some 25, op := Op.load 78 (Operand.tmp 6), type := 78, pos := "schedule.go:64", after := #[], guard := none }) (v := ?v1_1002) rfl (by kernel_rfl) (by kernel_rfl) (by kernel_rfl) (fun _ _ _ h => h) (Or.inl ⟨by rfl, ?h1_1002⟩) (by assumption) ?r1_1002
        case h1_1002 =>
          intro W hSW
          try dsimp only at hSW
          have hc0 := (hSW.cell (p := ⟨q, 0, none⟩) HQ.out).trans D0.out
          have hc1 := (hSW.cell (p := ⟨q, 1, none⟩) HQ.out).trans D1.out
          have hc2 := (hSW.cell (p := ⟨q, 2, none⟩) HQ.out).trans D2.out
          have hc3 := (hSW.cell (p := ⟨q, 3, none⟩) HQ.out).trans D3.out
          go_simp
          try with_reducible rfl
        try simp only [Act.put, List.setIfInBounds_toArray, List.set_cons_zero, List.set_cons_succ]
        refine wpAnyH_take (i := 6) (oi := { dst := some 30, op := Op.load 78 (Operand.tmp 5), type := 78, pos := "schedule.go:64", after := #[], guard := none }) (v := ?v6_1003) rfl (by kernel_rfl) (by kernel_rfl) (by kernel_rfl) (fun _ _ _ h => h) (Or.inl ⟨by rfl, ?h6_1003⟩) (by assumption) ?r6_1003
        case h6_1003 =>
          intro W hSW
          try dsimp only at hSW
          have hc0 := (hSW.cell (p := ⟨p, 0, none⟩) HP.out).trans C0.out
          have hc1 := (hSW.cell (p := ⟨p, 1, none⟩) HP.out).trans C1.out
          have hc2 := (hSW.cell (p := ⟨p, 2, none⟩) HP.out).trans C2.out
          have hc3 := (hSW.cell (p := ⟨p, 3, none⟩) HP.out).trans C3.out
          go_simp
          try with_reducible rfl
        try simp only [Act.put, List.setIfInBounds_toArray, List.set_cons_zero, List.set_cons_succ]
        refine wpAnyH_ready (rs := [2]) (by kernel_rfl) (by simp) ?_
        refine AllReadyH.cons (o := { dst := some 26, op := Op.buildSlice 79 2 #[(0, Operand.tmp 24), (1, Operand.tmp 25)], type := 79, pos := "schedule.go:64", after := #[{ on := 0, ground := Ground.data }, { on := 1, ground := Ground.data }], guard := none }) rfl (fun K hK => ?_) AllReadyH.nil
        go_simp
        obtain ⟨w1, hw1⟩ : ∃ w', (wx.alloc (.cells #[.int .i64 row, .int .i64 grp, .int .i64 left, .int .i64 bad, .int .i64 row', .int .i64 grp', .int .i64 left', .int .i64 bad'] 78)).drew = w' := ⟨_, rfl⟩
        rw [hw1]
        have rdS : Rd w1 w1.heap.size 4 (some ⟨wx.heap.size, 0, none⟩) 2 ([⟨kind, row, grp, left, bad⟩, ⟨kind', row', grp', left', bad'⟩].flatMap hcs) := by rw [← hw1]; exact (Rd.new wx ([⟨kind, row, grp, left, bad⟩, ⟨kind', row', grp', left', bad'⟩].flatMap hcs) 78 2 (size := 4) rfl).drew.more (by rw [← alloc_size1 wx (.cells ([⟨kind, row, grp, left, bad⟩, ⟨kind', row', grp', left', bad'⟩].flatMap hcs).toArray 78)]; exact Nat.le_refl _)
        have hv1 : Below wx.heap.size wx w1 := by rw [← hw1]; exact ((Below.refl _ _).alloc (Nat.le_refl _) _).drew
        clear hw1
        refine hK.out _ _ (hv1) (fun hHeld => ?_)
        clear hK K
        try simp only [Act.put, List.setIfInBounds_toArray, List.set_cons_zero, List.set_cons_succ]
        refine wpAnyH_ready (rs := [3]) (by kernel_rfl) (by simp) ?_
        refine AllReadyH.cons (o := { dst := some 27, op := Op.call { callee := Callee.value (Operand.func 43), args := #[Operand.tmp 26], argTypes := #[79] }, type := 79, pos := "schedule.go:64", after := #[{ on := 2, ground := Ground.data }], guard := none }) rfl (fun K hK => ?_) AllReadyH.nil
        go_simp
        refine (order2 ⟨kind, row, grp, left, bad⟩ ⟨kind', row', grp', left', bad'⟩ HAB.out.1 HAB.out.2 _ _ 2 _ _ rdS (Nat.le_refl _)).mono ?_
        rintro e w2 ⟨g, c, rfl, hgl, hgr, b2⟩
        rw [HF.out] at hgr
        have hv2 : Below wx.heap.size wx w2 := hv1.trans (b2.mono hv1.size)
        go_wp2_with fail
        refine hK.out _ _ (hv2) (fun hHeld => ?_)
        clear hK K
        try simp only [Act.put, List.setIfInBounds_toArray, List.set_cons_zero, List.set_cons_succ]
        refine wpAnyH_take (i := 4) (oi := { dst := some 28, op := Op.indexAddr 79 (Operand.tmp 27) (Operand.const (Value.int IntKind.i64 0)), type := 0, pos := "schedule.go:64", after := #[{ on := 3, ground := Ground.data }], guard := none }) (v := ?v4_1004) rfl (by kernel_rfl) (by kernel_rfl) (by kernel_rfl) (fun _ _ _ h => h) (Or.inl ⟨by rfl, ?h4_1004⟩) (by assumption) ?r4_1004
        case h4_1004 =>
          intro W hSW
          try dsimp only at hSW
          go_simp
          try with_reducible rfl
        try simp only [Act.put, List.setIfInBounds_toArray, List.set_cons_zero, List.set_cons_succ]
        refine wpAnyH_ready (rs := [5]) (by kernel_rfl) (by simp) ?_
        refine AllReadyH.cons (o := { dst := some 29, op := Op.load 78 (Operand.tmp 28), type := 78, pos := "schedule.go:64", after := #[{ on := 4, ground := Ground.data }], guard := none }) rfl (fun K hK => ?_) AllReadyH.nil
        rw [if_pos (by rfl)]
        refine wp_load_mid 78 (.tmp 28) rfl g 0 rfl [.int .i64 row', .int .i64 grp', .int .i64 left', .int .i64 bad'] _ hgr Try.underlying78 rfl infoH4 ?_
        refine hK.out _ _ (hv2) (fun hHeld => ?_)
        clear hK K
        try simp only [Act.put, List.setIfInBounds_toArray, List.set_cons_zero, List.set_cons_succ]
        refine wpAnyH_take (i := 7) (oi := { dst := some 31, op := Op.binOp BinOp.eql 78 (Operand.tmp 29) (Operand.tmp 30) 78, type := 4, pos := "schedule.go:64", after := #[{ on := 5, ground := Ground.data }, { on := 6, ground := Ground.data }], guard := none }) (v := .bool false) rfl (by kernel_rfl) (by kernel_rfl) (by kernel_rfl) (fun _ _ _ h => h) (Or.inl ⟨by rfl, fun W _ => by go_simp; intro h1 h2 h3 h4; exact HS.out ⟨h1.symm, h2.symm, h3.symm, h4.symm⟩⟩) (by assumption) ?_
        try simp only [Act.put, List.setIfInBounds_toArray, List.set_cons_zero, List.set_cons_succ]
        refine wpAnyH_done (by kernel_rfl) ?_ _
        go_wp2
        go_ret
        exact ⟨ret_int (by rw [HRE.out, HL.out]), hbx.trans (hv2.mono hbx.size)⟩
      · have HF := Lib.hid (show first2 ⟨kind, row, grp, left, bad⟩ ⟨kind', row', grp', left', bad'⟩ = ⟨kind, row, grp, left, bad⟩ by unfold first2; rw [if_neg hl])
        have HL := Lib.hid (show (if lossI ⟨kind', row', grp', left', bad'⟩ ⟨kind, row, grp, left, bad⟩ < 0 then (1 : Int) else -1) = -1 by rw [if_neg hl])
        clear hl
        have hv0 : Below wx.heap.size wx wx.drew := (Below.refl _ _).drew
        refine wp_region_held_drew (S := fun W => Below wx.heap.size wx W) (by kernel_rfl) (hv0) (fun hHeld => ?_)
        refine wpAnyH_take (i := 0) (oi := { dst := some 24, op := Op.load 78 (Operand.tmp 5), type := 78, pos := "schedule.go:64", after := #[], guard := none }) (v := ?v0_2001) rfl (by kernel_rfl) (by kernel_rfl) (by kernel_rfl) (fun _ _ _ h => h) (Or.inl ⟨by rfl, ?h0_2001⟩) (by assumption) ?r0_2001
        case h0_2001 =>
          intro W hSW
          try dsimp only at hSW
          have hc0 := (hSW.cell (p := ⟨p, 0, none⟩) HP.out).trans C0.out
          have hc1 := (hSW.cell (p := ⟨p, 1, none⟩) HP.out).trans C1.out
          have hc2 := (hSW.cell (p := ⟨p, 2, none⟩) HP.out).trans C2.out
          have hc3 := (hSW.cell (p := ⟨p, 3, none⟩) HP.out).trans C3.out
          go_simp
          try with_reducible rfl
        try simp only [Act.put, List.setIfInBounds_toArray, List.set_cons_zero, List.set_cons_succ]
        refine wpAnyH_take (i := 1) (oi := { dst := some 25, op := Op.load 78 (Operand.tmp 6), type := 78, pos := "schedule.go:64", after := #[], guard := none }) (v := ?v1_2002) rfl (by kernel_rfl) (by kernel_rfl) (by kernel_rfl) (fun _ _ _ h => h) (Or.inl ⟨by rfl, ?h1_2002⟩) (by assumption) ?r1_2002
        case h1_2002 =>
          intro W hSW
          try dsimp only at hSW
          have hc0 := (hSW.cell (p := ⟨q, 0, none⟩) HQ.out).trans D0.out
          have hc1 := (hSW.cell (p := ⟨q, 1, none⟩) HQ.out).trans D1.out
          have hc2 := (hSW.cell (p := ⟨q, 2, none⟩) HQ.out).trans D2.out
          have hc3 := (hSW.cell (p := ⟨q, 3, none⟩) HQ.out).trans D3.out
          go_simp
          try with_reducible rfl
        try simp only [Act.put, List.setIfInBounds_toArray, List.set_cons_zero, List.set_cons_succ]
        refine wpAnyH_take (i := 6) (oi := { dst := some 30, op := Op.load 78 (Operand.tmp 5), type := 78, pos := "schedule.go:64", after := #[], guard := none }) (v := ?v6_2003) rfl (by kernel_rfl) (by kernel_rfl) (by kernel_rfl) (fun _ _ _ h => h) (Or.inl ⟨by rfl, ?h6_2003⟩) (by assumption) ?r6_2003
        case h6_2003 =>
          intro W hSW
          try dsimp only at hSW
          have hc0 := (hSW.cell (p := ⟨p, 0, none⟩) HP.out).trans C0.out
          have hc1 := (hSW.cell (p := ⟨p, 1, none⟩) HP.out).trans C1.out
          have hc2 := (hSW.cell (p := ⟨p, 2, none⟩) HP.out).trans C2.out
          have hc3 := (hSW.cell (p := ⟨p, 3, none⟩) HP.out).trans C3.out
          go_simp
          try with_reducible rfl
        try simp only [Act.put, List.setIfInBounds_toArray, List.set_cons_zero, List.set_cons_succ]
        refine wpAnyH_ready (rs := [2]) (by kernel_rfl) (by simp) ?_
        refine AllReadyH.cons (o := { dst := some 26, op := Op.buildSlice 79 2 #[(0, Operand.tmp 24), (1, Operand.tmp 25)], type := 79, pos := "schedule.go:64", after := #[{ on := 0, ground := Ground.data }, { on := 1, ground := Ground.data }], guard := none }) rfl (fun K hK => ?_) AllReadyH.nil
        go_simp
        obtain ⟨w1, hw1⟩ : ∃ w', (wx.alloc (.cells #[.int .i64 row, .int .i64 grp, .int .i64 left, .int .i64 bad, .int .i64 row', .int .i64 grp', .int .i64 left', .int .i64 bad'] 78)).drew = w' := ⟨_, rfl⟩
        rw [hw1]
        have rdS : Rd w1 w1.heap.size 4 (some ⟨wx.heap.size, 0, none⟩) 2 ([⟨kind, row, grp, left, bad⟩, ⟨kind', row', grp', left', bad'⟩].flatMap hcs) := by rw [← hw1]; exact (Rd.new wx ([⟨kind, row, grp, left, bad⟩, ⟨kind', row', grp', left', bad'⟩].flatMap hcs) 78 2 (size := 4) rfl).drew.more (by rw [← alloc_size1 wx (.cells ([⟨kind, row, grp, left, bad⟩, ⟨kind', row', grp', left', bad'⟩].flatMap hcs).toArray 78)]; exact Nat.le_refl _)
        have hv1 : Below wx.heap.size wx w1 := by rw [← hw1]; exact ((Below.refl _ _).alloc (Nat.le_refl _) _).drew
        clear hw1
        refine hK.out _ _ (hv1) (fun hHeld => ?_)
        clear hK K
        try simp only [Act.put, List.setIfInBounds_toArray, List.set_cons_zero, List.set_cons_succ]
        refine wpAnyH_ready (rs := [3]) (by kernel_rfl) (by simp) ?_
        refine AllReadyH.cons (o := { dst := some 27, op := Op.call { callee := Callee.value (Operand.func 43), args := #[Operand.tmp 26], argTypes := #[79] }, type := 79, pos := "schedule.go:64", after := #[{ on := 2, ground := Ground.data }], guard := none }) rfl (fun K hK => ?_) AllReadyH.nil
        go_simp
        refine (order2 ⟨kind, row, grp, left, bad⟩ ⟨kind', row', grp', left', bad'⟩ HAB.out.1 HAB.out.2 _ _ 2 _ _ rdS (Nat.le_refl _)).mono ?_
        rintro e w2 ⟨g, c, rfl, hgl, hgr, b2⟩
        rw [HF.out] at hgr
        have hv2 : Below wx.heap.size wx w2 := hv1.trans (b2.mono hv1.size)
        go_wp2_with fail
        refine hK.out _ _ (hv2) (fun hHeld => ?_)
        clear hK K
        try simp only [Act.put, List.setIfInBounds_toArray, List.set_cons_zero, List.set_cons_succ]
        refine wpAnyH_take (i := 4) (oi := { dst := some 28, op := Op.indexAddr 79 (Operand.tmp 27) (Operand.const (Value.int IntKind.i64 0)), type := 0, pos := "schedule.go:64", after := #[{ on := 3, ground := Ground.data }], guard := none }) (v := ?v4_2004) rfl (by kernel_rfl) (by kernel_rfl) (by kernel_rfl) (fun _ _ _ h => h) (Or.inl ⟨by rfl, ?h4_2004⟩) (by assumption) ?r4_2004
        case h4_2004 =>
          intro W hSW
          try dsimp only at hSW
          go_simp
          try with_reducible rfl
        try simp only [Act.put, List.setIfInBounds_toArray, List.set_cons_zero, List.set_cons_succ]
        refine wpAnyH_ready (rs := [5]) (by kernel_rfl) (by simp) ?_
        refine AllReadyH.cons (o := { dst := some 29, op := Op.load 78 (Operand.tmp 28), type := 78, pos := "schedule.go:64", after := #[{ on := 4, ground := Ground.data }], guard := none }) rfl (fun K hK => ?_) AllReadyH.nil
        rw [if_pos (by rfl)]
        refine wp_load_mid 78 (.tmp 28) rfl g 0 rfl [.int .i64 row, .int .i64 grp, .int .i64 left, .int .i64 bad] _ hgr Try.underlying78 rfl infoH4 ?_
        refine hK.out _ _ (hv2) (fun hHeld => ?_)
        clear hK K
        try simp only [Act.put, List.setIfInBounds_toArray, List.set_cons_zero, List.set_cons_succ]
        refine wpAnyH_take (i := 7) (oi := { dst := some 31, op := Op.binOp BinOp.eql 78 (Operand.tmp 29) (Operand.tmp 30) 78, type := 4, pos := "schedule.go:64", after := #[{ on := 5, ground := Ground.data }, { on := 6, ground := Ground.data }], guard := none }) (v := ?v7_2005) rfl (by kernel_rfl) (by kernel_rfl) (by kernel_rfl) (fun _ _ _ h => h) (Or.inl ⟨by rfl, ?h7_2005⟩) (by assumption) ?r7_2005
        case h7_2005 =>
          intro W hSW
          try dsimp only at hSW
          go_simp
          try with_reducible rfl
        try simp only [Act.put, List.setIfInBounds_toArray, List.set_cons_zero, List.set_cons_succ]
        refine wpAnyH_done (by kernel_rfl) ?_ _
        go_wp2
        go_ret
        exact ⟨ret_int (by rw [HRE.out, HL.out]), hbx.trans (hv2.mono hbx.size)⟩
end Go.Proofs.Ytfihdenapjmaeaa
