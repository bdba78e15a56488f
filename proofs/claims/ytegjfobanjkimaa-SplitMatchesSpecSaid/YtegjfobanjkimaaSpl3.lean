/- slices.Repeat of one element; layer 33's Even. Conditions: at most 1000 shares. -/
import Derived.Test.YtegjfobanjkimaaSpl2
import Derived.Test.YtegjfobanjkimaaHeld2
import Derived.Shelf.Bits.Mul64
import Derived.Shelf.Spec.SlicesInsert
namespace Go.Proofs.Ytegjfobanjkimaa
set_option linter.unusedVariables false
set_option linter.unusedSimpArgs false
open Go.RowKit
theorem mul64_1 (n : Nat) (hn : n ≤ 1000) (w : World) : Calls Try.prog 24 #[.int .u64 1, .int .u64 (n : Int)] w fun e w' => e = .returned (.tuple #[.int .u64 0, .int .u64 (n : Int)]) ∧ w' = w := by
  have b1 : bits .and .u64 1 4294967295 = 1 := by have := Mul64.maskN 1 (by decide); simpa using this
  have b2 : bits .and .u64 (n : Int) 4294967295 = (n : Int) := by have := Mul64.maskN n (by omega); rw [Nat.mod_eq_of_lt (by omega)] at this; exact this
  have b0 : bits .and .u64 0 4294967295 = 0 := by have := Mul64.maskN 0 (by decide); simpa using this
  have q0 : (n : Int) / 4294967296 = 0 := by omega
  have w1 : IntKind.u64.wrap (n : Int) = (n : Int) := by rw [IntKind.wrap_u64]; omega
  have w0 : IntKind.u64.wrap 0 = 0 := by decide
  go_enter Try.func24, Try.ntmps24
  go_wp2
  go_ret2
  exact ⟨rfl, rfl⟩
theorem mul_1 (n : Nat) (hn : n ≤ 1000) (w : World) : Calls Try.prog 20 #[.int .u64 1, .int .u64 (n : Int)] w fun e w' => e = .returned (.tuple #[.int .u64 0, .int .u64 (n : Int)]) ∧ w' = w := by
  go_enter Try.func20, Try.ntmps20
  go_wp2_with (go_at_call 24; refine (mul64_1 n hn _).mono ?_; rintro e w1 ⟨rfl, hw1⟩; rw [hw1]; clear hw1 w1)
  go_ret2
  exact ⟨rfl, rfl⟩
theorem FRow.fill {g n : Nat} (v : Int) : ∀ (k o : Nat) (w : World) (d : Nat → Int), FRow w g n d → o + k ≤ n → FRow (w.setCells g o (List.replicate k (.int .i64 v))) g n (fun t => if o ≤ t ∧ t < o + k then v else d t) ∧ w.grownBy (w.setCells g o (List.replicate k (.int .i64 v))) (some g) := by
  intro k
  induction k with
  | zero => intro o w d h _; exact ⟨h.congr fun t _ => by rw [if_neg (by omega)], World.grownBy.refl _ _⟩
  | succ k ih =>
    intro o w d h hk
    rw [List.replicate_succ, World.setCells]
    obtain ⟨h1, h2⟩ := ih (o + 1) (w.setCell ⟨g, o, none⟩ (.int .i64 v)) _ (h.set (k := o) (by omega) v) (by omega)
    refine ⟨h1.congr fun t _ => ?_, (grown_setCell _ _ _ _).trans h2⟩
    by_cases e : t = o
    · subst e; rw [if_pos (by omega), if_neg (by omega), if_pos rfl]
    · by_cases e2 : o + 1 ≤ t ∧ t < o + 1 + k
      · rw [if_pos e2, if_pos (by omega)]
      · rw [if_neg e2, if_neg e, if_neg (by omega)]
theorem copy_fill (W : World) {g n o k : Nat} {d : Nat → Int} (h : FRow W g n d) (hk : o + k ≤ n) (v : Int) (a : Addr) (dLen dCap sLen sCap : Nat) (hn : k = Nat.min sLen dLen) (hsrc : ∀ j, j < k → W.cell? (a.add j) = some (.int .i64 v)) :
    (Builtin.copy_ #[22, 22] 3 #[.slice (some ⟨g, o, none⟩) dLen dCap, .slice (some a) sLen sCap]).run Try.prog W = .ok (.int .i64 (k : Int)) (W.setCells g o (List.replicate k (.int .i64 v))) := by
  have hs : (Try.prog.info? 3).map (·.size) = some 1 := by
    have hi := intT.info
    cases h : Try.prog.info? 3 with
    | none => rw [h] at hi; simp at hi
    | some i => rw [h] at hi; simp only [Option.map_some, Option.some.injEq, Prod.mk.injEq] at hi; simp [hi.2.1]
  have := run_copy_cells (P := Try.prog) W 22 22 3 3 g o dLen dCap a sLen sCap (List.replicate k (.int .i64 v)) Try.underlying22 hs (by simp [hn]) (fun j u hu => by
      have hj : j < k := by have := (List.getElem?_eq_some_iff.1 hu).1; simpa using this
      have : u = .int .i64 v := by simp [hj] at hu; exact hu.symm
      subst this; exact hsrc j hj) (fun j hj => by rw [h.cell (o + j) (by simp at hj; omega)]; rfl) (fun j hj => h.free (o + j) (by simp at hj; omega)) (fun u hu => by rw [List.eq_of_mem_replicate hu]; rfl)
  simpa [goInt] using this
set_option maxRecDepth 100000 in
set_option maxHeartbeats 4000000 in
theorem repeat_any (v : Int) (bx n : Nat) (h0 : 0 < n) (hn : n ≤ 1000) (w : World) (hb : bx < w.heap.size) (hx : w.cell? ⟨bx, 0, none⟩ = some (.int .i64 v)) :
    Calls Try.prog 14 #[.slice (some ⟨bx, 0, none⟩) 1 1, .int .i64 (n : Int)] w fun e w' => ∃ g, e = .returned (.slice (some ⟨g, 0, none⟩) n n) ∧ FRow w' g n (fun _ => v) ∧ w.heap.size ≤ g ∧ Below w.heap.size w w' := by
  have w1 : IntKind.u64.wrap (n : Int) = (n : Int) := by rw [IntKind.wrap_u64]; omega
  have w2 : IntKind.i64.wrap (n : Int) = (n : Int) := IntWalk.i64_in _ (by omega)
  have n1 : ¬ ((n : Int) < 0) := by omega
  have n2 : ¬ ((9223372036854775807 : Int) < (n : Int)) := by omega
  obtain ⟨M, hM, hmk⟩ := mkInts n hn
  have HM := Lib.hid hM
  have HX := Lib.hid hx
  have HMU := Lib.hid (fun W => mul_1 n hn W)
  have HB := Lib.hid hb
  have H0 := Lib.hid h0
  clear hM hx hb h0
  go_enter Try.func14, Try.ntmps14
  go_upto_region 7 with (go_at_call 20; refine (HMU.out _).mono ?_; rintro e w1 ⟨rfl, hw1⟩; rw [hw1]; clear hw1 w1)
  obtain ⟨w3, hw3⟩ : ∃ x, w.alloc (.cells M 3) = x := ⟨_, rfl⟩
  rw [hw3]
  obtain ⟨F3, z3, b3⟩ := new_ints hw3 HM.out
  have x3 := (b3.cell (p := ⟨bx, 0, none⟩) HB.out).trans HX.out
  obtain ⟨g, hg⟩ : ∃ x, w.heap.size = x := ⟨_, rfl⟩
  have HGE := Lib.hid (Nat.le_of_eq hg)
  rw [hg] at F3 ⊢
  have hcp := copy_fill w3 F3 (o := 0) (k := 1) (by have := H0.out; omega) v ⟨bx, 0, none⟩ n n 1 1 (by have := H0.out; show 1 = min 1 n; omega) (fun j hj => by
    obtain rfl : j = 0 := by omega
    exact x3)
  obtain ⟨F4, G4⟩ := F3.fill v 1 0 w3 _ (by have := H0.out; omega)
  have HCP := Lib.hid hcp
  have HBE := Lib.hid (b3.grown G4 b3.size (fun i hi => by have := Option.some.inj hi; omega))
  obtain ⟨w4, hw4⟩ : ∃ x, w3.setCells g 0 (List.replicate 1 (.int .i64 v)) = x := ⟨_, rfl⟩
  rw [hw4] at HCP F4 HBE
  have HF4 := Lib.hid (F4.congr (e := fun t => if t < 1 then v else 0) fun t _ => by
    by_cases h : t < 1
    · rw [if_pos h, if_pos (by omega)]
    · rw [if_neg h, if_neg (by omega)])
  clear hw3 F3 z3 b3 x3 hg hcp F4 G4 hw4 hmk
  go_wp2_with (refine Go.Proofs.wpList_copy_runI _ rfl (.tmp 31) (.tmp 32) 22 22 rfl _ _ rfl rfl HCP.out ?_)
  go_loopw [8] (fun u8 wr => ∃ m : Nat, 0 < m ∧ m ≤ n ∧ u8 = .int .i64 m ∧ Hid (FRow wr g n (fun t => if t < m then v else 0)) ∧ Below w.heap.size w wr) (fun u8 _ => n - (intOf u8).toNat)
  case atStart => exact ⟨1, by decide, H0.out, rfl, HF4.out, HBE.out⟩
  case round =>
    obtain ⟨m, hm0, hmn, rfl, HF, hbr⟩ := hrel
    have HBR := Lib.hid hbr
    by_cases hlt : m < n
    · have m1 : (m : Int) < (n : Int) := by omega
      have m2 : (0 : Int) ≤ (m : Int) := by omega
      have m3 : (m : Int) ≤ (n : Int) := by omega
      obtain ⟨k, hk⟩ : ∃ k, Nat.min m (n - m) = k := ⟨_, rfl⟩
      have hkb : m + k ≤ n ∧ 0 < k ∧ k ≤ m := by have h1 : min m (n - m) = k := hk; omega
      obtain ⟨m', hm'⟩ : ∃ x, m + k = x := ⟨_, rfl⟩
      have qm : (m : Int) + (k : Int) = (m' : Int) := by omega
      have wm : IntKind.i64.wrap (m' : Int) = (m' : Int) := IntWalk.i64_in _ (by omega)
      have hCP := fun (W : World) (F : FRow W g n (fun t => if t < m then v else 0)) => copy_fill W F (o := m) (k := k) hkb.1 v ⟨g, 0, none⟩ (n - m) (n - m) m n hk.symm (fun j hj => by
        rw [Addr.add_lit, Nat.zero_add]
        have := F.cell j (by omega)
        rwa [if_pos (by omega)] at this)
      have HCP2 := Lib.hid hCP
      have HKB := Lib.hid (And.intro hkb hm')
      have hcut1 := fun W => run_cutFrom (P := Try.prog) W intT (some ⟨g, 0, none⟩) n n m .i64 hmn
      have hne : ¬ (n = m) := by omega
      clear hbr hk hkb hm' hCP
      go_wp2_with fail
      have hv0 : Below wr.heap.size wr wr.drew := (Below.refl _ _).drew
      refine wp_region_late (fun W => Below wr.heap.size wr W) [0, 7, 8, 9] (by kernel_rfl) (hv0) (fun hHeld => ?_)
      refine wpAnyL_takeE (i := 0) (oi := { dst := some 38, op := Op.move (Operand.tmp 8), type := 3, pos := "slices.go:528", after := #[], guard := none }) (v := ?v0_1001) rfl (by kernel_rfl) (by kernel_rfl) (by kernel_rfl) (by kernel_rfl) (fun _ _ _ h => h) (Or.inl ⟨by rfl, ?h0_1001⟩) ?r0_1001
      case h0_1001 =>
        intro W
        go_simp
        try with_reducible rfl
      try simp only [Act.put, List.setIfInBounds_toArray, List.set_cons_zero, List.set_cons_succ]
      refine wpAnyL_take (i := 1) (oi := { dst := some 39, op := Op.move (Operand.tmp 7), type := 22, pos := "slices.go:528", after := #[], guard := none }) (v := ?v1_1002) rfl (by kernel_rfl) (by kernel_rfl) (by kernel_rfl) (by kernel_rfl) (fun _ _ _ h => h) (Or.inl ⟨by rfl, ?h1_1002⟩) (by assumption) ?r1_1002
      case h1_1002 =>
        intro W hSW
        try dsimp only at hSW
        go_simp
        try with_reducible rfl
      try simp only [Act.put, List.setIfInBounds_toArray, List.set_cons_zero, List.set_cons_succ]
      refine wpAnyL_take (i := 2) (oi := { dst := some 40, op := Op.move (Operand.tmp 8), type := 3, pos := "slices.go:528", after := #[], guard := none }) (v := ?v2_1003) rfl (by kernel_rfl) (by kernel_rfl) (by kernel_rfl) (by kernel_rfl) (fun _ _ _ h => h) (Or.inl ⟨by rfl, ?h2_1003⟩) (by assumption) ?r2_1003
      case h2_1003 =>
        intro W hSW
        try dsimp only at hSW
        go_simp
        try with_reducible rfl
      try simp only [Act.put, List.setIfInBounds_toArray, List.set_cons_zero, List.set_cons_succ]
      refine wpAnyL_take (i := 3) (oi := { dst := some 41, op := Op.slice 22 (Operand.tmp 39) (some (Operand.tmp 40)) none none, type := 22, pos := "slices.go:528", after := #[{ on := 1, ground := Ground.data }, { on := 2, ground := Ground.data }], guard := none }) (v := ?v3_1004) rfl (by kernel_rfl) (by kernel_rfl) (by kernel_rfl) (by kernel_rfl) (fun _ _ _ h => h) (Or.inl ⟨by rfl, ?h3_1004⟩) (by assumption) ?r3_1004
      case h3_1004 =>
        intro W hSW
        try dsimp only at hSW
        have hcc := hcut1 W
        rw [if_neg hne] at hcc
        go_simp
        try with_reducible rfl
      try simp only [Act.put, List.setIfInBounds_toArray, List.set_cons_zero, List.set_cons_succ]
      refine wpAnyL_take (i := 4) (oi := { dst := some 42, op := Op.move (Operand.tmp 7), type := 22, pos := "slices.go:528", after := #[], guard := none }) (v := ?v4_1005) rfl (by kernel_rfl) (by kernel_rfl) (by kernel_rfl) (by kernel_rfl) (fun _ _ _ h => h) (Or.inl ⟨by rfl, ?h4_1005⟩) (by assumption) ?r4_1005
      case h4_1005 =>
        intro W hSW
        try dsimp only at hSW
        go_simp
        try with_reducible rfl
      try simp only [Act.put, List.setIfInBounds_toArray, List.set_cons_zero, List.set_cons_succ]
      refine wpAnyL_take (i := 5) (oi := { dst := some 43, op := Op.move (Operand.tmp 8), type := 3, pos := "slices.go:528", after := #[], guard := none }) (v := ?v5_1006) rfl (by kernel_rfl) (by kernel_rfl) (by kernel_rfl) (by kernel_rfl) (fun _ _ _ h => h) (Or.inl ⟨by rfl, ?h5_1006⟩) (by assumption) ?r5_1006
      case h5_1006 =>
        intro W hSW
        try dsimp only at hSW
        go_simp
        try with_reducible rfl
      try simp only [Act.put, List.setIfInBounds_toArray, List.set_cons_zero, List.set_cons_succ]
      refine wpAnyL_take (i := 6) (oi := { dst := some 44, op := Op.slice 22 (Operand.tmp 42) none (some (Operand.tmp 43)) none, type := 22, pos := "slices.go:528", after := #[{ on := 4, ground := Ground.data }, { on := 5, ground := Ground.data }], guard := none }) (v := ?v6_1007) rfl (by kernel_rfl) (by kernel_rfl) (by kernel_rfl) (by kernel_rfl) (fun _ _ _ h => h) (Or.inl ⟨by rfl, ?h6_1007⟩) (by assumption) ?r6_1007
      case h6_1007 =>
        intro W hSW
        try dsimp only at hSW
        go_simp
        try with_reducible rfl
      try simp only [Act.put, List.setIfInBounds_toArray, List.set_cons_zero, List.set_cons_succ]
      refine wpAnyL_ready (rs := [7]) (by kernel_rfl) (by simp) ?_
      refine AllReadyL.late (o := { dst := some 45, op := Op.call { callee := Callee.builtin Builtin.copy, args := #[Operand.tmp 41, Operand.tmp 44], argTypes := #[22, 22] }, type := 3, pos := "slices.go:528", after := #[{ on := 3, ground := Ground.data }, { on := 6, ground := Ground.data }], guard := none }) rfl (by rfl) (fun K hK => ?_) AllReadyL.nil
      rw [if_pos (by rfl)]
      refine Go.Proofs.wp_copy_runI wr.drew (.tmp 41) (.tmp 44) 22 22 rfl (.slice (some ⟨g, m, none⟩) (n - m) (n - m)) (.slice (some ⟨g, 0, none⟩) m n) ?hd7 rfl (HCP2.out wr.drew (HF.out.below hv0)) ?_
      case hd7 => first | rfl | simp
      obtain ⟨F9, G9⟩ := (HF.out.below hv0).fill v k m wr.drew _ HKB.out.1.1
      obtain ⟨w50, hw50⟩ : ∃ x, wr.drew.setCells g m (List.replicate k (.int .i64 v)) = x := ⟨_, rfl⟩
      rw [hw50] at F9 G9 ⊢
      have B9 := (HBR.out.trans (hv0.mono HBR.out.size)).grown G9 (Nat.le_trans HBR.out.size hv0.size) (fun i hi => by have := Option.some.inj hi; have := HGE.out; omega)
      clear hw50
      have hv50 := hv0
      refine hK.out _ _ ?_
      clear hK K
      try simp only [Act.put, List.setIfInBounds_toArray, List.set_cons_zero, List.set_cons_succ]
      refine wpAnyL_takeE (i := 8) (oi := { dst := some 46, op := Op.binOp BinOp.add 3 (Operand.tmp 38) (Operand.tmp 45) 3, type := 3, pos := "slices.go:528", after := #[{ on := 0, ground := Ground.data }, { on := 7, ground := Ground.data }], guard := none }) (v := ?v8_1008) rfl (by kernel_rfl) (by kernel_rfl) (by kernel_rfl) (by kernel_rfl) (fun _ _ _ h => h) (Or.inl ⟨by rfl, ?h8_1008⟩) ?r8_1008
      case h8_1008 =>
        intro W
        go_simp
        try with_reducible rfl
      try simp only [Act.put, List.setIfInBounds_toArray, List.set_cons_zero, List.set_cons_succ]
      refine wpAnyL_takeE (i := 9) (oi := { dst := some 8, op := Op.assign (Operand.tmp 46), type := 3, pos := "slices.go:528", after := #[{ on := 8, ground := Ground.data }, { on := 7, ground := Ground.chain }, { on := 0, ground := Ground.phase }, { on := 1, ground := Ground.phase }, { on := 2, ground := Ground.phase }, { on := 3, ground := Ground.phase }, { on := 4, ground := Ground.phase }, { on := 5, ground := Ground.phase }, { on := 6, ground := Ground.phase }, { on := 7, ground := Ground.phase }, { on := 8, ground := Ground.phase }], guard := none }) (v := ?v9_1009) rfl (by kernel_rfl) (by kernel_rfl) (by kernel_rfl) (by kernel_rfl) (fun _ _ _ h => h) (Or.inl ⟨by rfl, ?h9_1009⟩) ?r9_1009
      case h9_1009 =>
        intro W
        go_simp
        try with_reducible rfl
      try simp only [Act.put, List.setIfInBounds_toArray, List.set_cons_zero, List.set_cons_succ]
      refine wpAnyL_done (by kernel_rfl) ?_ _
      go_wp2_with fail
      go_roundw
      case rel =>
        obtain ⟨⟨hk1, hk2, hk3⟩, hm'⟩ := HKB.out
        exact ⟨m', by omega, by omega, by go_num, F9.congr fun t _ => (by
          by_cases h1 : t < m
          · rw [if_pos (by omega), if_neg (by omega), if_pos h1]
          · by_cases h2 : t < m'
            · rw [if_pos h2, if_pos (by omega)]
            · rw [if_neg h2, if_neg (by omega), if_neg h1]), B9⟩
      case measure => have := HKB.out; simp [intOf]; omega
    · obtain rfl : m = n := by omega
      have F := HF.out.congr (e := fun _ => v) fun t ht => by rw [if_pos ht]
      have HFF := Lib.hid F
      clear F hbr
      go_wp2_with fail
      go_ret
      exact ⟨g, rfl, HFF.out, HGE.out, HBR.out⟩
set_option maxHeartbeats 1600000 in
theorem even_bad (T ni : Int) (hn : ni ≤ 1000) (hbad : T < 0 ∨ 2147483647 < T ∨ ni < 1) (w : World) :
    Calls Try.prog 9 #[.int .i64 T, .int .i64 ni] w fun e w' => e = .returned (.tuple #[.slice none 0 0, .int .i64 1]) ∧ Below w.heap.size w w' := by
  by_cases h1 : T < 0
  · clear hbad hn
    go_enter Try.func9, Try.ntmps9
    go_wp2
    go_ret2
    exact ⟨rfl, Below.refl _ _⟩
  · by_cases h2 : 2147483647 < T
    · clear hbad hn
      go_enter Try.func9, Try.ntmps9
      go_wp2
      go_ret2
      exact ⟨rfl, Below.refl _ _⟩
    · have h3 : ni < 1 := by omega
      clear hbad hn
      go_enter Try.func9, Try.ntmps9
      go_wp2
      go_ret2
      exact ⟨rfl, Below.refl _ _⟩
/-- the share of an index when all weigh the same -/
def evenOf (T : Int) (n t : Nat) : Int := T / (n : Int) + if (t : Int) < T % (n : Int) then 1 else 0
/-- Even's results for valid arguments -/
def EOk (T : Int) (n : Nat) (w : World) (e : Ending) (w' : World) : Prop := ∃ g, e = .returned (.tuple #[.slice (some ⟨g, 0, none⟩) n n, .int .i64 0]) ∧ FRow w' g n (evenOf T n) ∧ w.heap.size ≤ g ∧ Below w.heap.size w w'
set_option maxRecDepth 100000 in
set_option maxHeartbeats 4000000 in
theorem even_ok (T : Int) (n : Nat) (h0 : 0 < n) (hn : n ≤ 1000) (t0 : 0 ≤ T) (t1 : T ≤ 2147483647) (w : World) :
    Calls Try.prog 9 #[.int .i64 T, .int .i64 (n : Int)] w (EOk T n w) := by
  have hq1 := Int.ediv_nonneg t0 (show (0 : Int) ≤ (n : Int) by omega)
  have hq2 : T / (n : Int) ≤ T := Int.ediv_le_self _ t0
  have hr1 := Int.emod_nonneg T (show (n : Int) ≠ 0 by omega)
  have hr2 := Int.emod_lt_of_pos T (show (0 : Int) < (n : Int) by omega)
  have HEV : Hid (∀ t, evenOf T n t = T / (n : Int) + if (t : Int) < T % (n : Int) then 1 else 0) := Lib.hid fun _ => rfl
  obtain ⟨q, hq⟩ : ∃ q, T / (n : Int) = q := ⟨_, rfl⟩
  obtain ⟨r, hr⟩ : ∃ r : Nat, T % (n : Int) = (r : Int) := ⟨(T % (n : Int)).toNat, by omega⟩
  rw [hq] at hq1 hq2 HEV
  rw [hr] at hr1 hr2 HEV
  have d1 : T.tdiv (n : Int) = q := by rw [Int.tdiv_eq_ediv_of_nonneg t0]; exact hq
  have d2 : T.tmod (n : Int) = (r : Int) := by rw [Int.tmod_eq_emod_of_nonneg t0]; exact hr
  have w1 : IntKind.i64.wrap q = q := IntWalk.i64_in _ (by omega)
  have w2 : IntKind.i64.wrap (r : Int) = (r : Int) := IntWalk.i64_in _ (by omega)
  have w3 : IntKind.i64.wrap (q + 1) = q + 1 := IntWalk.i64_in _ (by omega)
  have e0 : ((n : Int) == 0) = false := by rw [beq_eq_false_iff_ne]; omega
  have e0' : ¬ ((n : Int) = 0) := by omega
  have n1 : ¬ T < 0 := by omega
  have n2 : ¬ 2147483647 < T := by omega
  have n3 : ¬ ((n : Int) < 1) := by omega
  have n4 : ¬ ((65536 : Int) < (n : Int)) := by omega
  have hrn : r < n := by omega
  have HREP := Lib.hid (repeat_any q w.heap.size n h0 hn (w.alloc (.cells #[.int .i64 q] 3)) (by simp) (by rw [cell_of_row _ _ _ _ _ _ (heap_alloc_new w _)]; rfl))
  have HB1 := Lib.hid ((Below.refl w.heap.size w).alloc (Nat.le_refl _) (.cells #[.int .i64 q] 3))
  clear hq hr hr1 hr2 h0 hn
  go_enter Try.func9, Try.ntmps9
  go_wp2_with (go_at_call 14; refine HREP.out.mono ?_; rintro e w2 ⟨g, rfl, F2, hg, b2⟩)
  have HGE := Lib.hid (Nat.le_trans (show w.heap.size ≤ (w.alloc (.cells #[.int .i64 q] 3)).heap.size by simp) hg)
  have HB2 := Lib.hid (HB1.out.trans (b2.mono (by simp)))
  have HF2 := Lib.hid F2
  clear F2 hg b2
  go_loopw [31] (fun u31 wr => ∃ i : Nat, i ≤ r ∧ u31 = .int .i64 i ∧ Hid (FRow wr g n (fun t => q + if t < i then 1 else 0)) ∧ Below w.heap.size w wr) (fun u31 _ => r - (intOf u31).toNat)
  case atStart => exact ⟨0, Nat.zero_le _, rfl, HF2.out.congr fun t _ => by simp, HB2.out⟩
  case round =>
    obtain ⟨i, hi, rfl, HF, hbr⟩ := hrel
    have HBR := Lib.hid hbr
    by_cases hlt : i < r
    · have hin : i < n := by omega
      have c1 := HF.out.cell i hin
      have f1 := HF.out.free i hin
      rw [if_neg (Nat.lt_irrefl i), Int.add_zero] at c1
      have i0 : (0 : Int) ≤ (i : Int) := by omega
      have i1 : (i : Int) < (n : Int) := by omega
      have i2 : (i : Int) < (r : Int) := by omega
      have HIN := Lib.hid hin
      clear hbr hin
      go_wp2_with fail
      go_roundw
      case rel =>
        refine ⟨i + 1, by omega, by go_num, FRow.congr (HF.out.set HIN.out (q + 1)) fun t _ => ?_, HBR.out.setCell (by have := HGE.out; show w.heap.size ≤ g; exact this) _⟩
        by_cases e : t = i
        · subst e; rw [if_pos (by omega), if_pos rfl]
        · rw [if_neg e]; by_cases h : t < i
          · rw [if_pos h, if_pos (by omega)]
          · rw [if_neg h, if_neg (by omega)]
      case measure => simp [intOf]; omega
    · obtain rfl : i = r := by omega
      have FE := HF.out.congr (e := evenOf T n) fun t _ => by
        rw [HEV.out]; by_cases h : t < i
        · rw [if_pos h, if_pos (by omega)]
        · rw [if_neg h, if_neg (by omega)]
      have HFE := Lib.hid FE
      clear FE hbr
      go_wp2_with fail
      go_ret2
      exact ⟨g, rfl, HFE.out, HGE.out, HBR.out⟩
end Go.Proofs.Ytegjfobanjkimaa
