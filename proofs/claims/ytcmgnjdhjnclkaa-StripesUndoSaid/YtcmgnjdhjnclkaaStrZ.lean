/- slices.Repeat of one row; stripes.New. Conditions: at most 4096 rows. -/
import Derived.Test.YtcmgnjdhjnclkaaStrW
import Derived.Test.YtcmgnjdhjnclkaaHeld2
import Derived.Shelf.Bits.Mul64
import Derived.Shelf.Spec.SlicesInsert
namespace Go.Proofs.Ytcmgnjdhjnclkaa.S
set_option linter.unusedVariables false
set_option linter.unusedSimpArgs false
open Go.RowKit
theorem mul64_r (n : Nat) (hn : n ≤ 4096) (w : World) : Calls Try.prog 46 #[.int .u64 1, .int .u64 (n : Int)] w fun e w' => e = .returned (.tuple #[.int .u64 0, .int .u64 (n : Int)]) ∧ w' = w := by
  have b1 : bits .and .u64 1 4294967295 = 1 := by have := Mul64.maskN 1 (by decide); simpa using this
  have b2 : bits .and .u64 (n : Int) 4294967295 = (n : Int) := by have := Mul64.maskN n (by omega); rw [Nat.mod_eq_of_lt (by omega)] at this; exact this
  have b0 : bits .and .u64 0 4294967295 = 0 := by have := Mul64.maskN 0 (by decide); simpa using this
  have q0 : (n : Int) / 4294967296 = 0 := by omega
  have w1 : IntKind.u64.wrap (n : Int) = (n : Int) := by rw [IntKind.wrap_u64]; omega
  have w0 : IntKind.u64.wrap 0 = 0 := by decide
  go_enter Try.func46, Try.ntmps46
  go_wp2
  go_ret2
  exact ⟨rfl, rfl⟩
theorem mul_r (n : Nat) (hn : n ≤ 4096) (w : World) : Calls Try.prog 42 #[.int .u64 1, .int .u64 (n : Int)] w fun e w' => e = .returned (.tuple #[.int .u64 0, .int .u64 (n : Int)]) ∧ w' = w := by
  go_enter Try.func42, Try.ntmps42
  go_wp2_with (go_at_call 46; refine (mul64_r n hn _).mono ?_; rintro e w1 ⟨rfl, hw1⟩; rw [hw1]; clear hw1 w1)
  go_ret2
  exact ⟨rfl, rfl⟩
def frL : List Value := [.int .i64 (-1), .int .i64 0, .slice none 0 0]
def frs (m : Nat) : List Value := (List.replicate m frL).flatten
theorem frs_len (m : Nat) : (frs m).length = m * 3 := by
  induction m with
  | zero => rfl
  | succ m ih => unfold frs at ih ⊢; rw [List.replicate_succ, List.flatten_cons, List.length_append, ih]; show 3 + m * 3 = _; omega
theorem frs_add (a b : Nat) : frs (a + b) = frs a ++ frs b := by unfold frs; rw [← List.flatten_append, List.replicate_append_replicate]
theorem frs_one (m : Nat) : ∀ v ∈ frs m, v.oneCell' = true := by
  intro v hv
  unfold frs at hv
  obtain ⟨l, hl, hv⟩ := List.mem_flatten.1 hv
  rw [List.eq_of_mem_replicate hl] at hv
  simp only [frL, List.mem_cons, List.not_mem_nil, or_false] at hv
  rcases hv with rfl | rfl | rfl <;> rfl
theorem frs_eq (m : Nat) : frs m = (List.replicate m (⟨Str.free, none, 0⟩ : RR)).flatMap rwL := by
  induction m with
  | zero => rfl
  | succ m ih => rw [List.replicate_succ, List.flatMap_cons, ← ih]; rfl
theorem grown_setRow {w : World} {g : Nat} {cs : Array Value} : w.grownBy (w.setRow g cs) (some g) := ⟨rfl, rfl, rfl, by simp [World.setRow], fun k _ hk => setRow_other w g k _ (fun e => hk (by rw [e]))⟩
theorem copy_rows (W : World) {g n m k : Nat} {T : List Value} (h : IsRow W g 59 (frs m ++ T)) (hT : T.length = (n - m) * 3) (hk : m + k ≤ n) (a : Addr) (dLen dCap sLen sCap : Nat) (hn : k = Nat.min sLen dLen) (hsrc : ∀ j v, (frs k)[j]? = some v → W.cell? (a.add j) = some v) :
    (Builtin.copy_ #[25, 25] 3 #[.slice (some ⟨g, m * 3, none⟩) dLen dCap, .slice (some a) sLen sCap]).run Try.prog W = .ok (.int .i64 (k : Int)) (W.setRow g (frs (m + k) ++ T.drop (k * 3)).toArray) := by
  have hs : (Try.prog.info? 59).map (·.size) = some 3 := sizeRw
  have := run_copy_rowK (P := Try.prog) W 25 25 3 59 g (m * 3) dLen dCap a sLen sCap (frs m ++ T).toArray 59 (frs k) 3 k Try.underlying25 hs hn (frs_len k) h hsrc
    (by rw [frs_len, List.size_toArray, List.length_append, frs_len, hT]; omega) (frs_one k)
  rw [this]
  congr 2
  rw [frs_len, List.take_left' (frs_len m), frs_add, List.append_assoc, ← List.append_assoc (frs m)]
  congr 1
  have : m * 3 + k * 3 = (frs m).length + k * 3 := by rw [frs_len]
  rw [this, List.drop_append, List.append_assoc]
  simp [frs_len]
theorem mkRows (n : Nat) (hn : n ≤ 4096) : ∃ M : List Value, M.length = n * 3 ∧ ∀ W : World, (Instr.makeSlice 25 (.int .i64 (n : Int)) (.int .i64 (n : Int))).run Try.prog W = .ok (.slice (some ⟨W.heap.size, 0, none⟩) n n) (W.alloc (.cells M.toArray 59)) := by
  have hi := rowsT.info
  cases h : Try.prog.info? 59 with
  | none => rw [h] at hi; simp at hi
  | some i =>
    rw [h] at hi
    simp only [Option.map_some, Option.some.injEq, Prod.mk.injEq] at hi
    obtain ⟨hz, hs, hb⟩ := hi
    refine ⟨(madeCells (Value.agg #[.int .i64 0, .int .i64 0, .slice none 0 0]).cells ((n : Int).toNat * i.size)).toList, by rw [Array.length_toList, size_madeCells, hs]; rfl, fun W => ?_⟩
    have := run_make (P := Try.prog) W 25 59 i _ Try.underlying25 h hz .i64 .i64 n n (by omega) (Int.le_refl _) (by rw [hb]; omega) (by omega)
    simpa using this
set_option maxRecDepth 100000 in
set_option maxHeartbeats 4000000 in
theorem repeat_rows (bx n : Nat) (h0 : 0 < n) (hn : n ≤ 4096) (w : World) (hb : bx < w.heap.size) (hx : IsRow w bx 59 frL) :
    Calls Try.prog 29 #[.slice (some ⟨bx, 0, none⟩) 1 1, .int .i64 (n : Int)] w fun e w' => ∃ g, e = .returned (.slice (some ⟨g, 0, none⟩) n n) ∧ IsRow w' g 59 (frs n) ∧ w.heap.size ≤ g ∧ Below w.heap.size w w' := by
  have w1 : IntKind.u64.wrap (n : Int) = (n : Int) := by rw [IntKind.wrap_u64]; omega
  have w2 : IntKind.i64.wrap (n : Int) = (n : Int) := IntWalk.i64_in _ (by omega)
  have n1 : ¬ ((n : Int) < 0) := by omega
  have n2 : ¬ ((9223372036854775807 : Int) < (n : Int)) := by omega
  obtain ⟨M, hM, hmk⟩ := mkRows n hn
  have HM := Lib.hid hM
  have HX := Lib.hid hx
  have HMU := Lib.hid (fun W => mul_r n hn W)
  have HB := Lib.hid hb
  have H0 := Lib.hid h0
  clear hM hx hb h0
  go_enter Try.func29, Try.ntmps29
  go_upto_region 7 with (go_at_call 42; refine (HMU.out _).mono ?_; rintro e w1 ⟨rfl, hw1⟩; rw [hw1]; clear hw1 w1)
  have F3 := IsRow.new w 59 M
  have b3 : Below w.heap.size w (w.alloc (.cells M.toArray 59)) := (Below.refl _ _).alloc (Nat.le_refl _) _
  obtain ⟨w3, hw3⟩ : ∃ x, w.alloc (.cells M.toArray 59) = x := ⟨_, rfl⟩
  rw [hw3] at F3 b3 ⊢
  have x3 := HX.out.below' b3
  obtain ⟨g, hg⟩ : ∃ x, w.heap.size = x := ⟨_, rfl⟩
  have HGE := Lib.hid (Nat.le_of_eq hg)
  rw [hg] at F3 ⊢
  have hcp := copy_rows w3 (m := 0) (k := 1) (n := n) (T := M) (by exact F3) (by rw [HM.out]; rfl) (by have := H0.out; omega) ⟨bx, 0, none⟩ n n 1 1 (by have := H0.out; show 1 = min 1 n; omega) (fun j v hv => by rw [Addr.add_lit, Nat.zero_add, x3.cell]; simpa [frs] using hv)
  have F4 := setRow_heap w3 g _ (frs (0 + 1) ++ M.drop (1 * 3)).toArray 59 _ F3
  have HCP := Lib.hid hcp
  have HBE := Lib.hid (b3.grown (grown_setRow (w := w3) (g := g) (cs := (frs (0 + 1) ++ M.drop (1 * 3)).toArray)) b3.size (fun i hi => by have := Option.some.inj hi; omega))
  obtain ⟨w4, hw4⟩ : ∃ x, w3.setRow g (frs (0 + 1) ++ M.drop (1 * 3)).toArray = x := ⟨_, rfl⟩
  rw [hw4] at HCP F4 HBE
  have HF4 : Hid (IsRow w4 g 59 (frs 1 ++ M.drop (1 * 3))) := Lib.hid F4
  have HML : Hid ((M.drop (1 * 3)).length = (n - 1) * 3) := Lib.hid (by rw [List.length_drop, HM.out]; omega)
  clear hw3 F3 b3 x3 hg hcp F4 hw4 hmk
  go_wp2_with (refine Go.Proofs.wpList_copy_runI _ rfl (.tmp 31) (.tmp 32) 25 25 rfl _ _ rfl rfl HCP.out ?_)
  go_loopw [8] (fun u8 wr => ∃ (m : Nat) (T : List Value), 0 < m ∧ m ≤ n ∧ u8 = .int .i64 m ∧ Hid (T.length = (n - m) * 3) ∧ Hid (IsRow wr g 59 (frs m ++ T)) ∧ Hid (Below w.heap.size w wr)) (fun u8 _ => n - (intOf u8).toNat)
  case atStart => exact ⟨1, _, by decide, H0.out, rfl, HML, HF4, HBE⟩
  case round =>
    obtain ⟨m, T, hm0, hmn, rfl, HTL, HF, HBR⟩ := hrel
    by_cases hlt : m < n
    · have m1 : (m : Int) < (n : Int) := by omega
      have m2 : (0 : Int) ≤ (m : Int) := by omega
      have m3 : (m : Int) ≤ (n : Int) := by omega
      obtain ⟨k, hk⟩ : ∃ k, Nat.min m (n - m) = k := ⟨_, rfl⟩
      have hkb : m + k ≤ n ∧ 0 < k ∧ k ≤ m := by have h1 : min m (n - m) = k := hk; omega
      obtain ⟨m', hm'⟩ : ∃ x, m + k = x := ⟨_, rfl⟩
      have qm : (m : Int) + (k : Int) = (m' : Int) := by omega
      have wm : IntKind.i64.wrap (m' : Int) = (m' : Int) := IntWalk.i64_in _ (by omega)
      have hCP := fun (W : World) (F : IsRow W g 59 (frs m ++ T)) => copy_rows W F HTL.out hkb.1 ⟨g, 0, none⟩ (n - m) (n - m) m n hk.symm (fun j v hv => by
        rw [Addr.add_lit, Nat.zero_add, F.cell]
        have hj := (List.getElem?_eq_some_iff.1 hv).1
        rw [frs_len] at hj
        rw [List.getElem?_append_left (by rw [frs_len]; omega)]
        rw [show m = k + (m - k) by omega, frs_add, List.getElem?_append_left (by rw [frs_len]; omega)]
        exact hv)
      rw [hm'] at hCP
      have HCP2 := Lib.hid hCP
      have HF2 : Hid (IsRow wr.drew g 59 (frs m ++ T)) := Lib.hid HF.out
      have HKB := Lib.hid (And.intro hkb hm')
      have hcut1 : ∀ W, _ := fun W => run_cutFrom (P := Try.prog) W rowsT (some ⟨g, 0, none⟩) n n m .i64 hmn
      have hne : ¬ (n = m) := by omega
      clear hk hkb hm' hCP
      go_wp2_with fail
      have hv0 : Below wr.heap.size wr wr.drew := (Below.refl _ _).drew
      refine wp_region_late (fun W => Below wr.heap.size wr W) [0, 7, 8, 9] (by kernel_rfl) (hv0) (fun hHeld => ?_)
      refine wpAnyL_takeE (i := 0) (oi := { dst := some 38, op := Op.move (Operand.tmp 8), type := 3, pos := "slices.go:528", after := #[], guard := none }) (v := ?v0_91) rfl (by kernel_rfl) (by kernel_rfl) (by kernel_rfl) (by kernel_rfl) (fun _ _ _ h => h) (Or.inl ⟨by rfl, ?h0_91⟩) ?r0_91
      case h0_91 =>
        intro W
        go_simp
        try with_reducible rfl
      try simp only [Act.put, List.setIfInBounds_toArray, List.set_cons_zero, List.set_cons_succ]
      refine wpAnyL_take (i := 1) (oi := { dst := some 39, op := Op.move (Operand.tmp 7), type := 25, pos := "slices.go:528", after := #[], guard := none }) (v := ?v1_92) rfl (by kernel_rfl) (by kernel_rfl) (by kernel_rfl) (by kernel_rfl) (fun _ _ _ h => h) (Or.inl ⟨by rfl, ?h1_92⟩) (by assumption) ?r1_92
      case h1_92 =>
        intro W hSW
        try dsimp only at hSW
        go_simp
        try with_reducible rfl
      try simp only [Act.put, List.setIfInBounds_toArray, List.set_cons_zero, List.set_cons_succ]
      refine wpAnyL_take (i := 2) (oi := { dst := some 40, op := Op.move (Operand.tmp 8), type := 3, pos := "slices.go:528", after := #[], guard := none }) (v := ?v2_93) rfl (by kernel_rfl) (by kernel_rfl) (by kernel_rfl) (by kernel_rfl) (fun _ _ _ h => h) (Or.inl ⟨by rfl, ?h2_93⟩) (by assumption) ?r2_93
      case h2_93 =>
        intro W hSW
        try dsimp only at hSW
        go_simp
        try with_reducible rfl
      try simp only [Act.put, List.setIfInBounds_toArray, List.set_cons_zero, List.set_cons_succ]
      refine wpAnyL_take (i := 3) (oi := { dst := some 41, op := Op.slice 25 (Operand.tmp 39) (some (Operand.tmp 40)) none none, type := 25, pos := "slices.go:528", after := #[{ on := 1, ground := Ground.data }, { on := 2, ground := Ground.data }], guard := none }) (v := ?v3_94) rfl (by kernel_rfl) (by kernel_rfl) (by kernel_rfl) (by kernel_rfl) (fun _ _ _ h => h) (Or.inl ⟨by rfl, ?h3_94⟩) (by assumption) ?r3_94
      case h3_94 =>
        intro W hSW
        try dsimp only at hSW
        have hcc := hcut1 W
        rw [if_neg hne] at hcc
        go_simp
        try with_reducible rfl
      try simp only [Act.put, List.setIfInBounds_toArray, List.set_cons_zero, List.set_cons_succ]
      refine wpAnyL_take (i := 4) (oi := { dst := some 42, op := Op.move (Operand.tmp 7), type := 25, pos := "slices.go:528", after := #[], guard := none }) (v := ?v4_95) rfl (by kernel_rfl) (by kernel_rfl) (by kernel_rfl) (by kernel_rfl) (fun _ _ _ h => h) (Or.inl ⟨by rfl, ?h4_95⟩) (by assumption) ?r4_95
      case h4_95 =>
        intro W hSW
        try dsimp only at hSW
        go_simp
        try with_reducible rfl
      try simp only [Act.put, List.setIfInBounds_toArray, List.set_cons_zero, List.set_cons_succ]
      refine wpAnyL_take (i := 5) (oi := { dst := some 43, op := Op.move (Operand.tmp 8), type := 3, pos := "slices.go:528", after := #[], guard := none }) (v := ?v5_96) rfl (by kernel_rfl) (by kernel_rfl) (by kernel_rfl) (by kernel_rfl) (fun _ _ _ h => h) (Or.inl ⟨by rfl, ?h5_96⟩) (by assumption) ?r5_96
      case h5_96 =>
        intro W hSW
        try dsimp only at hSW
        go_simp
        try with_reducible rfl
      try simp only [Act.put, List.setIfInBounds_toArray, List.set_cons_zero, List.set_cons_succ]
      refine wpAnyL_take (i := 6) (oi := { dst := some 44, op := Op.slice 25 (Operand.tmp 42) none (some (Operand.tmp 43)) none, type := 25, pos := "slices.go:528", after := #[{ on := 4, ground := Ground.data }, { on := 5, ground := Ground.data }], guard := none }) (v := ?v6_97) rfl (by kernel_rfl) (by kernel_rfl) (by kernel_rfl) (by kernel_rfl) (fun _ _ _ h => h) (Or.inl ⟨by rfl, ?h6_97⟩) (by assumption) ?r6_97
      case h6_97 =>
        intro W hSW
        try dsimp only at hSW
        go_simp
        try with_reducible rfl
      try simp only [Act.put, List.setIfInBounds_toArray, List.set_cons_zero, List.set_cons_succ]
      refine wpAnyL_ready (rs := [7]) (by kernel_rfl) (by simp) ?_
      refine AllReadyL.late (o := { dst := some 45, op := Op.call { callee := Callee.builtin Builtin.copy, args := #[Operand.tmp 41, Operand.tmp 44], argTypes := #[25, 25] }, type := 3, pos := "slices.go:528", after := #[{ on := 3, ground := Ground.data }, { on := 6, ground := Ground.data }], guard := none }) rfl (by rfl) (fun K hK => ?_) AllReadyL.nil
      rw [if_pos (by rfl)]
      refine Go.Proofs.wp_copy_runI wr.drew (.tmp 41) (.tmp 44) 25 25 rfl (.slice (some ⟨g, m * 3, none⟩) (n - m) (n - m)) (.slice (some ⟨g, 0, none⟩) m n) ?hd7 rfl (HCP2.out wr.drew HF2.out) ?_
      case hd7 => first | rfl | simp
      have F9 := setRow_heap wr.drew g _ (frs m' ++ T.drop (k * 3)).toArray 59 _ HF2.out
      obtain ⟨w50, hw50⟩ : ∃ x, wr.drew.setRow g (frs m' ++ T.drop (k * 3)).toArray = x := ⟨_, rfl⟩
      have G9 := grown_setRow (w := wr.drew) (g := g) (cs := (frs m' ++ T.drop (k * 3)).toArray)
      rw [hw50] at F9 G9 ⊢
      have B9 := (HBR.out.trans (hv0.mono HBR.out.size)).grown G9 (Nat.le_trans HBR.out.size hv0.size) (fun i hi => by have := Option.some.inj hi; have := HGE.out; omega)
      clear hw50
      have hv50 := hv0
      refine hK.out _ _ ?_
      clear hK K
      try simp only [Act.put, List.setIfInBounds_toArray, List.set_cons_zero, List.set_cons_succ]
      refine wpAnyL_takeE (i := 8) (oi := { dst := some 46, op := Op.binOp BinOp.add 3 (Operand.tmp 38) (Operand.tmp 45) 3, type := 3, pos := "slices.go:528", after := #[{ on := 0, ground := Ground.data }, { on := 7, ground := Ground.data }], guard := none }) (v := ?v8_98) rfl (by kernel_rfl) (by kernel_rfl) (by kernel_rfl) (by kernel_rfl) (fun _ _ _ h => h) (Or.inl ⟨by rfl, ?h8_98⟩) ?r8_98
      case h8_98 =>
        intro W
        go_simp
        try with_reducible rfl
      try simp only [Act.put, List.setIfInBounds_toArray, List.set_cons_zero, List.set_cons_succ]
      refine wpAnyL_takeE (i := 9) (oi := { dst := some 8, op := Op.assign (Operand.tmp 46), type := 3, pos := "slices.go:528", after := #[{ on := 8, ground := Ground.data }, { on := 7, ground := Ground.chain }, { on := 0, ground := Ground.phase }, { on := 1, ground := Ground.phase }, { on := 2, ground := Ground.phase }, { on := 3, ground := Ground.phase }, { on := 4, ground := Ground.phase }, { on := 5, ground := Ground.phase }, { on := 6, ground := Ground.phase }, { on := 7, ground := Ground.phase }, { on := 8, ground := Ground.phase }], guard := none }) (v := ?v9_99) rfl (by kernel_rfl) (by kernel_rfl) (by kernel_rfl) (by kernel_rfl) (fun _ _ _ h => h) (Or.inl ⟨by rfl, ?h9_99⟩) ?r9_99
      case h9_99 =>
        intro W
        go_simp
        try with_reducible rfl
      try simp only [Act.put, List.setIfInBounds_toArray, List.set_cons_zero, List.set_cons_succ]
      refine wpAnyL_done (by kernel_rfl) ?_ _
      go_wp2_with fail
      go_roundw
      case rel => exact ⟨m', T.drop (k * 3), by have := HKB.out; omega, by have := HKB.out; omega, by go_num, Lib.hid (by rw [List.length_drop, HTL.out]; have := HKB.out; omega), Lib.hid F9, Lib.hid B9⟩
      case measure => have := HKB.out; simp [intOf]; omega
    · obtain rfl : m = n := by omega
      have HFF : Hid (IsRow wr g 59 (frs m)) := Lib.hid (by
        have h1 := HF.out
        have h2 := HTL.out
        rw [Nat.sub_self, Nat.zero_mul] at h2
        rw [List.eq_nil_of_length_eq_zero h2, List.append_nil] at h1
        exact h1)
      go_wp2_with fail
      go_ret
      exact ⟨g, rfl, HFF.out, HGE.out, HBR.out⟩
end Go.Proofs.Ytcmgnjdhjnclkaa.S
