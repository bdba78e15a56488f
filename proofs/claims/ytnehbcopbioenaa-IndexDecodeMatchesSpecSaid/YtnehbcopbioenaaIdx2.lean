/- The walks of the index's Len, Cap, Drop, Put, New. -/
import Derived.Test.YtnehbcopbioenaaIdx
import Derived.Deep.RegionHeld3
import Derived.RegionTactic
namespace Go.Proofs.Ytnehbcopbioenaa
set_option linter.unusedVariables false
set_option linter.unusedSimpArgs false
open Go.RowKit Go.ChangeMaps

section
variable {w w' : World} {bx bm : Nat} {s : ISt}
theorem len_any (h : IxAt w bx bm s) : Calls Try.prog 26 #[.pointer (some ⟨bx, 0, none⟩)] w fun e w' => e = .returned (.int .i64 s.n) ∧ w = w' := by
  obtain ⟨hc0, hc1, hc2, hc3⟩ := h.cells
  go_enter Try.func26, Try.ntmps26
  go_wp2_with (at_len; refine wpList_mlen rfl (.tmp 6) 68 rfl Try.underlying68 h.2.2 rfl ?_)
  go_ret
  exact ⟨rfl, rfl⟩
theorem cap_any (h : IxAt w bx bm s) : Calls Try.prog 28 #[.pointer (some ⟨bx, 0, none⟩)] w fun e w' => e = .returned (.int .i64 s.cap) ∧ w = w' := by
  obtain ⟨hc0, hc1, hc2, hc3⟩ := h.cells
  go_enter Try.func28, Try.ntmps28
  go_wp2
  go_ret
  exact ⟨rfl, rfl⟩
end

set_option maxHeartbeats 800000 in
theorem drop_any (bx bm : Nat) (s : ISt) (c : Int) (w : World) (h : IxAt w bx bm s) :
    Calls Try.prog 16 #[.pointer (some ⟨bx, 0, none⟩), .int .i64 c] w fun e w' => e = .returned (.bool (s.M c).isSome) ∧ IxAt w' bx bm (s.drop c) ∧ Keep (fun k => k = bx ∨ k = bm) w w' := by
  obtain ⟨hc0, hc1, hc2, hc3⟩ := h.cells
  cases hm : s.M c with
  | none =>
    have hl := h.look_no c hm
    simp only [lval] at hl
    have HM := Lib.hid hm
    clear hm
    go_enter Try.func16, Try.ntmps16
    go_wp2
    go_ret
    refine ⟨rfl, ?_, (Keep.refl _ w).alloc _⟩
    rw [ISt.drop, HM.out]
    exact h.alloc _
  | some v =>
    obtain ⟨vp, vb, va⟩ := v
    have hl := h.look c hm
    simp only [lval] at hl
    have HM := Lib.hid hm
    clear hm
    go_enter Try.func16, Try.ntmps16
    go_wp2_with fail
    refine (join_any bx bm s vb va _ (h.alloc _)).mono ?_
    rintro e w1 ⟨⟨u, rfl⟩, h1, hk1⟩
    obtain ⟨hd0, hd1, hd2, hd3⟩ := h1.cells
    have hk := ((Keep.refl (fun k => k = bx ∨ k = bm) w).alloc _).trans hk1
    go_wp2_with (at_delete; refine wpList_del rfl (.tmp 26) (.tmp 27) 68 rfl keyInt Try.underlying68 h1.2.2 rfl c rfl ?_; intro w2 hm2 ht2)
    go_ret
    refine ⟨rfl, ?_, hk.turned ht2 (.inl (.inr rfl))⟩
    rw [ISt.drop, HM.out]
    refine ⟨h1.1, (ht2.grown.block bx h1.lt.1 (fun e => by injection e with e; exact h1.1 e)).trans h1.2.1, ?_⟩
    have e0 : ((Option.map lval ((s.join vb va).M c)).isSome) = ((s.join vb va).M c).isSome := by simp
    rw [e0] at hm2
    exact hm2.congr fun z => by by_cases hz : z = c <;> simp [hz]

theorem ISt.drop_none {s : ISt} {c : Int} (h : (s.M c).isSome = false) : s.drop c = s := by
  unfold ISt.drop
  cases hm : s.M c with
  | none => rfl
  | some v => rw [hm] at h; cases h

set_option maxHeartbeats 1600000 in
theorem put_any (bx bm : Nat) (s : ISt) (p c : Int) (hc1 : 1 ≤ c) (hc2 : c ≤ 65536) (w : World) (h : IxAt w bx bm s) :
    Calls Try.prog 17 #[.pointer (some ⟨bx, 0, none⟩), .int .u32 p, .int .i64 c] w fun e w' => e = .returned (.tuple #[.int .i64 (s.put p c).2, .int .i64 0]) ∧ IxAt w' bx bm (s.put p c).1 ∧ Keep (fun k => k = bx ∨ k = bm) w w' := by
  obtain ⟨B, hB⟩ : ∃ B, decide ((s.M c).isSome = false ∧ (s.n : Int) = s.cap) = B := ⟨_, rfl⟩
  have HB := Lib.hid hB
  clear hB
  go_enter Try.func17, Try.ntmps17
  go_upto_region 4 with fail
  go_cut [28] (fun u wx => u = .bool B ∧ IxAt wx bx bm (s.drop c) ∧ Keep (fun k => k = bx ∨ k = bm) w wx)
  case first =>
    have HD := Lib.hid (drop_any bx bm s c w.drew h.drew)
    cases hi : (s.M c).isSome with
    | true =>
      rw [hi] at HD
      have HI := Lib.hid hi
      clear hi
      refine wp_region_noPanic ?_
      refine wp_region_held_drew (S := fun _ => True) (by kernel_rfl) trivial (fun hHeld => ?_)
      refine wpAnyH_take (i := 0) rfl (by kernel_rfl) (by kernel_rfl) (by kernel_rfl) (fun _ _ _ h => h) (Or.inl ⟨by rfl, fun w _ => by rfl⟩) trivial ?_
      try simp only [Act.put, List.setIfInBounds_toArray, List.set_cons_zero, List.set_cons_succ]
      refine wpAnyH_take (i := 1) rfl (by kernel_rfl) (by kernel_rfl) (by kernel_rfl) (fun _ _ _ h => h) (Or.inl ⟨by rfl, fun w _ => by rfl⟩) trivial ?_
      try simp only [Act.put, List.setIfInBounds_toArray, List.set_cons_zero, List.set_cons_succ]
      refine wpAnyH_ready (rs := [2]) (by kernel_rfl) (by simp) ?_
      refine AllReadyH.cons rfl (fun K hK => ?_) AllReadyH.nil
      go_simp
      refine HD.out.mono ?_
      rintro e w1 ⟨rfl, h1, hk1⟩
      go_wp2_with fail
      refine hK.out _ _ trivial (fun hHeld => ?_)
      clear hK K
      try simp only [Act.put, List.setIfInBounds_toArray, List.set_cons_zero, List.set_cons_succ]
      refine wpAnyH_take (i := 3) (oi := { dst := some 19, op := Op.unOp UnOp.not 4 (Operand.tmp 18), type := 4, pos := "index.go:101", after := #[{ on := 2, ground := Ground.data }], guard := none }) (v := ?v3) rfl (by kernel_rfl) (by kernel_rfl) (by kernel_rfl) (fun _ _ _ h => h) (Or.inl ⟨by rfl, ?h3⟩) trivial ?r3
      case h3 =>
        intro w hSw
        try dsimp only at hSw
        go_simp
        try with_reducible rfl
      try simp only [Act.put, List.setIfInBounds_toArray, List.set_cons_zero, List.set_cons_succ]
      refine wpAnyH_take (i := 4) (oi := { dst := some 20, op := Op.move (Operand.tmp 19), type := 4, pos := "index.go:101", after := #[{ on := 3, ground := Ground.data }, { on := 2, ground := Ground.chain }], guard := none }) (v := ?v4) rfl (by kernel_rfl) (by kernel_rfl) (by kernel_rfl) (fun _ _ _ h => h) (Or.inl ⟨by rfl, ?h4⟩) trivial ?r4
      case h4 =>
        intro w hSw
        try dsimp only at hSw
        go_simp
        try with_reducible rfl
      try simp only [Act.put, List.setIfInBounds_toArray, List.set_cons_zero, List.set_cons_succ]
      refine wpAnyH_take (i := 5) (oi := { dst := some 21, op := Op.move (Operand.tmp 0), type := 24, pos := "index.go:101", after := #[{ on := 4, ground := Ground.guard }], guard := some (4, true) }) (v := undef) rfl (by kernel_rfl) (by kernel_rfl) (by kernel_rfl) (fun _ _ _ h => h) (Or.inr ⟨by rfl, rfl⟩) trivial ?_
      try simp only [Act.put, List.setIfInBounds_toArray, List.set_cons_zero, List.set_cons_succ]
      refine wpAnyH_take (i := 6) (oi := { dst := some 22, op := Op.call { callee := Callee.value (Operand.func 26), args := #[Operand.tmp 21], argTypes := #[24] }, type := 3, pos := "index.go:101", after := #[{ on := 5, ground := Ground.data }, { on := 4, ground := Ground.chain }, { on := 4, ground := Ground.guard }], guard := some (4, true) }) (v := undef) rfl (by kernel_rfl) (by kernel_rfl) (by kernel_rfl) (fun _ _ _ h => h) (Or.inr ⟨by rfl, rfl⟩) trivial ?_
      try simp only [Act.put, List.setIfInBounds_toArray, List.set_cons_zero, List.set_cons_succ]
      refine wpAnyH_take (i := 7) (oi := { dst := some 23, op := Op.move (Operand.tmp 0), type := 24, pos := "index.go:101", after := #[{ on := 4, ground := Ground.guard }], guard := some (4, true) }) (v := undef) rfl (by kernel_rfl) (by kernel_rfl) (by kernel_rfl) (fun _ _ _ h => h) (Or.inr ⟨by rfl, rfl⟩) trivial ?_
      try simp only [Act.put, List.setIfInBounds_toArray, List.set_cons_zero, List.set_cons_succ]
      refine wpAnyH_take (i := 8) (oi := { dst := some 24, op := Op.nilCheck (Operand.tmp 23), type := 0, pos := "index.go:101", after := #[{ on := 7, ground := Ground.data }, { on := 4, ground := Ground.guard }], guard := some (4, true) }) (v := undef) rfl (by kernel_rfl) (by kernel_rfl) (by kernel_rfl) (fun _ _ _ h => h) (Or.inr ⟨by rfl, rfl⟩) trivial ?_
      try simp only [Act.put, List.setIfInBounds_toArray, List.set_cons_zero, List.set_cons_succ]
      refine wpAnyH_take (i := 9) (oi := { dst := some 25, op := Op.fieldAddr 70 (Operand.tmp 24) 0, type := 0, pos := "index.go:101", after := #[{ on := 8, ground := Ground.data }, { on := 4, ground := Ground.guard }], guard := some (4, true) }) (v := undef) rfl (by kernel_rfl) (by kernel_rfl) (by kernel_rfl) (fun _ _ _ h => h) (Or.inr ⟨by rfl, rfl⟩) trivial ?_
      try simp only [Act.put, List.setIfInBounds_toArray, List.set_cons_zero, List.set_cons_succ]
      refine wpAnyH_take (i := 10) (oi := { dst := some 26, op := Op.load 3 (Operand.tmp 25), type := 3, pos := "index.go:101", after := #[{ on := 9, ground := Ground.data }, { on := 4, ground := Ground.guard }], guard := some (4, true) }) (v := undef) rfl (by kernel_rfl) (by kernel_rfl) (by kernel_rfl) (fun _ _ _ h => h) (Or.inr ⟨by rfl, rfl⟩) trivial ?_
      try simp only [Act.put, List.setIfInBounds_toArray, List.set_cons_zero, List.set_cons_succ]
      refine wpAnyH_take (i := 11) (oi := { dst := some 27, op := Op.binOp BinOp.eql 3 (Operand.tmp 22) (Operand.tmp 26) 3, type := 4, pos := "index.go:101", after := #[{ on := 6, ground := Ground.data }, { on := 10, ground := Ground.data }, { on := 4, ground := Ground.guard }], guard := some (4, true) }) (v := undef) rfl (by kernel_rfl) (by kernel_rfl) (by kernel_rfl) (fun _ _ _ h => h) (Or.inr ⟨by rfl, rfl⟩) trivial ?_
      try simp only [Act.put, List.setIfInBounds_toArray, List.set_cons_zero, List.set_cons_succ]
      refine wpAnyH_take (i := 12) (oi := { dst := some 28, op := Op.pick (Operand.tmp 20) (Operand.tmp 27) (Operand.const (Value.bool false)), type := 4, pos := "index.go:101", after := #[{ on := 4, ground := Ground.data }, { on := 11, ground := Ground.data }], guard := none }) (v := ?v12) rfl (by kernel_rfl) (by kernel_rfl) (by kernel_rfl) (fun _ _ _ h => h) (Or.inl ⟨by rfl, ?h12⟩) trivial ?r12
      case h12 =>
        intro w hSw
        try dsimp only at hSw
        go_simp
        try with_reducible rfl
      try simp only [Act.put, List.setIfInBounds_toArray, List.set_cons_zero, List.set_cons_succ]
      refine wpAnyH_done (by kernel_rfl) ?_ _
      refine NoPanic.normal ?_
      go_wp2_with fail
      go_meet
      exact ⟨by rw [← HB.out, HI.out]; simp, h1, hk1.l_drew⟩
    | false =>
      rw [hi] at HD
      have HI := Lib.hid hi
      clear hi
      rw [ISt.drop_none HI.out] at HD
      have hc0 : w.drew.cell? ⟨bx, 0, none⟩ = some (.int .i64 s.cap) := h.cells.1
      go_region_held3 (fun w' => w'.cell? ⟨bx, 0, none⟩ = some (.int .i64 s.cap)) (assumption) (first
        | (go_at_call 16; refine HD.out.mono ?_; rintro e w1 ⟨rfl, h1, hk1⟩; obtain ⟨hd0, _, _, _⟩ := h1.cells)
        | (go_at_call 26; refine (len_any h1).mono ?_; rintro e w2 ⟨rfl, rfl⟩))
      all_goals (go_wp2_with fail; go_meet)
      all_goals (rw [ISt.drop_none HI.out]; refine ⟨?_, h1, hk1.l_drew⟩; rw [← HB.out, HI.out]; simp; rw [Bool.eq_iff_iff]; simp)
  case rest =>
    obtain ⟨rfl, h, hk⟩ := hcut
    go_upto_if 28 with fail
    go_cut [8] (fun u8 wx => ∃ o s2, u8 = .int .i64 o ∧ IxAt wx bx bm s2 ∧ Keep (fun k => k = bx ∨ k = bm) w wx ∧ (s2.add p c, o) = s.put p c)
    case first =>
      cases B with
      | true =>
        obtain ⟨hc0, hc1, hc2, hc3⟩ := h.cells
        go_wp2_with (go_at_call 16; refine (drop_any bx bm _ (s.drop c).l _ h).mono ?_; rintro e w1 ⟨rfl, h1, hk1⟩)
        go_meet
        have := HB.out
        rw [decide_eq_true_iff] at this
        exact ⟨_, _, rfl, h1, hk.trans hk1, by rw [ISt.put, if_pos this]⟩
      | false =>
        go_wp2_with fail
        go_meet
        have := HB.out
        rw [decide_eq_false_iff_not] at this
        exact ⟨_, _, rfl, h, hk, by rw [ISt.put, if_neg this]⟩
    case rest =>
      clear hk h HB
      obtain ⟨o, s2, rfl, h, hk, hp⟩ := hcut
      have HP := Lib.hid hp
      clear hp
      obtain ⟨hc0, hc1', hc2', hc3⟩ := h.cells
      obtain ⟨w3, hrun, hm3, ht3⟩ := h.2.2.update keyInt Try.underlying68 c (.agg #[.int .u32 p, .int .i64 0, .int .i64 0])
      go_wp2_with fail
      have h3 : IxAt w3 bx bm { s2 with M := fun x => if x = c then some (p, 0, 0) else s2.M x, n := if (s2.M c).isSome then s2.n else s2.n + 1 } := by
        refine ⟨h.1, (ht3.grown.block bx h.lt.1 (fun e => by injection e with e; exact h.1 e)).trans h.2.1, ?_⟩
        have e0 : ((Option.map lval (s2.M c)).isSome) = (s2.M c).isSome := by simp
        rw [e0] at hm3
        exact hm3.congr fun z => by by_cases hz : z = c <;> simp [hz, lval]
      have hk3 := hk.turned ht3 (.inl (.inr rfl))
      clear hrun hm3 ht3
      refine (join_any bx bm _ c s2.f _ h3).mono ?_
      rintro e w4 ⟨⟨v4, rfl⟩, h4, hk4⟩
      have hk5 := hk3.trans hk4
      clear hk4 hk3 h3 hc0 hc1' hc2' hc3
      go_wp2_with fail
      refine (join_any bx bm _ 0 c _ h4).mono ?_
      rintro e w5 ⟨⟨v5, rfl⟩, h5, hk6⟩
      go_wp2_with fail
      go_ret2
      rw [← HP.out]
      exact ⟨rfl, h5, hk5.trans hk6⟩

theorem put_bad (x : Option Addr) (p c : Int) (hc : c < 1 ∨ 65536 < c) (w : World) :
    Calls Try.prog 17 #[.pointer x, .int .u32 p, .int .i64 c] w fun e w' => e = .returned (.tuple #[.int .i64 0, .int .i64 1]) ∧ w = w' := by
  rcases hc with h | h
  · go_enter Try.func17, Try.ntmps17
    go_wp2
    go_ret2
    exact ⟨rfl, rfl⟩
  · have h1 : ¬ c < 1 := by omega
    go_enter Try.func17, Try.ntmps17
    go_wp2
    go_ret2
    exact ⟨rfl, rfl⟩
theorem new_bad (n : Int) (hn : n < 1 ∨ 4096 < n) (w : World) :
    Calls Try.prog 18 #[.int .i64 n] w fun e w' => e = .returned (.tuple #[.pointer none, .int .i64 1]) ∧ w = w' := by
  rcases hn with h | h
  · go_enter Try.func18, Try.ntmps18
    go_wp2
    go_ret2
    exact ⟨rfl, rfl⟩
  · have h1 : ¬ n < 1 := by omega
    go_enter Try.func18, Try.ntmps18
    go_wp2
    go_ret2
    exact ⟨rfl, rfl⟩
def ISt.empty (n : Int) : ISt := { cap := n, M := fun _ => none, n := 0, f := 0, l := 0 }
theorem new_any (n : Int) (h1 : 1 ≤ n) (h2 : n ≤ 4096) (w : World) :
    Calls Try.prog 18 #[.int .i64 n] w fun e w' => ∃ bx bm, e = .returned (.tuple #[.pointer (some ⟨bx, 0, none⟩), .int .i64 0]) ∧ IxAt w' bx bm (ISt.empty n) ∧ w.heap.size ≤ bx ∧ w.heap.size ≤ bm ∧ Below w.heap.size w w' := by
  have hmm := @run_makeMap Try.prog
  go_enter Try.func18, Try.ntmps18
  go_wp2
  go_ret2
  refine ⟨w.heap.size + 1, w.heap.size, rfl, ⟨by omega, ?_, ?_⟩, by omega, by omega, ((Below.refl _ w).alloc (Nat.le_refl _) _).alloc (by simp) _⟩
  · have h := heap_alloc_new (w.alloc (Obj.map #[] 0)) (.cells #[.int .i64 n, .map (some w.heap.size), .int .i64 0, .int .i64 0] 70)
    rw [World.size_alloc] at h
    exact h
  · exact (MapIs.made w _).alloc _
end Go.Proofs.Ytnehbcopbioenaa
