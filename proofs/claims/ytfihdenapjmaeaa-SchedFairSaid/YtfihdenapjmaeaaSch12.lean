/- Layer 37's New, Urgent, Next. Conditions: at most 1000 tasks. -/
import Derived.Test.YtfihdenapjmaeaaSch11
namespace Go.Proofs.Ytfihdenapjmaeaa
set_option linter.unusedVariables false
set_option linter.unusedSimpArgs false
open Go.RowKit
theorem rd_block {w : World} {B size n : Nat} {A : Option Addr} {xs : List Value} (h : Rd w B size A n xs) (hn : 0 < n) : ∀ a, A = some a → a.block < B := by
  obtain ⟨b, off, rfl, hb, _⟩ := h.2 hn
  intro a ha
  have := Option.some.inj ha
  subst this; exact hb
/-- which block a slice of no element names does not matter -/
theorem Rd.nilA {w : World} {B size n : Nat} {A : Option Addr} {xs : List Value} (h : Rd w B size A n xs) (hB : B ≤ w.heap.size) {g : Nat} (hg : B ≤ g) : ∀ w', w.grownBy w' (some g) → Rd w' B size A n xs := by
  intro w' hg'
  refine ⟨h.1, fun hn => ?_⟩
  obtain ⟨b, off, e, hb, hc⟩ := h.2 hn
  exact ⟨b, off, e, hb, fun j u hu => far_grown hg' (hc j u hu) (by show b < w.heap.size; omega) (by show b ≠ g; omega)⟩
theorem Cr5.of_own {w : World} {base c : Nat} {A : Option Addr} {cr : List Int} (h : w.ownsRow base 3 1 (.slice A 5 c) 5 (ivs cr)) (hl : cr.length = 5) : ∃ g, A = some ⟨g, 0, none⟩ ∧ base ≤ g ∧ Cr5 w g cr := by
  obtain ⟨g, cap, hv, hb, hlt⟩ := h.form (by omega)
  have hA : A = some ⟨g, 0, none⟩ := by injection hv
  subst hA
  refine ⟨g, rfl, hb, hl, hlt, fun t ht => ?_, fun t ht => h.frozenAt t⟩
  have := h.cells (g := g) rfl t (.int .i64 (cr.getD t 0)) (by simp [List.getD, show t < cr.length by omega])
  rwa [Addr.add_lit, Nat.zero_add] at this
theorem range_lt (n : Nat) : ∀ k ∈ List.range n, k < n := fun k hk => List.mem_range.1 hk
set_option maxRecDepth 100000 in
theorem new_any (w : World) : Calls Try.prog 23 #[] w fun e w' => ∃ g, e = .returned (.agg #[.slice (some ⟨g, 0, none⟩) 5 5]) ∧ Cr5 w' g [0, 0, 0, 0, 0] ∧ w.heap.size ≤ g ∧ Below w.heap.size w w' := by
  have hmk : ∀ W : World, (Instr.makeSlice 22 (.int .i64 5) (.int .i64 5)).run Try.prog W = .ok (.slice (some ⟨W.heap.size, 0, none⟩) 5 5) (W.alloc (.cells #[.int .i64 0, .int .i64 0, .int .i64 0, .int .i64 0, .int .i64 0] 3)) := fun W => by kernel_rfl
  go_enter Try.func23, Try.ntmps23
  go_wp2
  have hb : Below w.heap.size w ((w.alloc (.cells #[.slice (some ⟨w.heap.size + 1, 0, none⟩) 5 5] 26)).alloc (.cells #[.int .i64 0, .int .i64 0, .int .i64 0, .int .i64 0, .int .i64 0] 3)) := ((Below.refl _ _).alloc (Nat.le_refl _) _).alloc (by simp) _
  have hR := IsRow.new (w.alloc (.cells #[.slice (some ⟨w.heap.size + 1, 0, none⟩) 5 5] 26)) 3 (ivs [0, 0, 0, 0, 0])
  rw [alloc_size1] at hR
  have hC : Cr5 ((w.alloc (.cells #[.slice (some ⟨w.heap.size + 1, 0, none⟩) 5 5] 26)).alloc (.cells #[.int .i64 0, .int .i64 0, .int .i64 0, .int .i64 0, .int .i64 0] 3)) (w.heap.size + 1) [0, 0, 0, 0, 0] := by
    refine ⟨rfl, by rw [alloc_size1, alloc_size1]; omega, fun t ht => ?_, fun t ht => hR.frozen t⟩
    have := hR.cell t
    refine this.trans ?_
    match t, ht with
    | 0, _ => rfl
    | 1, _ => rfl
    | 2, _ => rfl
    | 3, _ => rfl
    | 4, _ => rfl
  exact bodyPost_ret (v := .agg #[.slice (some ⟨w.heap.size + 1, 0, none⟩) 5 5]) (by simp [results, Try.results23, go_sem]) rfl ⟨w.heap.size + 1, rfl, hC, by omega, hb⟩
set_option maxHeartbeats 800000 in
theorem Urgent_any (A : Option Addr) (n c : Nat) (L : List Sc.Tk) (hL : L.length = n) (hn : n ≤ 1000) (B : Nat) (w : World) (hr : Rd w B 5 A n (L.flatMap tcs)) (hB : B ≤ w.heap.size) : Calls Try.prog 18 #[.slice A n c] w fun e w' => e = .returned (.int .i64 (Sc.best L (List.range n) 1 Sc.urg)) ∧ Below w.heap.size w w' := by
  have HE := Lib.hid (every_any A n c hn w)
  have HB := Lib.hid (fun (A2 : Option Addr) (c2 : Nat) (w1 : World) (h1 : w1.ownsRow w.heap.size 3 1 (.slice A2 n c2) n (nvs (List.range n))) (hb1 : Below w.heap.size w w1) => best_urg A n c L hL hn A2 n c2 (List.range n) List.length_range hn (range_lt n) B w1.heap.size w1 (hr.below (hb1.mono hB)) (Rd.of_own h1) (Nat.le_trans hB hb1.size) (Nat.le_refl _))
  clear hr
  go_enter Try.func18, Try.ntmps18
  go_wp2_with (first
    | (go_at_call 26; refine HE.out.mono ?_; rintro e w1 ⟨A2, c2, rfl, own2, b1⟩)
    | (go_at_call 30; refine (HB.out A2 c2 w1 own2 b1).mono ?_; rintro e w2 ⟨rfl, b2⟩))
  go_ret
  exact ⟨rfl, b1.trans (b2.mono b1.size)⟩
/-- Next's results -/
def NextOk (cr : List Int) (L : List Sc.Tk) (n : Nat) (w : World) (e : Ending) (w' : World) : Prop := ∃ g c', e = .returned (.tuple #[.agg #[.slice (some ⟨g, 0, none⟩) 5 c'], .int .i64 (Sc.next cr L (List.range n)).2, .int .i64 0]) ∧ Cr5 w' g (Sc.next cr L (List.range n)).1 ∧ w.heap.size ≤ g ∧ Below w.heap.size w w'
theorem Next_bad (A0 : Option Addr) (n0 c0 : Nat) (cr : List Int) (hl : cr.length = n0) (B0 : Nat) (t : Value) (w : World) (hr0 : Rd w B0 1 A0 n0 (ivs cr)) (hB0 : B0 ≤ w.heap.size) (hv : vldB cr = false) :
    Calls Try.prog 11 #[.agg #[.slice A0 n0 c0], t] w fun e w' => e = .returned (.tuple #[.agg #[.slice none 0 0], .int .i64 0, .int .i64 1]) ∧ Below w.heap.size w w' := by
  have HV := Lib.hid (fun W (hW : Below w.heap.size w W) => valid_any A0 n0 c0 cr hl B0 W (hr0.below (hW.mono hB0)) (Nat.le_trans hB0 hW.size))
  rw [hv] at HV
  have hb : Below w.heap.size w ((w.alloc (.cells #[.slice A0 n0 c0] 26)).alloc (.cells #[.slice none 0 0] 26)) := ((Below.refl _ _).alloc (Nat.le_refl _) _).alloc (by simp) _
  clear hr0 hv
  go_enter Try.func11, Try.ntmps11
  go_wp2_with (go_at_call 14; refine (HV.out _ hb).mono ?_; rintro e w1 ⟨rfl, b1⟩; have k0 := b1.cell (p := ⟨w.heap.size + 1, 0, none⟩) (by simp); have f0 := b1.frozen (p := ⟨w.heap.size + 1, 0, none⟩) (by simp))
  exact bodyPost_ret (v := .tuple #[.agg #[.slice none 0 0], .int .i64 0, .int .i64 1]) (by simp [results, Try.results11, go_sem, k0, f0]) rfl ⟨rfl, (hb.trans (b1.mono hb.size)).setCell (by simp) _⟩
set_option maxRecDepth 100000 in
set_option maxHeartbeats 1600000 in
theorem Next_ok (A0 : Option Addr) (c0 : Nat) (cr : List Int) (hl : cr.length = 5) (B0 : Nat) (A : Option Addr) (n c : Nat) (L : List Sc.Tk) (hL : L.length = n) (hn : n ≤ 1000) (B : Nat) (w : World) (hr : Rd w B 5 A n (L.flatMap tcs)) (hB : B ≤ w.heap.size) (hr0 : Rd w B0 1 A0 5 (ivs cr)) (hB0 : B0 ≤ w.heap.size) (hv : vldB cr = true) :
    Calls Try.prog 11 #[.agg #[.slice A0 5 c0], .slice A n c] w (NextOk cr L n w) := by
  have HV := Lib.hid (fun W (hW : Below w.heap.size w W) => valid_any A0 5 c0 cr hl B0 W (hr0.below (hW.mono hB0)) (Nat.le_trans hB0 hW.size))
  rw [hv] at HV
  have hvld := (vldB_iff cr).1 hv
  have HCL := Lib.hid (fun W (hW : Below w.heap.size w W) => cloneI A0 5 c0 cr hl (by omega) B0 W (hr0.below (hW.mono hB0)) (Nat.le_trans hB0 hW.size))
  have HEV := Lib.hid (fun W => every_any A n c hn W)
  have HVL := Lib.hid hvld
  have HR := Lib.hid hr
  have hb : Below w.heap.size w ((w.alloc (.cells #[.slice A0 5 c0] 26)).alloc (.cells #[.slice none 0 0] 26)) := ((Below.refl _ _).alloc (Nat.le_refl _) _).alloc (by simp) _
  clear hr0 hv hr hvld
  go_enter Try.func11, Try.ntmps11
  go_wp2_with (first
    | (go_at_call 14; refine (HV.out _ hb).mono ?_; rintro e w1 ⟨rfl, b1⟩; have l01 : w.heap.size + 2 ≤ w1.heap.size := (by have := b1.size; simpa using this); have k0 := b1.cell (p := ⟨w.heap.size, 0, none⟩) (by simp; omega); have hb1 := hb.trans (b1.mono hb.size))
    | (go_at_call 24; refine (HCL.out _ hb1).mono ?_; rintro e w2 ⟨A2, c2, rfl, own2, b2⟩; have hb2 := hb1.trans (b2.mono hb1.size); have l1 := b1.size; have l2 := b2.size; have hz1 := hb1.size; have z2 := hb2.size))
  obtain ⟨g, rfl, hg, C2⟩ := Cr5.of_own own2 hl
  obtain ⟨w3, hw3⟩ : ∃ w3, w2.alloc (.cells #[.slice (some ⟨g, 0, none⟩) 5 c2] 26) = w3 := ⟨_, rfl⟩
  have C3 : Cr5 w3 g cr := by rw [← hw3]; exact C2.alloc _
  have X3 : w3.cell? ⟨w2.heap.size, 0, none⟩ = some (.slice (some ⟨g, 0, none⟩) 5 c2) := by rw [← hw3, cell_of_row _ _ _ _ _ _ (heap_alloc_new w2 _)]; rfl
  have F3 : w3.frozen? ⟨w2.heap.size, 0, none⟩ = false := by rw [← hw3]; simp
  have Z3 : w2.heap.size + 1 = w3.heap.size := by rw [← hw3, alloc_size1]
  have B3 : Below w.heap.size w w3 := by rw [← hw3]; exact hb2.alloc hb2.size _
  have K4 : w3.cell? ⟨w.heap.size + 1, 0, none⟩ = some (.slice none 0 0) := by
    rw [← hw3, World.cell?_alloc_lt _ _ _ (by show w.heap.size + 1 < w2.heap.size; omega), b2.cell (p := ⟨w.heap.size + 1, 0, none⟩) (by show w.heap.size + 1 < w1.heap.size; omega), b1.cell (p := ⟨w.heap.size + 1, 0, none⟩) (by simp)]
    simp
  have F4 : w3.frozen? ⟨w.heap.size + 1, 0, none⟩ = false := by
    have e2 := b2.frozen (p := ⟨w.heap.size + 1, 0, none⟩) (by show w.heap.size + 1 < w1.heap.size; omega)
    have e1 := b1.frozen (p := ⟨w.heap.size + 1, 0, none⟩) (by simp)
    have e0 : w3.frozen? ⟨w.heap.size + 1, 0, none⟩ = w2.frozen? ⟨w.heap.size + 1, 0, none⟩ := by rw [← hw3]; exact World.frozen?_of_block (RowKit.Below.heap_alloc w2 _ _ (by show w.heap.size + 1 < w2.heap.size; omega))
    rw [e0, e2, e1]; simp
  rw [hw3]
  have HX3 := Lib.hid X3
  have HF3 := Lib.hid F3
  have HK4 := Lib.hid K4
  have HF4 := Lib.hid F4
  have hg3 : g < w2.heap.size := C2.lt
  have HZ3 := Lib.hid Z3
  have hgw : w.heap.size + 2 ≤ g := by omega
  clear hw3 X3 F3 K4 F4 Z3 own2 C2 k0
  have HRA := Lib.hid (fun (W W' : World) (h : Below w.heap.size w W) (h' : W.grownBy W' (some g)) => (HR.out.below (h.mono hB)).nilA (Nat.le_trans hB h.size) (show B ≤ g by omega) W' h')
  have hv0 : Below w3.heap.size w3 w3.drew := (Below.refl _ _).drew
  refine wp_region_late (fun W => Below w3.heap.size w3 W) [4, 5] (by kernel_rfl) (hv0) (fun hHeld => ?_)
  refine wpAnyL_take (i := 0) (oi := { dst := some 17, op := Op.load 26 (Operand.tmp 7), type := 26, pos := "schedule.go:140", after := #[], guard := none }) (v := ?v0_1) rfl (by kernel_rfl) (by kernel_rfl) (by kernel_rfl) (by kernel_rfl) (fun _ _ _ h => h) (Or.inl ⟨by rfl, ?h0_1⟩) (by assumption) ?r0_1
  case h0_1 =>
    intro W hSW
    try dsimp only at hSW
    have hcc := (hSW.cell (p := ⟨w2.heap.size, 0, none⟩) (by show w2.heap.size < w3.heap.size; have := HZ3.out; omega)).trans HX3.out
    go_simp
    try with_reducible rfl
  try simp only [Act.put, List.setIfInBounds_toArray, List.set_cons_zero, List.set_cons_succ]
  refine wpAnyL_take (i := 1) (oi := { dst := some 18, op := Op.move (Operand.tmp 1), type := 30, pos := "schedule.go:140", after := #[], guard := none }) (v := ?v1_2) rfl (by kernel_rfl) (by kernel_rfl) (by kernel_rfl) (by kernel_rfl) (fun _ _ _ h => h) (Or.inl ⟨by rfl, ?h1_2⟩) (by assumption) ?r1_2
  case h1_2 =>
    intro W hSW
    try dsimp only at hSW
    go_simp
    try with_reducible rfl
  try simp only [Act.put, List.setIfInBounds_toArray, List.set_cons_zero, List.set_cons_succ]
  refine wpAnyL_take (i := 2) (oi := { dst := some 19, op := Op.move (Operand.tmp 1), type := 30, pos := "schedule.go:140", after := #[], guard := none }) (v := ?v2_3) rfl (by kernel_rfl) (by kernel_rfl) (by kernel_rfl) (by kernel_rfl) (fun _ _ _ h => h) (Or.inl ⟨by rfl, ?h2_3⟩) (by assumption) ?r2_3
  case h2_3 =>
    intro W hSW
    try dsimp only at hSW
    go_simp
    try with_reducible rfl
  try simp only [Act.put, List.setIfInBounds_toArray, List.set_cons_zero, List.set_cons_succ]
  refine wpAnyL_ready (rs := [3]) (by kernel_rfl) (by simp) ?_
  refine AllReadyL.cons (o := { dst := some 20, op := Op.call { callee := Callee.value (Operand.func 26), args := #[Operand.tmp 19], argTypes := #[30] }, type := 22, pos := "schedule.go:140", after := #[{ on := 2, ground := Ground.data }], guard := none }) rfl (fun K hK => ?_) AllReadyL.nil
  go_simp
  refine (HEV.out _).mono ?_
  rintro e w4 ⟨A4, c4, rfl, own4, b4⟩
  have hv4 : Below w3.heap.size w3 w4 := hv0.trans (b4.mono hv0.size)
  go_wp2_with fail
  refine hK.out _ _ (hv4) (fun hHeld => ?_)
  clear hK K
  try simp only [Act.put, List.setIfInBounds_toArray, List.set_cons_zero, List.set_cons_succ]
  refine wpAnyL_ready (rs := [4]) (by kernel_rfl) (by simp) ?_
  refine AllReadyL.late (o := { dst := some 21, op := Op.call { callee := Callee.value (Operand.func 25), args := #[Operand.tmp 17, Operand.tmp 18, Operand.tmp 20], argTypes := #[26, 30, 22] }, type := 3, pos := "schedule.go:140", after := #[{ on := 0, ground := Ground.data }, { on := 1, ground := Ground.data }, { on := 3, ground := Ground.data }, { on := 3, ground := Ground.chain }], guard := none }) rfl (by rfl) (fun K hK => ?_) AllReadyL.nil
  go_simp
  have q4 := B3.trans (hv4.mono B3.size)
  have l4 := hv4.size
  refine (next_any g c2 cr HVL.out A n c L hL hn A4 n c4 (List.range n) List.length_range hn (range_lt n) B w4.heap.size w4 (HR.out.below (q4.mono hB)) (Rd.of_own own4) (Nat.le_trans hB q4.size) (Nat.le_refl _) (fun W' h' => HRA.out w4 W' q4 h') (fun W' h' => (Rd.of_own own4).grown_far h' (Nat.le_refl _) (fun a ha e => by have := (own_block_lt own4 a ha).1; have := Option.some.inj e; have hz := HZ3.out; have : w3.heap.size ≤ g := (by simp at *; omega); omega)) (C3.below hv4)).mono ?_
  rintro e w5 ⟨rfl, C5, G5⟩
  have hv5 := hv4
  go_wp2_with fail
  refine hK.out _ _ ?_
  clear hK K
  try simp only [Act.put, List.setIfInBounds_toArray, List.set_cons_zero, List.set_cons_succ]
  refine wpAnyL_takeE (i := 5) (oi := { dst := some 8, op := Op.assign (Operand.tmp 21), type := 3, pos := "schedule.go:140", after := #[{ on := 4, ground := Ground.data }, { on := 4, ground := Ground.chain }, { on := 0, ground := Ground.phase }, { on := 1, ground := Ground.phase }, { on := 2, ground := Ground.phase }, { on := 3, ground := Ground.phase }, { on := 4, ground := Ground.phase }], guard := none }) (v := ?v5_4) rfl (by kernel_rfl) (by kernel_rfl) (by kernel_rfl) (by kernel_rfl) (fun _ _ _ h => h) (Or.inl ⟨by rfl, ?h5_4⟩) ?r5_4
  case h5_4 =>
    intro W
    go_simp
    try with_reducible rfl
  try simp only [Act.put, List.setIfInBounds_toArray, List.set_cons_zero, List.set_cons_succ]
  refine wpAnyL_done (by kernel_rfl) ?_ _
  have X5 := far_grown G5 ((hv4.cell (p := ⟨w2.heap.size, 0, none⟩) (by show w2.heap.size < w3.heap.size; have := HZ3.out; omega)).trans HX3.out) (by show w2.heap.size < w4.heap.size; have := HZ3.out; omega) (by show w2.heap.size ≠ g; omega)
  have K5 := far_grown G5 ((hv4.cell (p := ⟨w.heap.size + 1, 0, none⟩) (by show w.heap.size + 1 < w3.heap.size; have := HZ3.out; omega)).trans HK4.out) (by show w.heap.size + 1 < w4.heap.size; have := HZ3.out; omega) (by show w.heap.size + 1 ≠ g; omega)
  have F5 : w5.frozen? ⟨w.heap.size + 1, 0, none⟩ = false := ((World.frozen?_of_block (a := ⟨w.heap.size + 1, 0, none⟩) (G5.block (w.heap.size + 1) (by have := HZ3.out; omega) (fun e => by have := Option.some.inj e; omega))).trans (hv4.frozen (p := ⟨w.heap.size + 1, 0, none⟩) (by show w.heap.size + 1 < w3.heap.size; have := HZ3.out; omega))).trans HF4.out
  have BF : Below w.heap.size w w5 := q4.grown G5 q4.size (fun k hk => by have := Option.some.inj hk; omega)
  have C6 : Cr5 (w5.setCell ⟨w.heap.size + 1, 0, none⟩ (.slice (some ⟨g, 0, none⟩) 5 c2)) g (Sc.next cr L (List.range n)).1 := C5.keep (Below.heap_setCell _ _ _ _ (fun e => by have : g = w.heap.size + 1 := e; omega))
  go_wp2
  exact bodyPost_ret (v := .tuple #[.agg #[.slice (some ⟨g, 0, none⟩) 5 c2], .int .i64 (Sc.next cr L (List.range n)).2, .int .i64 0]) (by simp [results, Try.results11, go_sem, K5]) rfl ⟨g, c2, rfl, C6, by omega, BF.setCell (by simp) _⟩
end Go.Proofs.Ytfihdenapjmaeaa
