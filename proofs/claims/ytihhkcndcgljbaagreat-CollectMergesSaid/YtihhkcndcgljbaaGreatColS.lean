/- The examples that every law of layer 25 plays first. No condition. -/
import Derived.Test.YtihhkcndcgljbaaGreatColOT
namespace Go.Proofs.YtihhkcndcgljbaaGreat
set_option linter.unusedVariables false
set_option linter.unusedSimpArgs false
open Go.RowKit
def l25 : List Chk.Ck := Chk.run [] ops25
def ss25 : List (Int × Int) := Col.lss 0 rs25
def cf25 : S.Str.Cfg := ⟨9, 1, 3, 1, 1, 1⟩
def ldC25 : List Value := [.int .i64 0, .int .i64 0, .int .i64 3, .int .i64 0, .int .i64 1, .int .i64 0, .int .i64 1, .int .i64 0, .int .i64 1, .int .i64 2, .int .i64 0, .int .i64 1]
def stC25 : List Value := [.int .i64 4, .int .i64 1, .int .i64 0, .int .i64 1, .int .i64 0, .int .i64 1, .int .i64 0, .int .i64 5, .int .i64 2, .int .i64 0, .int .i64 2, .int .i64 0, .int .i64 1, .int .i64 1]
theorem s25_ss : ss25.length = 4 := by decide +kernel
theorem s25_ld : ldLs l25 ss25 = ldC25 := by kernel_rfl
theorem s25_emp : Col.emp l25 ss25 = [(0, 1)] := by decide +kernel
theorem s25_next : Col.nextF ss25 l25 3 = some ((1, 0), (2, 0)) := by decide +kernel
theorem s25_none : Col.nextF ss25 l25 1 = none := by decide +kernel
theorem s25_m1 : Col.mgF l25 (1, 0) (2, 0) (0, 1) 3 = .ok := by decide +kernel
theorem s25_m2 : Col.mgF l25 (1, 0) (2, 0) (0, 1) 1 = .lim := by decide +kernel
theorem s25_m3 : Col.mgF l25 (1, 0) (1, 0) (0, 1) 3 = .arg := by decide +kernel
theorem s25_both : Col.both l25 (1, 0) (2, 0) = [4, 5] := by decide +kernel
theorem s25_sts : (Col.sts l25 [4, 5]).flatMap (stpC (0, 1)) = stC25 := by kernel_rfl
theorem s25_b1 : Col.bound 5 3 = 4 := by decide +kernel
theorem s25_b2 : Col.bound 0 3 = 0 := by decide +kernel
theorem s25_code : ∀ r ∈ rs25, r.code = 0 := by decide +kernel
theorem s25_sm : Col.sm (Col.usN rs25) none 3 = some 1 := by decide +kernel
theorem s25_fr : ¬ ((Col.frS cf25 rs25 3 : Int) - (Col.frF cf25 (rs25.getD 1 S.Str.free) : Int) < Col.usN rs25 1) := by decide +kernel
theorem s25_eqL (W : World) : (Op.equalIn 10000 95 (.agg #[.int .i64 0, .int .i64 0, .int .i64 3]) (.agg #[.int .i64 0, .int .i64 0, .int .i64 3])).run Tryz.prog W = .ok true W := by kernel_rfl
theorem s25_eqP (W : World) : (Op.equalIn 10000 57 (.agg #[.int .i64 5, .int .i64 2, .int .i64 0, .int .i64 2, .int .i64 0, .int .i64 1, .int .i64 1]) (.agg #[.int .i64 5, .int .i64 2, .int .i64 0, .int .i64 2, .int .i64 0, .int .i64 1, .int .i64 1])).run Tryz.prog W = .ok true W := by kernel_rfl
theorem s25_eqS (r g : Int) (W : World) : (Op.equalIn 10000 35 (.agg #[.int .i64 r, .int .i64 g]) (.agg #[.int .i64 r, .int .i64 g])).run Tryz.prog W = .ok true W := (S.run_eq2 9998 r g r g W S.stF (by kernel_rfl)).trans (by simp)
section
variable {w : World} {F T : Nat → Prop} {a : Nat} {t : TM}
theorem s25_loads (ht : TAt w F T a t l25) {A : Option Addr} {D : List S.RR} (h : S.RowsAt w w.heap.size A 3 D rs25) :
    Calls Tryz.prog 27 #[.slice A 3 3, .pointer (some ⟨a, 0, none⟩), .int .i64 0] w fun e w' => ∃ A' c', e = .returned (.slice A' 4 c') ∧ Rd w' w'.heap.size 3 A' 4 ldC25 ∧ Below w.heap.size w w' := by
  refine (loads_any h (Nat.le_refl _) (Nat.le_refl _) ht 0 ss25 rfl 4 s25_ss (by omega)).mono fun e w' hh => ?_
  obtain ⟨A', c', he, ho, hb⟩ := hh
  rw [s25_ld] at ho
  exact ⟨A', c', he, Rd.of_own ho, hb⟩
theorem s25_empty (ht : TAt w F T a t l25) {A : Option Addr} {D : List S.RR} (h : S.RowsAt w w.heap.size A 3 D rs25) :
    Calls Tryz.prog 29 #[.slice A 3 3, .pointer (some ⟨a, 0, none⟩), .int .i64 0] w fun e w' => ∃ A' c', e = .returned (.slice A' 1 c') ∧ Rd w' w'.heap.size 2 A' 1 [.int .i64 0, .int .i64 1] ∧ Below w.heap.size w w' := by
  exact empty_any h (Nat.le_refl _) (Nat.le_refl _) ht 0 ss25 rfl (by rw [s25_ss]; omega) [(0, 1)] s25_emp 1 rfl
theorem s25_next3 (ht : TAt w F T a t l25) {A : Option Addr} {D : List S.RR} (h : S.RowsAt w w.heap.size A 3 D rs25) :
    Calls Tryz.prog 8 #[.slice A 3 3, .pointer (some ⟨a, 0, none⟩), .int .i64 0, .int .i64 3] w fun e w' => e = .returned (.tuple #[.agg #[.int .i64 1, .int .i64 0], .agg #[.int .i64 2, .int .i64 0], .bool true]) ∧ Below w.heap.size w w' := by
  have := next_any h (Nat.le_refl _) (Nat.le_refl _) ht 0 ss25 rfl (by rw [s25_ss]; omega) 3
  rw [s25_next] at this
  exact this
theorem s25_next1 (ht : TAt w F T a t l25) {A : Option Addr} {D : List S.RR} (h : S.RowsAt w w.heap.size A 3 D rs25) :
    Calls Tryz.prog 8 #[.slice A 3 3, .pointer (some ⟨a, 0, none⟩), .int .i64 0, .int .i64 1] w fun e w' => e = .returned (.tuple #[.agg #[.int .i64 0, .int .i64 0], .agg #[.int .i64 0, .int .i64 0], .bool false]) ∧ Below w.heap.size w w' := by
  have := next_any h (Nat.le_refl _) (Nat.le_refl _) ht 0 ss25 rfl (by rw [s25_ss]; omega) 1
  rw [s25_none] at this
  exact this
theorem s25_merge1 (ht : TAt w F T a t l25) :
    Calls Tryz.prog 13 #[.pointer (some ⟨a, 0, none⟩), .agg #[.int .i64 1, .int .i64 0], .agg #[.int .i64 2, .int .i64 0], .agg #[.int .i64 0, .int .i64 1], .int .i64 3] w fun e w' => ∃ A' c', e = .returned (.tuple #[.slice A' 2 c', .int .i64 0]) ∧ Rd w' w'.heap.size 7 A' 2 stC25 ∧ Below w.heap.size w w' := by
  have := merge_any ht 1 0 2 0 0 1 3
  rw [s25_m1, s25_both] at this
  unfold MgIs at this
  dsimp only at this
  rw [s25_sts] at this
  exact this.mono fun e w' ⟨A', c', he, ho, hb⟩ => ⟨A', c', he, Rd.of_own ho, hb⟩
theorem s25_merge2 (ht : TAt w F T a t l25) :
    Calls Tryz.prog 13 #[.pointer (some ⟨a, 0, none⟩), .agg #[.int .i64 1, .int .i64 0], .agg #[.int .i64 2, .int .i64 0], .agg #[.int .i64 0, .int .i64 1], .int .i64 1] w fun e w' => e = .returned (.tuple #[.slice none 0 0, .int .i64 2]) ∧ Below w.heap.size w w' := by
  have := merge_any ht 1 0 2 0 0 1 1
  rw [s25_m2] at this
  exact this
theorem s25_merge3 (ht : TAt w F T a t l25) :
    Calls Tryz.prog 13 #[.pointer (some ⟨a, 0, none⟩), .agg #[.int .i64 1, .int .i64 0], .agg #[.int .i64 1, .int .i64 0], .agg #[.int .i64 0, .int .i64 1], .int .i64 3] w fun e w' => e = .returned (.tuple #[.slice none 0 0, .int .i64 1]) ∧ Below w.heap.size w w' := by
  have := merge_any ht 1 0 1 0 0 1 3
  rw [s25_m3] at this
  exact this
theorem s25_vacate {A : Option Addr} {D : List S.RR} (h : S.RowsAt w w.heap.size A 3 D rs25) :
    Calls Tryz.prog 31 #[.agg #[.int .i64 9, .int .i64 1, .int .i64 3, .int .i64 1, .int .i64 1, .int .i64 1], .slice A 3 3, .int .i64 0] w fun e w' => e = .returned (.tuple #[.int .i64 1, .bool true]) ∧ Below w.heap.size w w' :=
  vacate25 cf25 h (Nat.le_refl _) (Nat.le_refl _) s25_code (by omega) (by omega) 1 s25_sm s25_fr
end
/-- what is kept on the way -/
structure S25 (w0 : World) (F T : Nat → Prop) (a : Nat) (t : TM) (bs : List (Nat × List Value)) (rs : List (Nat × Option Addr × Nat × List Value)) (W : World) : Prop where
  tb : TAt W F T a t l25
  bx : ∀ p ∈ bs, IsRow W p.1 35 p.2
  rd : ∀ p ∈ rs, Rd W W.heap.size p.1 p.2.1 p.2.2.1 p.2.2.2
  be : Below w0.heap.size w0 W
section
variable {w0 W W' : World} {F T : Nat → Prop} {a : Nat} {t : TM} {bs : List (Nat × List Value)} {rs : List (Nat × Option Addr × Nat × List Value)}
theorem S25.below (h : S25 w0 F T a t bs rs W) (hb : Below W.heap.size W W') : S25 w0 F T a t bs rs W' :=
  ⟨h.tb.below hb, fun p hp => (h.bx p hp).below' hb, fun p hp => ((h.rd p hp).below hb).more hb.size, h.be.trans (hb.mono h.be.size)⟩
theorem S25.box (h : S25 w0 F T a t bs rs W) {b : Nat} {l : List Value} (hr : IsRow W b 35 l) : S25 w0 F T a t ((b, l) :: bs) rs W :=
  ⟨h.tb, fun p hp => (List.mem_cons.1 hp).elim (fun e => by rw [e]; exact hr) (fun hp => h.bx p hp), h.rd, h.be⟩
theorem S25.row (h : S25 w0 F T a t bs rs W) {sz : Nat} {A : Option Addr} {n : Nat} {l : List Value} (hr : Rd W W.heap.size sz A n l) : S25 w0 F T a t bs ((sz, A, n, l) :: rs) W :=
  ⟨h.tb, h.bx, fun p hp => (List.mem_cons.1 hp).elim (fun e => by rw [e]; exact hr) (fun hp => h.rd p hp), h.be⟩
end
set_option maxRecDepth 100000 in
set_option maxHeartbeats 16000000 in
theorem sanity25_any (w : World) : Calls Tryz.prog 7 #[] w fun e w' => e = .returned (.bool true) ∧ Below w.heap.size w w' := by
  go_enter Tryz.func7, Tryz.ntmps7
  go_upto_region 4 with (first
    | (go_at_call 26; refine (script25_any _).mono ?_; rintro e w1 ⟨A1, c1, rfl, ho1, b1⟩)
    | (go_at_call 4; refine (build25_any _ _ _ ops25 _ (by omega) ho1).mono ?_; rintro e w2 ⟨a, r, rfl, hp2⟩))
  have hb2 := b1.trans (hp2.b.mono b1.size)
  obtain ⟨F, T, F', T', ⟨t, ht⟩, -⟩ := hp2
  have HS : Hid (S25 w F T a t [] [] w2) := Lib.hid ⟨ht, (fun p hp => by cases hp), (fun p hp => by cases hp), hb2⟩
  clear ho1 b1 hb2 ht
  go_upto_region 5 with (first
    | (go_at_call 28; refine (rows25_any _).mono ?_; rintro e w3 ⟨Ar, Dr, rfl, hr3, b3⟩; replace HS := Lib.hid (HS.out.below b3))
    | (go_at_call 27; refine (s25_loads HS.out.tb hr3).mono ?_; rintro e w4 ⟨A4, c4, rfl, rd4, b4⟩; replace HS := Lib.hid ((HS.out.below b4).row rd4)))
  clear hr3 b3 rd4 b4
  go_upto_region 6 with (first
    | (go_at_call 28; refine (rows25_any _).mono ?_; rintro e w3 ⟨Ar, Dr, rfl, hr3, b3⟩; replace HS := Lib.hid (HS.out.below b3))
    | (go_at_call 29; refine (s25_empty HS.out.tb hr3).mono ?_; rintro e w5 ⟨A5, c5, rfl, rd5, b5⟩; replace HS := Lib.hid ((HS.out.below b5).row rd5)))
  clear hr3 b3 rd5 b5
  go_upto_region 7 with (first
    | (go_at_call 28; refine (rows25_any _).mono ?_; rintro e w3 ⟨Ar, Dr, rfl, hr3, b3⟩; replace HS := Lib.hid (HS.out.below b3))
    | (go_at_call 8; refine (s25_next3 HS.out.tb hr3).mono ?_; rintro e w6 ⟨rfl, b6⟩; replace HS := Lib.hid (HS.out.below b6))
    | (have tk := rzA; refine wpList_allocRow rfl _ rfl _ infoS25 ?_; intro w62 rzB bB zB; clear tk; have rzA2 := rzA.below' bB)
    | (refine wpList_allocRow rfl _ rfl _ infoS25 ?_; intro w61 rzA bA zA)
    | (refine wpList_storeRow rfl _ (.tmp 6) (.tmp 38) rfl (l' := [.int .i64 1, .int .i64 0]) rzA2 rfl rfl sizeS25 rfl rfl ?_; intro w63 rz63 g63 z63; have rzB3 := rzB.grown g63 (fun e => by have := Option.some.inj e; omega))
    | (refine wpList_storeRow rfl _ (.tmp 7) (.tmp 39) rfl (l' := [.int .i64 2, .int .i64 0]) rzB3 rfl (by simp only [zA]; rfl) sizeS25 rfl rfl ?_; intro w64 rz64 g64 z64; have rz63' := rz63.grown g64 (fun e => by have := Option.some.inj e; omega)))
  have hb64 : Below w6.heap.size w6 w64 := ((bA.trans (bB.mono bA.size)).grown g63 (bA.trans (bB.mono bA.size)).size (fun i hi => by have := Option.some.inj hi; omega)).grown g64 (by rw [z63]; exact (bA.trans (bB.mono bA.size)).size) (fun i hi => by have := Option.some.inj hi; omega)
  obtain ⟨x6, h6⟩ : ∃ y, w6.heap.size = y := ⟨_, rfl⟩
  obtain ⟨x7, h7⟩ : ∃ y, x6 + 1 = y := ⟨_, rfl⟩
  rw [show w61.heap.size = x7 by omega] at rz64
  rw [h6] at rz63'
  rw [h6, h7]
  replace HS := Lib.hid (((HS.out.below hb64).box rz63').box rz64)
  clear rzA bA zA rzB bB zB rzA2 rz63 g63 z63 rzB3 rz64 g64 z64 rz63' hb64 hr3 b3 b6 h6 h7
  try simp only [Act.put, List.setIfInBounds_toArray, List.set_cons_zero, List.set_cons_succ]
  go_upto_region 8 with (first
    | (go_at_call 28; refine (rows25_any _).mono ?_; rintro e w3 ⟨Ar, Dr, rfl, hr3, b3⟩; replace HS := Lib.hid (HS.out.below b3))
    | (go_at_call 8; refine (s25_next1 HS.out.tb hr3).mono ?_; rintro e w7 ⟨rfl, b7⟩; replace HS := Lib.hid (HS.out.below b7))
    | (have tk := rzA; refine wpList_allocRow rfl _ rfl _ infoS25 ?_; intro w72 rzB bB zB; clear tk; have rzA2 := rzA.below' bB)
    | (refine wpList_allocRow rfl _ rfl _ infoS25 ?_; intro w71 rzA bA zA)
    | (refine wpList_storeRow rfl _ (.tmp 9) (.tmp 45) rfl (l' := [.int .i64 0, .int .i64 0]) rzA2 rfl rfl sizeS25 rfl rfl ?_; intro w73 rz73 g73 z73; have rzB3 := rzB.grown g73 (fun e => by have := Option.some.inj e; omega))
    | (refine wpList_storeRow rfl _ (.tmp 10) (.tmp 46) rfl (l' := [.int .i64 0, .int .i64 0]) rzB3 rfl (by simp only [zA]; rfl) sizeS25 rfl rfl ?_; intro w74 rz74 g74 z74))
  have hb74 : Below w7.heap.size w7 w74 := ((bA.trans (bB.mono bA.size)).grown g73 (bA.trans (bB.mono bA.size)).size (fun i hi => by have := Option.some.inj hi; omega)).grown g74 (by rw [z73]; exact (bA.trans (bB.mono bA.size)).size) (fun i hi => by have := Option.some.inj hi; omega)
  replace HS := Lib.hid (HS.out.below hb74)
  clear rzA bA zA rzB bB zB rzA2 rz73 g73 z73 rzB3 rz74 g74 z74 hb74 hr3 b3 b7
  try simp only [Act.put, List.setIfInBounds_toArray, List.set_cons_zero, List.set_cons_succ]
  have HX6 := Lib.hid (HS.out.bx (x6, [.int .i64 1, .int .i64 0]) (by simp))
  have HX7 := Lib.hid (HS.out.bx (x7, [.int .i64 2, .int .i64 0]) (by simp))
  have hv0 : Below w74.heap.size w74 w74.drew := (Below.refl _ _).drew
  refine wp_region_held_drew (S := fun W => Below w74.heap.size w74 W) (by kernel_rfl) (hv0) (fun hHeld => ?_)
  refine wpAnyH_take (i := 0) (oi := { dst := some 49, op := Op.move (Operand.tmp 1), type := 27, pos := "law.go:42", after := #[], guard := none }) (v := ?v0_1) rfl (by kernel_rfl) (by kernel_rfl) (by kernel_rfl) (fun _ _ _ h => h) (Or.inl ⟨by rfl, ?h0_1⟩) (by assumption) ?r0_1
  case h0_1 =>
    intro W hSW
    try dsimp only at hSW
    go_simp
    try with_reducible rfl
  try simp only [Act.put, List.setIfInBounds_toArray, List.set_cons_zero, List.set_cons_succ]
  refine wpAnyH_take (i := 1) (oi := { dst := some 50, op := Op.load 35 (Operand.tmp 6), type := 35, pos := "law.go:42", after := #[], guard := none }) (v := ?v1_2) rfl (by kernel_rfl) (by kernel_rfl) (by kernel_rfl) (fun _ _ _ h => h) (Or.inl ⟨by rfl, ?h1_2⟩) (by assumption) ?r1_2
  case h1_2 =>
    intro W hSW
    try dsimp only at hSW
    have c0 := (hSW.cell (p := ⟨x6, 0, none⟩) HX6.out.lt).trans (HX6.out.cell 0)
    have c1 := (hSW.cell (p := ⟨x6, 1, none⟩) HX6.out.lt).trans (HX6.out.cell 1)
    dsimp only [List.getElem?_cons_zero, List.getElem?_cons_succ] at c0 c1
    go_simp
    try with_reducible rfl
  try simp only [Act.put, List.setIfInBounds_toArray, List.set_cons_zero, List.set_cons_succ]
  refine wpAnyH_take (i := 2) (oi := { dst := some 51, op := Op.load 35 (Operand.tmp 7), type := 35, pos := "law.go:42", after := #[], guard := none }) (v := ?v2_3) rfl (by kernel_rfl) (by kernel_rfl) (by kernel_rfl) (fun _ _ _ h => h) (Or.inl ⟨by rfl, ?h2_3⟩) (by assumption) ?r2_3
  case h2_3 =>
    intro W hSW
    try dsimp only at hSW
    have c0 := (hSW.cell (p := ⟨x7, 0, none⟩) HX7.out.lt).trans (HX7.out.cell 0)
    have c1 := (hSW.cell (p := ⟨x7, 1, none⟩) HX7.out.lt).trans (HX7.out.cell 1)
    dsimp only [List.getElem?_cons_zero, List.getElem?_cons_succ] at c0 c1
    go_simp
    try with_reducible rfl
  try simp only [Act.put, List.setIfInBounds_toArray, List.set_cons_zero, List.set_cons_succ]
  refine wpAnyH_ready (rs := [3]) (by kernel_rfl) (by simp) ?_
  refine AllReadyH.cons (o := { dst := some 52, op := Op.call { callee := Callee.value (Operand.func 30), args := #[Operand.const (Value.int IntKind.i64 0), Operand.const (Value.int IntKind.i64 1)], argTypes := #[3, 3] }, type := 35, pos := "law.go:42", after := #[], guard := none }) rfl (fun K hK => ?_) AllReadyH.nil
  go_simp
  refine (at25_any _ _ _).mono ?_
  rintro e w80 ⟨rfl, b80⟩
  have hv80 : Below w74.heap.size w74 w80 := hv0.trans (b80.mono hv0.size)
  clear b80
  refine hK.out _ _ (hv80) (fun hHeld => ?_)
  clear hK K
  try simp only [Act.put, List.setIfInBounds_toArray, List.set_cons_zero, List.set_cons_succ]
  refine wpAnyH_ready (rs := [4]) (by kernel_rfl) (by simp) ?_
  refine AllReadyH.cons (o := { dst := some 53, op := Op.call { callee := Callee.value (Operand.func 13), args := #[Operand.tmp 49, Operand.tmp 50, Operand.tmp 51, Operand.tmp 52, Operand.const (Value.int IntKind.i64 3)], argTypes := #[27, 35, 35, 35, 3] }, type := 52, pos := "law.go:42", after := #[{ on := 0, ground := Ground.data }, { on := 1, ground := Ground.data }, { on := 2, ground := Ground.data }, { on := 3, ground := Ground.data }, { on := 3, ground := Ground.chain }], guard := none }) rfl (fun K hK => ?_) AllReadyH.nil
  go_simp
  refine (s25_merge1 (HS.out.tb.below hv80)).mono ?_
  rintro e w81 ⟨A8, c8, rfl, rd8, b81⟩
  have hv81 : Below w74.heap.size w74 w81 := hv80.trans (b81.mono hv80.size)
  have HSN := Lib.hid ((HS.out.below hv81).row rd8)
  clear b81
  refine hK.out _ _ (hv81) (fun hHeld => ?_)
  clear hK K
  try simp only [Act.put, List.setIfInBounds_toArray, List.set_cons_zero, List.set_cons_succ]
  refine wpAnyH_take (i := 5) (oi := { dst := some 48, op := Op.move (Operand.tmp 53), type := 52, pos := "law.go:42", after := #[{ on := 4, ground := Ground.data }], guard := none }) (v := ?v5_4) rfl (by kernel_rfl) (by kernel_rfl) (by kernel_rfl) (fun _ _ _ h => h) (Or.inl ⟨by rfl, ?h5_4⟩) (by assumption) ?r5_4
  case h5_4 =>
    intro W hSW
    try dsimp only at hSW
    go_simp
    try with_reducible rfl
  try simp only [Act.put, List.setIfInBounds_toArray, List.set_cons_zero, List.set_cons_succ]
  refine wpAnyH_take (i := 6) (oi := { dst := some 54, op := Op.extract (Operand.tmp 48) 0, type := 51, pos := "law.go:42", after := #[{ on := 5, ground := Ground.data }], guard := none }) (v := ?v6_5) rfl (by kernel_rfl) (by kernel_rfl) (by kernel_rfl) (fun _ _ _ h => h) (Or.inl ⟨by rfl, ?h6_5⟩) (by assumption) ?r6_5
  case h6_5 =>
    intro W hSW
    try dsimp only at hSW
    go_simp
    try with_reducible rfl
  try simp only [Act.put, List.setIfInBounds_toArray, List.set_cons_zero, List.set_cons_succ]
  refine wpAnyH_take (i := 7) (oi := { dst := some 55, op := Op.extract (Operand.tmp 48) 1, type := 39, pos := "law.go:42", after := #[{ on := 5, ground := Ground.data }, { on := 8, ground := Ground.gcOnly Departure.lateStores }], guard := none }) (v := ?v7_6) rfl (by kernel_rfl) (by kernel_rfl) (by kernel_rfl) (fun _ _ _ h => h) (Or.inl ⟨by rfl, ?h7_6⟩) (by assumption) ?r7_6
  case h7_6 =>
    intro W hSW
    try dsimp only at hSW
    go_simp
    try with_reducible rfl
  try simp only [Act.put, List.setIfInBounds_toArray, List.set_cons_zero, List.set_cons_succ]
  refine wpAnyH_take (i := 8) (oi := { dst := some 12, op := Op.assign (Operand.tmp 54), type := 51, pos := "law.go:42", after := #[{ on := 6, ground := Ground.data }, { on := 4, ground := Ground.chain }, { on := 0, ground := Ground.phase }, { on := 1, ground := Ground.phase }, { on := 2, ground := Ground.phase }, { on := 3, ground := Ground.phase }, { on := 4, ground := Ground.phase }, { on := 5, ground := Ground.phase }, { on := 6, ground := Ground.phase }, { on := 7, ground := Ground.textOnly Departure.lateStores }], guard := none }) (v := ?v8_7) rfl (by kernel_rfl) (by kernel_rfl) (by kernel_rfl) (fun _ _ _ h => h) (Or.inl ⟨by rfl, ?h8_7⟩) (by assumption) ?r8_7
  case h8_7 =>
    intro W hSW
    try dsimp only at hSW
    go_simp
    try with_reducible rfl
  try simp only [Act.put, List.setIfInBounds_toArray, List.set_cons_zero, List.set_cons_succ]
  refine wpAnyH_take (i := 9) (oi := { dst := some 13, op := Op.assign (Operand.tmp 55), type := 39, pos := "law.go:42", after := #[{ on := 7, ground := Ground.data }, { on := 8, ground := Ground.chain }, { on := 0, ground := Ground.phase }, { on := 1, ground := Ground.phase }, { on := 2, ground := Ground.phase }, { on := 3, ground := Ground.phase }, { on := 4, ground := Ground.phase }, { on := 5, ground := Ground.phase }, { on := 6, ground := Ground.phase }, { on := 7, ground := Ground.phase }, { on := 8, ground := Ground.phase }], guard := none }) (v := ?v9_8) rfl (by kernel_rfl) (by kernel_rfl) (by kernel_rfl) (fun _ _ _ h => h) (Or.inl ⟨by rfl, ?h9_8⟩) (by assumption) ?r9_8
  case h9_8 =>
    intro W hSW
    try dsimp only at hSW
    go_simp
    try with_reducible rfl
  try simp only [Act.put, List.setIfInBounds_toArray, List.set_cons_zero, List.set_cons_succ]
  refine wpAnyH_done (by kernel_rfl) ?_ _
  replace HS := HSN
  clear HSN HX6 HX7 rd8
  go_upto_region 9 with fail
  have HX6 := Lib.hid (HS.out.bx (x6, [.int .i64 1, .int .i64 0]) (by simp))
  have HX7 := Lib.hid (HS.out.bx (x7, [.int .i64 2, .int .i64 0]) (by simp))
  have hv0 : Below w81.heap.size w81 w81.drew := (Below.refl _ _).drew
  refine wp_region_held_drew (S := fun W => Below w81.heap.size w81 W) (by kernel_rfl) (hv0) (fun hHeld => ?_)
  refine wpAnyH_take (i := 0) (oi := { dst := some 57, op := Op.move (Operand.tmp 1), type := 27, pos := "law.go:43", after := #[], guard := none }) (v := ?v0_101) rfl (by kernel_rfl) (by kernel_rfl) (by kernel_rfl) (fun _ _ _ h => h) (Or.inl ⟨by rfl, ?h0_101⟩) (by assumption) ?r0_101
  case h0_101 =>
    intro W hSW
    try dsimp only at hSW
    go_simp
    try with_reducible rfl
  try simp only [Act.put, List.setIfInBounds_toArray, List.set_cons_zero, List.set_cons_succ]
  refine wpAnyH_take (i := 1) (oi := { dst := some 58, op := Op.load 35 (Operand.tmp 6), type := 35, pos := "law.go:43", after := #[], guard := none }) (v := ?v1_102) rfl (by kernel_rfl) (by kernel_rfl) (by kernel_rfl) (fun _ _ _ h => h) (Or.inl ⟨by rfl, ?h1_102⟩) (by assumption) ?r1_102
  case h1_102 =>
    intro W hSW
    try dsimp only at hSW
    have c0 := (hSW.cell (p := ⟨x6, 0, none⟩) HX6.out.lt).trans (HX6.out.cell 0)
    have c1 := (hSW.cell (p := ⟨x6, 1, none⟩) HX6.out.lt).trans (HX6.out.cell 1)
    dsimp only [List.getElem?_cons_zero, List.getElem?_cons_succ] at c0 c1
    go_simp
    try with_reducible rfl
  try simp only [Act.put, List.setIfInBounds_toArray, List.set_cons_zero, List.set_cons_succ]
  refine wpAnyH_take (i := 2) (oi := { dst := some 59, op := Op.load 35 (Operand.tmp 7), type := 35, pos := "law.go:43", after := #[], guard := none }) (v := ?v2_103) rfl (by kernel_rfl) (by kernel_rfl) (by kernel_rfl) (fun _ _ _ h => h) (Or.inl ⟨by rfl, ?h2_103⟩) (by assumption) ?r2_103
  case h2_103 =>
    intro W hSW
    try dsimp only at hSW
    have c0 := (hSW.cell (p := ⟨x7, 0, none⟩) HX7.out.lt).trans (HX7.out.cell 0)
    have c1 := (hSW.cell (p := ⟨x7, 1, none⟩) HX7.out.lt).trans (HX7.out.cell 1)
    dsimp only [List.getElem?_cons_zero, List.getElem?_cons_succ] at c0 c1
    go_simp
    try with_reducible rfl
  try simp only [Act.put, List.setIfInBounds_toArray, List.set_cons_zero, List.set_cons_succ]
  refine wpAnyH_ready (rs := [3]) (by kernel_rfl) (by simp) ?_
  refine AllReadyH.cons (o := { dst := some 60, op := Op.call { callee := Callee.value (Operand.func 30), args := #[Operand.const (Value.int IntKind.i64 0), Operand.const (Value.int IntKind.i64 1)], argTypes := #[3, 3] }, type := 35, pos := "law.go:43", after := #[], guard := none }) rfl (fun K hK => ?_) AllReadyH.nil
  go_simp
  refine (at25_any _ _ _).mono ?_
  rintro e w90 ⟨rfl, b90⟩
  have hv90 : Below w81.heap.size w81 w90 := hv0.trans (b90.mono hv0.size)
  clear b90
  refine hK.out _ _ (hv90) (fun hHeld => ?_)
  clear hK K
  try simp only [Act.put, List.setIfInBounds_toArray, List.set_cons_zero, List.set_cons_succ]
  refine wpAnyH_ready (rs := [4]) (by kernel_rfl) (by simp) ?_
  refine AllReadyH.cons (o := { dst := some 61, op := Op.call { callee := Callee.value (Operand.func 13), args := #[Operand.tmp 57, Operand.tmp 58, Operand.tmp 59, Operand.tmp 60, Operand.const (Value.int IntKind.i64 1)], argTypes := #[27, 35, 35, 35, 3] }, type := 52, pos := "law.go:43", after := #[{ on := 0, ground := Ground.data }, { on := 1, ground := Ground.data }, { on := 2, ground := Ground.data }, { on := 3, ground := Ground.data }, { on := 3, ground := Ground.chain }], guard := none }) rfl (fun K hK => ?_) AllReadyH.nil
  go_simp
  refine (s25_merge2 (HS.out.tb.below hv90)).mono ?_
  rintro e w91 ⟨rfl, b91⟩
  have hv91 : Below w81.heap.size w81 w91 := hv90.trans (b91.mono hv90.size)
  have HSN := Lib.hid (HS.out.below hv91)
  clear b91
  refine hK.out _ _ (hv91) (fun hHeld => ?_)
  clear hK K
  try simp only [Act.put, List.setIfInBounds_toArray, List.set_cons_zero, List.set_cons_succ]
  refine wpAnyH_take (i := 5) (oi := { dst := some 56, op := Op.move (Operand.tmp 61), type := 52, pos := "law.go:43", after := #[{ on := 4, ground := Ground.data }], guard := none }) (v := ?v5_104) rfl (by kernel_rfl) (by kernel_rfl) (by kernel_rfl) (fun _ _ _ h => h) (Or.inl ⟨by rfl, ?h5_104⟩) (by assumption) ?r5_104
  case h5_104 =>
    intro W hSW
    try dsimp only at hSW
    go_simp
    try with_reducible rfl
  try simp only [Act.put, List.setIfInBounds_toArray, List.set_cons_zero, List.set_cons_succ]
  refine wpAnyH_take (i := 6) (oi := { dst := some 62, op := Op.extract (Operand.tmp 56) 0, type := 51, pos := "law.go:43", after := #[{ on := 5, ground := Ground.data }], guard := none }) (v := ?v6_105) rfl (by kernel_rfl) (by kernel_rfl) (by kernel_rfl) (fun _ _ _ h => h) (Or.inl ⟨by rfl, ?h6_105⟩) (by assumption) ?r6_105
  case h6_105 =>
    intro W hSW
    try dsimp only at hSW
    go_simp
    try with_reducible rfl
  try simp only [Act.put, List.setIfInBounds_toArray, List.set_cons_zero, List.set_cons_succ]
  refine wpAnyH_take (i := 7) (oi := { dst := some 63, op := Op.extract (Operand.tmp 56) 1, type := 39, pos := "law.go:43", after := #[{ on := 5, ground := Ground.data }, { on := 8, ground := Ground.gcOnly Departure.lateStores }], guard := none }) (v := ?v7_106) rfl (by kernel_rfl) (by kernel_rfl) (by kernel_rfl) (fun _ _ _ h => h) (Or.inl ⟨by rfl, ?h7_106⟩) (by assumption) ?r7_106
  case h7_106 =>
    intro W hSW
    try dsimp only at hSW
    go_simp
    try with_reducible rfl
  try simp only [Act.put, List.setIfInBounds_toArray, List.set_cons_zero, List.set_cons_succ]
  refine wpAnyH_take (i := 8) (oi := { dst := some 14, op := Op.assign (Operand.tmp 62), type := 51, pos := "law.go:43", after := #[{ on := 6, ground := Ground.data }, { on := 4, ground := Ground.chain }, { on := 0, ground := Ground.phase }, { on := 1, ground := Ground.phase }, { on := 2, ground := Ground.phase }, { on := 3, ground := Ground.phase }, { on := 4, ground := Ground.phase }, { on := 5, ground := Ground.phase }, { on := 6, ground := Ground.phase }, { on := 7, ground := Ground.textOnly Departure.lateStores }], guard := none }) (v := ?v8_107) rfl (by kernel_rfl) (by kernel_rfl) (by kernel_rfl) (fun _ _ _ h => h) (Or.inl ⟨by rfl, ?h8_107⟩) (by assumption) ?r8_107
  case h8_107 =>
    intro W hSW
    try dsimp only at hSW
    go_simp
    try with_reducible rfl
  try simp only [Act.put, List.setIfInBounds_toArray, List.set_cons_zero, List.set_cons_succ]
  refine wpAnyH_take (i := 9) (oi := { dst := some 15, op := Op.assign (Operand.tmp 63), type := 39, pos := "law.go:43", after := #[{ on := 7, ground := Ground.data }, { on := 8, ground := Ground.chain }, { on := 0, ground := Ground.phase }, { on := 1, ground := Ground.phase }, { on := 2, ground := Ground.phase }, { on := 3, ground := Ground.phase }, { on := 4, ground := Ground.phase }, { on := 5, ground := Ground.phase }, { on := 6, ground := Ground.phase }, { on := 7, ground := Ground.phase }, { on := 8, ground := Ground.phase }], guard := none }) (v := ?v9_108) rfl (by kernel_rfl) (by kernel_rfl) (by kernel_rfl) (fun _ _ _ h => h) (Or.inl ⟨by rfl, ?h9_108⟩) (by assumption) ?r9_108
  case h9_108 =>
    intro W hSW
    try dsimp only at hSW
    go_simp
    try with_reducible rfl
  try simp only [Act.put, List.setIfInBounds_toArray, List.set_cons_zero, List.set_cons_succ]
  refine wpAnyH_done (by kernel_rfl) ?_ _
  replace HS := HSN
  clear HSN HX6 HX7
  go_upto_region 10 with fail
  have HX6 := Lib.hid (HS.out.bx (x6, [.int .i64 1, .int .i64 0]) (by simp))
  have HX7 := Lib.hid (HS.out.bx (x7, [.int .i64 2, .int .i64 0]) (by simp))
  have hv0 : Below w91.heap.size w91 w91.drew := (Below.refl _ _).drew
  refine wp_region_held_drew (S := fun W => Below w91.heap.size w91 W) (by kernel_rfl) (hv0) (fun hHeld => ?_)
  refine wpAnyH_take (i := 0) (oi := { dst := some 65, op := Op.move (Operand.tmp 1), type := 27, pos := "law.go:44", after := #[], guard := none }) (v := ?v0_201) rfl (by kernel_rfl) (by kernel_rfl) (by kernel_rfl) (fun _ _ _ h => h) (Or.inl ⟨by rfl, ?h0_201⟩) (by assumption) ?r0_201
  case h0_201 =>
    intro W hSW
    try dsimp only at hSW
    go_simp
    try with_reducible rfl
  try simp only [Act.put, List.setIfInBounds_toArray, List.set_cons_zero, List.set_cons_succ]
  refine wpAnyH_take (i := 1) (oi := { dst := some 66, op := Op.load 35 (Operand.tmp 6), type := 35, pos := "law.go:44", after := #[], guard := none }) (v := ?v1_202) rfl (by kernel_rfl) (by kernel_rfl) (by kernel_rfl) (fun _ _ _ h => h) (Or.inl ⟨by rfl, ?h1_202⟩) (by assumption) ?r1_202
  case h1_202 =>
    intro W hSW
    try dsimp only at hSW
    have c0 := (hSW.cell (p := ⟨x6, 0, none⟩) HX6.out.lt).trans (HX6.out.cell 0)
    have c1 := (hSW.cell (p := ⟨x6, 1, none⟩) HX6.out.lt).trans (HX6.out.cell 1)
    dsimp only [List.getElem?_cons_zero, List.getElem?_cons_succ] at c0 c1
    go_simp
    try with_reducible rfl
  try simp only [Act.put, List.setIfInBounds_toArray, List.set_cons_zero, List.set_cons_succ]
  refine wpAnyH_take (i := 2) (oi := { dst := some 67, op := Op.load 35 (Operand.tmp 6), type := 35, pos := "law.go:44", after := #[], guard := none }) (v := ?v2_203) rfl (by kernel_rfl) (by kernel_rfl) (by kernel_rfl) (fun _ _ _ h => h) (Or.inl ⟨by rfl, ?h2_203⟩) (by assumption) ?r2_203
  case h2_203 =>
    intro W hSW
    try dsimp only at hSW
    have c0 := (hSW.cell (p := ⟨x6, 0, none⟩) HX6.out.lt).trans (HX6.out.cell 0)
    have c1 := (hSW.cell (p := ⟨x6, 1, none⟩) HX6.out.lt).trans (HX6.out.cell 1)
    dsimp only [List.getElem?_cons_zero, List.getElem?_cons_succ] at c0 c1
    go_simp
    try with_reducible rfl
  try simp only [Act.put, List.setIfInBounds_toArray, List.set_cons_zero, List.set_cons_succ]
  refine wpAnyH_ready (rs := [3]) (by kernel_rfl) (by simp) ?_
  refine AllReadyH.cons (o := { dst := some 68, op := Op.call { callee := Callee.value (Operand.func 30), args := #[Operand.const (Value.int IntKind.i64 0), Operand.const (Value.int IntKind.i64 1)], argTypes := #[3, 3] }, type := 35, pos := "law.go:44", after := #[], guard := none }) rfl (fun K hK => ?_) AllReadyH.nil
  go_simp
  refine (at25_any _ _ _).mono ?_
  rintro e w100 ⟨rfl, b100⟩
  have hv100 : Below w91.heap.size w91 w100 := hv0.trans (b100.mono hv0.size)
  clear b100
  refine hK.out _ _ (hv100) (fun hHeld => ?_)
  clear hK K
  try simp only [Act.put, List.setIfInBounds_toArray, List.set_cons_zero, List.set_cons_succ]
  refine wpAnyH_ready (rs := [4]) (by kernel_rfl) (by simp) ?_
  refine AllReadyH.cons (o := { dst := some 69, op := Op.call { callee := Callee.value (Operand.func 13), args := #[Operand.tmp 65, Operand.tmp 66, Operand.tmp 67, Operand.tmp 68, Operand.const (Value.int IntKind.i64 3)], argTypes := #[27, 35, 35, 35, 3] }, type := 52, pos := "law.go:44", after := #[{ on := 0, ground := Ground.data }, { on := 1, ground := Ground.data }, { on := 2, ground := Ground.data }, { on := 3, ground := Ground.data }, { on := 3, ground := Ground.chain }], guard := none }) rfl (fun K hK => ?_) AllReadyH.nil
  go_simp
  refine (s25_merge3 (HS.out.tb.below hv100)).mono ?_
  rintro e w101 ⟨rfl, b101⟩
  have hv101 : Below w91.heap.size w91 w101 := hv100.trans (b101.mono hv100.size)
  have HSN := Lib.hid (HS.out.below hv101)
  clear b101
  refine hK.out _ _ (hv101) (fun hHeld => ?_)
  clear hK K
  try simp only [Act.put, List.setIfInBounds_toArray, List.set_cons_zero, List.set_cons_succ]
  refine wpAnyH_take (i := 5) (oi := { dst := some 64, op := Op.move (Operand.tmp 69), type := 52, pos := "law.go:44", after := #[{ on := 4, ground := Ground.data }], guard := none }) (v := ?v5_204) rfl (by kernel_rfl) (by kernel_rfl) (by kernel_rfl) (fun _ _ _ h => h) (Or.inl ⟨by rfl, ?h5_204⟩) (by assumption) ?r5_204
  case h5_204 =>
    intro W hSW
    try dsimp only at hSW
    go_simp
    try with_reducible rfl
  try simp only [Act.put, List.setIfInBounds_toArray, List.set_cons_zero, List.set_cons_succ]
  refine wpAnyH_take (i := 6) (oi := { dst := some 70, op := Op.extract (Operand.tmp 64) 0, type := 51, pos := "law.go:44", after := #[{ on := 5, ground := Ground.data }], guard := none }) (v := ?v6_205) rfl (by kernel_rfl) (by kernel_rfl) (by kernel_rfl) (fun _ _ _ h => h) (Or.inl ⟨by rfl, ?h6_205⟩) (by assumption) ?r6_205
  case h6_205 =>
    intro W hSW
    try dsimp only at hSW
    go_simp
    try with_reducible rfl
  try simp only [Act.put, List.setIfInBounds_toArray, List.set_cons_zero, List.set_cons_succ]
  refine wpAnyH_take (i := 7) (oi := { dst := some 71, op := Op.extract (Operand.tmp 64) 1, type := 39, pos := "law.go:44", after := #[{ on := 5, ground := Ground.data }, { on := 8, ground := Ground.gcOnly Departure.lateStores }], guard := none }) (v := ?v7_206) rfl (by kernel_rfl) (by kernel_rfl) (by kernel_rfl) (fun _ _ _ h => h) (Or.inl ⟨by rfl, ?h7_206⟩) (by assumption) ?r7_206
  case h7_206 =>
    intro W hSW
    try dsimp only at hSW
    go_simp
    try with_reducible rfl
  try simp only [Act.put, List.setIfInBounds_toArray, List.set_cons_zero, List.set_cons_succ]
  refine wpAnyH_take (i := 8) (oi := { dst := some 16, op := Op.assign (Operand.tmp 70), type := 51, pos := "law.go:44", after := #[{ on := 6, ground := Ground.data }, { on := 4, ground := Ground.chain }, { on := 0, ground := Ground.phase }, { on := 1, ground := Ground.phase }, { on := 2, ground := Ground.phase }, { on := 3, ground := Ground.phase }, { on := 4, ground := Ground.phase }, { on := 5, ground := Ground.phase }, { on := 6, ground := Ground.phase }, { on := 7, ground := Ground.textOnly Departure.lateStores }], guard := none }) (v := ?v8_207) rfl (by kernel_rfl) (by kernel_rfl) (by kernel_rfl) (fun _ _ _ h => h) (Or.inl ⟨by rfl, ?h8_207⟩) (by assumption) ?r8_207
  case h8_207 =>
    intro W hSW
    try dsimp only at hSW
    go_simp
    try with_reducible rfl
  try simp only [Act.put, List.setIfInBounds_toArray, List.set_cons_zero, List.set_cons_succ]
  refine wpAnyH_take (i := 9) (oi := { dst := some 17, op := Op.assign (Operand.tmp 71), type := 39, pos := "law.go:44", after := #[{ on := 7, ground := Ground.data }, { on := 8, ground := Ground.chain }, { on := 0, ground := Ground.phase }, { on := 1, ground := Ground.phase }, { on := 2, ground := Ground.phase }, { on := 3, ground := Ground.phase }, { on := 4, ground := Ground.phase }, { on := 5, ground := Ground.phase }, { on := 6, ground := Ground.phase }, { on := 7, ground := Ground.phase }, { on := 8, ground := Ground.phase }], guard := none }) (v := ?v9_208) rfl (by kernel_rfl) (by kernel_rfl) (by kernel_rfl) (fun _ _ _ h => h) (Or.inl ⟨by rfl, ?h9_208⟩) (by assumption) ?r9_208
  case h9_208 =>
    intro W hSW
    try dsimp only at hSW
    go_simp
    try with_reducible rfl
  try simp only [Act.put, List.setIfInBounds_toArray, List.set_cons_zero, List.set_cons_succ]
  refine wpAnyH_done (by kernel_rfl) ?_ _
  replace HS := HSN
  clear HSN HX6 HX7
  go_upto_region 12 with (first
    | (go_at_call 28; refine (rows25_any _).mono ?_; rintro e w3 ⟨Ar, Dr, rfl, hr3, b3⟩; replace HS := Lib.hid (HS.out.below b3))
    | (go_at_call 31; refine (s25_vacate hr3).mono ?_; rintro e w11 ⟨rfl, b11⟩; replace HS := Lib.hid (HS.out.below b11)))
  clear hr3 b3 b11
  try simp only [Act.put, List.setIfInBounds_toArray, List.set_cons_zero, List.set_cons_succ]
  obtain ⟨q4, o4, rfl, hq4, hc4⟩ := (HS.out.rd (3, A4, 4, ldC25) (by simp)).2 (show (0 : Nat) < 4 by omega)
  obtain ⟨q5, o5, rfl, hq5, hc5⟩ := (HS.out.rd (2, A5, 1, [.int .i64 0, .int .i64 1]) (by simp)).2 (show (0 : Nat) < 1 by omega)
  obtain ⟨q8, o8, rfl, hq8, hc8⟩ := (HS.out.rd (7, A8, 2, stC25) (by simp)).2 (show (0 : Nat) < 2 by omega)
  have HC4 := Lib.hid (And.intro hq4 (And.intro (hc4 0 _ rfl) (And.intro (hc4 1 _ rfl) (hc4 2 _ rfl))))
  have HC5 := Lib.hid (And.intro hq5 (And.intro (hc5 0 _ rfl) (hc5 1 _ rfl)))
  have HC8 := Lib.hid (And.intro hq8 (And.intro (hc8 7 _ rfl) (And.intro (hc8 8 _ rfl) (And.intro (hc8 9 _ rfl) (And.intro (hc8 10 _ rfl) (And.intro (hc8 11 _ rfl) (And.intro (hc8 12 _ rfl) (hc8 13 _ rfl))))))))
  have HB6 := Lib.hid (HS.out.bx (x6, [.int .i64 1, .int .i64 0]) (by simp))
  have HB7 := Lib.hid (HS.out.bx (x7, [.int .i64 2, .int .i64 0]) (by simp))
  dsimp only [Nat.add_zero] at HC4 HC5
  clear hq4 hc4 hq5 hc5 hq8 hc8
  have hv0 : Below w11.heap.size w11 w11.drew := (Below.refl _ _).drew
  refine wp_region_held_drew (S := fun W => Below w11.heap.size w11 W) (by kernel_rfl) (hv0) (fun hHeld => ?_)
  refine wpAnyH_take (i := 0) (oi := { dst := some 78, op := Op.move (Operand.tmp 4), type := 87, pos := "law.go:46", after := #[], guard := none }) (v := ?v0_301) rfl (by kernel_rfl) (by kernel_rfl) (by kernel_rfl) (fun _ _ _ h => h) (Or.inl ⟨by rfl, ?h0_301⟩) (by assumption) ?r0_301
  case h0_301 =>
    intro W hSW
    try dsimp only at hSW
    go_simp
    try with_reducible rfl
  try simp only [Act.put, List.setIfInBounds_toArray, List.set_cons_zero, List.set_cons_succ]
  refine wpAnyH_take (i := 1) (oi := { dst := some 79, op := Op.call { callee := Callee.builtin Builtin.len, args := #[Operand.tmp 78], argTypes := #[87] }, type := 3, pos := "law.go:46", after := #[{ on := 0, ground := Ground.data }], guard := none }) (v := ?v1_302) rfl (by kernel_rfl) (by kernel_rfl) (by kernel_rfl) (fun _ _ _ h => h) (Or.inl ⟨by rfl, ?h1_302⟩) (by assumption) ?r1_302
  case h1_302 =>
    intro W hSW
    try dsimp only at hSW
    go_simp
    try with_reducible rfl
  try simp only [Act.put, List.setIfInBounds_toArray, List.set_cons_zero, List.set_cons_succ]
  refine wpAnyH_take (i := 2) (oi := { dst := some 80, op := Op.binOp BinOp.eql 3 (Operand.tmp 79) (Operand.const (Value.int IntKind.i64 4)) 3, type := 4, pos := "law.go:46", after := #[{ on := 1, ground := Ground.data }], guard := none }) (v := ?v2_303) rfl (by kernel_rfl) (by kernel_rfl) (by kernel_rfl) (fun _ _ _ h => h) (Or.inl ⟨by rfl, ?h2_303⟩) (by assumption) ?r2_303
  case h2_303 =>
    intro W hSW
    try dsimp only at hSW
    go_simp
    try with_reducible rfl
  try simp only [Act.put, List.setIfInBounds_toArray, List.set_cons_zero, List.set_cons_succ]
  refine wpAnyH_take (i := 3) (oi := { dst := some 81, op := Op.move (Operand.tmp 80), type := 4, pos := "law.go:46", after := #[{ on := 2, ground := Ground.data }], guard := none }) (v := ?v3_304) rfl (by kernel_rfl) (by kernel_rfl) (by kernel_rfl) (fun _ _ _ h => h) (Or.inl ⟨by rfl, ?h3_304⟩) (by assumption) ?r3_304
  case h3_304 =>
    intro W hSW
    try dsimp only at hSW
    go_simp
    try with_reducible rfl
  try simp only [Act.put, List.setIfInBounds_toArray, List.set_cons_zero, List.set_cons_succ]
  refine wpAnyH_take (i := 4) (oi := { dst := some 82, op := Op.move (Operand.tmp 4), type := 87, pos := "law.go:46", after := #[{ on := 3, ground := Ground.guard }], guard := some (3, true) }) (v := ?v4_305) rfl (by kernel_rfl) (by kernel_rfl) (by kernel_rfl) (fun _ _ _ h => h) (Or.inl ⟨by rfl, ?h4_305⟩) (by assumption) ?r4_305
  case h4_305 =>
    intro W hSW
    try dsimp only at hSW
    go_simp
    try with_reducible rfl
  try simp only [Act.put, List.setIfInBounds_toArray, List.set_cons_zero, List.set_cons_succ]
  refine wpAnyH_take (i := 5) (oi := { dst := some 83, op := Op.indexAddr 87 (Operand.tmp 82) (Operand.const (Value.int IntKind.i64 0)), type := 0, pos := "law.go:46", after := #[{ on := 4, ground := Ground.data }, { on := 3, ground := Ground.guard }], guard := some (3, true) }) (v := ?v5_306) rfl (by kernel_rfl) (by kernel_rfl) (by kernel_rfl) (fun _ _ _ h => h) (Or.inl ⟨by rfl, ?h5_306⟩) (by assumption) ?r5_306
  case h5_306 =>
    intro W hSW
    try dsimp only at hSW
    go_simp
    try with_reducible rfl
  try simp only [Act.put, List.setIfInBounds_toArray, List.set_cons_zero, List.set_cons_succ]
  refine wpAnyH_take (i := 6) (oi := { dst := some 84, op := Op.load 95 (Operand.tmp 83), type := 95, pos := "law.go:46", after := #[{ on := 5, ground := Ground.data }, { on := 3, ground := Ground.guard }], guard := some (3, true) }) (v := ?v6_307) rfl (by kernel_rfl) (by kernel_rfl) (by kernel_rfl) (fun _ _ _ h => h) (Or.inl ⟨by rfl, ?h6_307⟩) (by assumption) ?r6_307
  case h6_307 =>
    intro W hSW
    try dsimp only at hSW
    have c0 := (hSW.cell (p := ⟨q4, o4, none⟩) HC4.out.1).trans HC4.out.2.1
    have c1 := (hSW.cell (p := ⟨q4, o4 + 1, none⟩) HC4.out.1).trans HC4.out.2.2.1
    have c2 := (hSW.cell (p := ⟨q4, o4 + 2, none⟩) HC4.out.1).trans HC4.out.2.2.2
    go_simp
    try with_reducible rfl
  try simp only [Act.put, List.setIfInBounds_toArray, List.set_cons_zero, List.set_cons_succ]
  refine wpAnyH_ready (rs := [7]) (by kernel_rfl) (by simp) ?_
  refine AllReadyH.cons (o := { dst := some 85, op := Op.call { callee := Callee.value (Operand.func 30), args := #[Operand.const (Value.int IntKind.i64 0), Operand.const (Value.int IntKind.i64 0)], argTypes := #[3, 3] }, type := 35, pos := "law.go:46", after := #[{ on := 3, ground := Ground.chain }, { on := 3, ground := Ground.guard }], guard := some (3, true) }) rfl (fun K hK => ?_) AllReadyH.nil
  go_simp
  refine (at25_any _ _ _).mono ?_
  rintro e w110 ⟨rfl, b110⟩
  have hv110 : Below w11.heap.size w11 w110 := hv0.trans (b110.mono hv0.size)
  clear b110
  refine hK.out _ _ (hv110) (fun hHeld => ?_)
  clear hK K
  try simp only [Act.put, List.setIfInBounds_toArray, List.set_cons_zero, List.set_cons_succ]
  refine wpAnyH_take (i := 8) (oi := { dst := some 86, op := Op.build 95 #[(0, Operand.tmp 85), (1, Operand.const (Value.int IntKind.i64 3))], type := 95, pos := "law.go:46", after := #[{ on := 7, ground := Ground.data }, { on := 3, ground := Ground.guard }], guard := some (3, true) }) (v := ?v8_308) rfl (by kernel_rfl) (by kernel_rfl) (by kernel_rfl) (fun _ _ _ h => h) (Or.inl ⟨by rfl, ?h8_308⟩) (by assumption) ?r8_308
  case h8_308 =>
    intro W hSW
    try dsimp only at hSW
    go_simp
    try with_reducible rfl
  try simp only [Act.put, List.setIfInBounds_toArray, List.set_cons_zero, List.set_cons_succ]
  refine wpAnyH_take (i := 9) (oi := { dst := some 87, op := Op.binOp BinOp.eql 95 (Operand.tmp 84) (Operand.tmp 86) 95, type := 4, pos := "law.go:46", after := #[{ on := 6, ground := Ground.data }, { on := 8, ground := Ground.data }, { on := 3, ground := Ground.guard }], guard := some (3, true) }) (v := ?v9_309) rfl (by kernel_rfl) (by kernel_rfl) (by kernel_rfl) (fun _ _ _ h => h) (Or.inl ⟨by rfl, ?h9_309⟩) (by assumption) ?r9_309
  case h9_309 =>
    intro W hSW
    try dsimp only at hSW
    have hE := s25_eqL W
    go_simp
    try with_reducible rfl
  try simp only [Act.put, List.setIfInBounds_toArray, List.set_cons_zero, List.set_cons_succ]
  refine wpAnyH_take (i := 10) (oi := { dst := some 88, op := Op.pick (Operand.tmp 81) (Operand.tmp 87) (Operand.const (Value.bool false)), type := 4, pos := "law.go:46", after := #[{ on := 3, ground := Ground.data }, { on := 9, ground := Ground.data }], guard := none }) (v := ?v10_310) rfl (by kernel_rfl) (by kernel_rfl) (by kernel_rfl) (fun _ _ _ h => h) (Or.inl ⟨by rfl, ?h10_310⟩) (by assumption) ?r10_310
  case h10_310 =>
    intro W hSW
    try dsimp only at hSW
    go_simp
    try with_reducible rfl
  try simp only [Act.put, List.setIfInBounds_toArray, List.set_cons_zero, List.set_cons_succ]
  refine wpAnyH_take (i := 11) (oi := { dst := some 89, op := Op.move (Operand.tmp 88), type := 4, pos := "law.go:46", after := #[{ on := 10, ground := Ground.data }, { on := 7, ground := Ground.chain }], guard := none }) (v := ?v11_311) rfl (by kernel_rfl) (by kernel_rfl) (by kernel_rfl) (fun _ _ _ h => h) (Or.inl ⟨by rfl, ?h11_311⟩) (by assumption) ?r11_311
  case h11_311 =>
    intro W hSW
    try dsimp only at hSW
    go_simp
    try with_reducible rfl
  try simp only [Act.put, List.setIfInBounds_toArray, List.set_cons_zero, List.set_cons_succ]
  refine wpAnyH_take (i := 12) (oi := { dst := some 90, op := Op.move (Operand.tmp 5), type := 90, pos := "law.go:46", after := #[{ on := 11, ground := Ground.guard }], guard := some (11, true) }) (v := ?v12_312) rfl (by kernel_rfl) (by kernel_rfl) (by kernel_rfl) (fun _ _ _ h => h) (Or.inl ⟨by rfl, ?h12_312⟩) (by assumption) ?r12_312
  case h12_312 =>
    intro W hSW
    try dsimp only at hSW
    go_simp
    try with_reducible rfl
  try simp only [Act.put, List.setIfInBounds_toArray, List.set_cons_zero, List.set_cons_succ]
  refine wpAnyH_take (i := 13) (oi := { dst := some 91, op := Op.call { callee := Callee.builtin Builtin.len, args := #[Operand.tmp 90], argTypes := #[90] }, type := 3, pos := "law.go:46", after := #[{ on := 12, ground := Ground.data }, { on := 11, ground := Ground.guard }], guard := some (11, true) }) (v := ?v13_313) rfl (by kernel_rfl) (by kernel_rfl) (by kernel_rfl) (fun _ _ _ h => h) (Or.inl ⟨by rfl, ?h13_313⟩) (by assumption) ?r13_313
  case h13_313 =>
    intro W hSW
    try dsimp only at hSW
    go_simp
    try with_reducible rfl
  try simp only [Act.put, List.setIfInBounds_toArray, List.set_cons_zero, List.set_cons_succ]
  refine wpAnyH_take (i := 14) (oi := { dst := some 92, op := Op.binOp BinOp.eql 3 (Operand.tmp 91) (Operand.const (Value.int IntKind.i64 1)) 3, type := 4, pos := "law.go:46", after := #[{ on := 13, ground := Ground.data }, { on := 11, ground := Ground.guard }], guard := some (11, true) }) (v := ?v14_314) rfl (by kernel_rfl) (by kernel_rfl) (by kernel_rfl) (fun _ _ _ h => h) (Or.inl ⟨by rfl, ?h14_314⟩) (by assumption) ?r14_314
  case h14_314 =>
    intro W hSW
    try dsimp only at hSW
    go_simp
    try with_reducible rfl
  try simp only [Act.put, List.setIfInBounds_toArray, List.set_cons_zero, List.set_cons_succ]
  refine wpAnyH_take (i := 15) (oi := { dst := some 93, op := Op.pick (Operand.tmp 89) (Operand.tmp 92) (Operand.const (Value.bool false)), type := 4, pos := "law.go:46", after := #[{ on := 11, ground := Ground.data }, { on := 14, ground := Ground.data }], guard := none }) (v := ?v15_315) rfl (by kernel_rfl) (by kernel_rfl) (by kernel_rfl) (fun _ _ _ h => h) (Or.inl ⟨by rfl, ?h15_315⟩) (by assumption) ?r15_315
  case h15_315 =>
    intro W hSW
    try dsimp only at hSW
    go_simp
    try with_reducible rfl
  try simp only [Act.put, List.setIfInBounds_toArray, List.set_cons_zero, List.set_cons_succ]
  refine wpAnyH_take (i := 16) (oi := { dst := some 94, op := Op.move (Operand.tmp 93), type := 4, pos := "law.go:46", after := #[{ on := 15, ground := Ground.data }, { on := 11, ground := Ground.chain }], guard := none }) (v := ?v16_316) rfl (by kernel_rfl) (by kernel_rfl) (by kernel_rfl) (fun _ _ _ h => h) (Or.inl ⟨by rfl, ?h16_316⟩) (by assumption) ?r16_316
  case h16_316 =>
    intro W hSW
    try dsimp only at hSW
    go_simp
    try with_reducible rfl
  try simp only [Act.put, List.setIfInBounds_toArray, List.set_cons_zero, List.set_cons_succ]
  refine wpAnyH_take (i := 17) (oi := { dst := some 95, op := Op.move (Operand.tmp 5), type := 90, pos := "law.go:46", after := #[{ on := 16, ground := Ground.guard }], guard := some (16, true) }) (v := ?v17_317) rfl (by kernel_rfl) (by kernel_rfl) (by kernel_rfl) (fun _ _ _ h => h) (Or.inl ⟨by rfl, ?h17_317⟩) (by assumption) ?r17_317
  case h17_317 =>
    intro W hSW
    try dsimp only at hSW
    go_simp
    try with_reducible rfl
  try simp only [Act.put, List.setIfInBounds_toArray, List.set_cons_zero, List.set_cons_succ]
  refine wpAnyH_take (i := 18) (oi := { dst := some 96, op := Op.indexAddr 90 (Operand.tmp 95) (Operand.const (Value.int IntKind.i64 0)), type := 0, pos := "law.go:46", after := #[{ on := 17, ground := Ground.data }, { on := 16, ground := Ground.guard }], guard := some (16, true) }) (v := ?v18_318) rfl (by kernel_rfl) (by kernel_rfl) (by kernel_rfl) (fun _ _ _ h => h) (Or.inl ⟨by rfl, ?h18_318⟩) (by assumption) ?r18_318
  case h18_318 =>
    intro W hSW
    try dsimp only at hSW
    go_simp
    try with_reducible rfl
  try simp only [Act.put, List.setIfInBounds_toArray, List.set_cons_zero, List.set_cons_succ]
  refine wpAnyH_take (i := 19) (oi := { dst := some 97, op := Op.load 35 (Operand.tmp 96), type := 35, pos := "law.go:46", after := #[{ on := 18, ground := Ground.data }, { on := 16, ground := Ground.guard }], guard := some (16, true) }) (v := ?v19_319) rfl (by kernel_rfl) (by kernel_rfl) (by kernel_rfl) (fun _ _ _ h => h) (Or.inl ⟨by rfl, ?h19_319⟩) (by assumption) ?r19_319
  case h19_319 =>
    intro W hSW
    try dsimp only at hSW
    have c0 := (hSW.cell (p := ⟨q5, o5, none⟩) HC5.out.1).trans HC5.out.2.1
    have c1 := (hSW.cell (p := ⟨q5, o5 + 1, none⟩) HC5.out.1).trans HC5.out.2.2
    go_simp
    try with_reducible rfl
  try simp only [Act.put, List.setIfInBounds_toArray, List.set_cons_zero, List.set_cons_succ]
  refine wpAnyH_ready (rs := [20]) (by kernel_rfl) (by simp) ?_
  refine AllReadyH.cons (o := { dst := some 98, op := Op.call { callee := Callee.value (Operand.func 30), args := #[Operand.const (Value.int IntKind.i64 0), Operand.const (Value.int IntKind.i64 1)], argTypes := #[3, 3] }, type := 35, pos := "law.go:46", after := #[{ on := 16, ground := Ground.chain }, { on := 16, ground := Ground.guard }], guard := some (16, true) }) rfl (fun K hK => ?_) AllReadyH.nil
  go_simp
  refine (at25_any _ _ _).mono ?_
  rintro e w111 ⟨rfl, b111⟩
  have hv111 : Below w11.heap.size w11 w111 := hv110.trans (b111.mono hv110.size)
  clear b111
  refine hK.out _ _ (hv111) (fun hHeld => ?_)
  clear hK K
  try simp only [Act.put, List.setIfInBounds_toArray, List.set_cons_zero, List.set_cons_succ]
  refine wpAnyH_take (i := 21) (oi := { dst := some 99, op := Op.binOp BinOp.eql 35 (Operand.tmp 97) (Operand.tmp 98) 35, type := 4, pos := "law.go:46", after := #[{ on := 19, ground := Ground.data }, { on := 20, ground := Ground.data }, { on := 16, ground := Ground.guard }], guard := some (16, true) }) (v := ?v21_320) rfl (by kernel_rfl) (by kernel_rfl) (by kernel_rfl) (fun _ _ _ h => h) (Or.inl ⟨by rfl, ?h21_320⟩) (by assumption) ?r21_320
  case h21_320 =>
    intro W hSW
    try dsimp only at hSW
    have hE := s25_eqS 0 1 W
    go_simp
    try with_reducible rfl
  try simp only [Act.put, List.setIfInBounds_toArray, List.set_cons_zero, List.set_cons_succ]
  refine wpAnyH_take (i := 22) (oi := { dst := some 100, op := Op.pick (Operand.tmp 94) (Operand.tmp 99) (Operand.const (Value.bool false)), type := 4, pos := "law.go:46", after := #[{ on := 16, ground := Ground.data }, { on := 21, ground := Ground.data }], guard := none }) (v := ?v22_321) rfl (by kernel_rfl) (by kernel_rfl) (by kernel_rfl) (fun _ _ _ h => h) (Or.inl ⟨by rfl, ?h22_321⟩) (by assumption) ?r22_321
  case h22_321 =>
    intro W hSW
    try dsimp only at hSW
    go_simp
    try with_reducible rfl
  try simp only [Act.put, List.setIfInBounds_toArray, List.set_cons_zero, List.set_cons_succ]
  refine wpAnyH_take (i := 23) (oi := { dst := some 101, op := Op.move (Operand.tmp 100), type := 4, pos := "law.go:46", after := #[{ on := 22, ground := Ground.data }, { on := 20, ground := Ground.chain }], guard := none }) (v := ?v23_322) rfl (by kernel_rfl) (by kernel_rfl) (by kernel_rfl) (fun _ _ _ h => h) (Or.inl ⟨by rfl, ?h23_322⟩) (by assumption) ?r23_322
  case h23_322 =>
    intro W hSW
    try dsimp only at hSW
    go_simp
    try with_reducible rfl
  try simp only [Act.put, List.setIfInBounds_toArray, List.set_cons_zero, List.set_cons_succ]
  refine wpAnyH_take (i := 24) (oi := { dst := some 102, op := Op.load 35 (Operand.tmp 6), type := 35, pos := "law.go:46", after := #[{ on := 23, ground := Ground.guard }], guard := some (23, true) }) (v := ?v24_323) rfl (by kernel_rfl) (by kernel_rfl) (by kernel_rfl) (fun _ _ _ h => h) (Or.inl ⟨by rfl, ?h24_323⟩) (by assumption) ?r24_323
  case h24_323 =>
    intro W hSW
    try dsimp only at hSW
    have c0 := (hSW.cell (p := ⟨x6, 0, none⟩) HB6.out.lt).trans (HB6.out.cell 0)
    have c1 := (hSW.cell (p := ⟨x6, 1, none⟩) HB6.out.lt).trans (HB6.out.cell 1)
    dsimp only [List.getElem?_cons_zero, List.getElem?_cons_succ] at c0 c1
    go_simp
    try with_reducible rfl
  try simp only [Act.put, List.setIfInBounds_toArray, List.set_cons_zero, List.set_cons_succ]
  refine wpAnyH_ready (rs := [25]) (by kernel_rfl) (by simp) ?_
  refine AllReadyH.cons (o := { dst := some 103, op := Op.call { callee := Callee.value (Operand.func 30), args := #[Operand.const (Value.int IntKind.i64 1), Operand.const (Value.int IntKind.i64 0)], argTypes := #[3, 3] }, type := 35, pos := "law.go:46", after := #[{ on := 23, ground := Ground.chain }, { on := 23, ground := Ground.guard }], guard := some (23, true) }) rfl (fun K hK => ?_) AllReadyH.nil
  go_simp
  refine (at25_any _ _ _).mono ?_
  rintro e w112 ⟨rfl, b112⟩
  have hv112 : Below w11.heap.size w11 w112 := hv111.trans (b112.mono hv111.size)
  clear b112
  refine hK.out _ _ (hv112) (fun hHeld => ?_)
  clear hK K
  try simp only [Act.put, List.setIfInBounds_toArray, List.set_cons_zero, List.set_cons_succ]
  refine wpAnyH_take (i := 26) (oi := { dst := some 104, op := Op.binOp BinOp.eql 35 (Operand.tmp 102) (Operand.tmp 103) 35, type := 4, pos := "law.go:46", after := #[{ on := 24, ground := Ground.data }, { on := 25, ground := Ground.data }, { on := 23, ground := Ground.guard }], guard := some (23, true) }) (v := ?v26_324) rfl (by kernel_rfl) (by kernel_rfl) (by kernel_rfl) (fun _ _ _ h => h) (Or.inl ⟨by rfl, ?h26_324⟩) (by assumption) ?r26_324
  case h26_324 =>
    intro W hSW
    try dsimp only at hSW
    have hE := s25_eqS 1 0 W
    go_simp
    try with_reducible rfl
  try simp only [Act.put, List.setIfInBounds_toArray, List.set_cons_zero, List.set_cons_succ]
  refine wpAnyH_take (i := 27) (oi := { dst := some 105, op := Op.pick (Operand.tmp 101) (Operand.tmp 104) (Operand.const (Value.bool false)), type := 4, pos := "law.go:46", after := #[{ on := 23, ground := Ground.data }, { on := 26, ground := Ground.data }], guard := none }) (v := ?v27_325) rfl (by kernel_rfl) (by kernel_rfl) (by kernel_rfl) (fun _ _ _ h => h) (Or.inl ⟨by rfl, ?h27_325⟩) (by assumption) ?r27_325
  case h27_325 =>
    intro W hSW
    try dsimp only at hSW
    go_simp
    try with_reducible rfl
  try simp only [Act.put, List.setIfInBounds_toArray, List.set_cons_zero, List.set_cons_succ]
  refine wpAnyH_take (i := 28) (oi := { dst := some 106, op := Op.move (Operand.tmp 105), type := 4, pos := "law.go:46", after := #[{ on := 27, ground := Ground.data }, { on := 25, ground := Ground.chain }], guard := none }) (v := ?v28_326) rfl (by kernel_rfl) (by kernel_rfl) (by kernel_rfl) (fun _ _ _ h => h) (Or.inl ⟨by rfl, ?h28_326⟩) (by assumption) ?r28_326
  case h28_326 =>
    intro W hSW
    try dsimp only at hSW
    go_simp
    try with_reducible rfl
  try simp only [Act.put, List.setIfInBounds_toArray, List.set_cons_zero, List.set_cons_succ]
  refine wpAnyH_take (i := 29) (oi := { dst := some 107, op := Op.load 35 (Operand.tmp 7), type := 35, pos := "law.go:46", after := #[{ on := 28, ground := Ground.guard }], guard := some (28, true) }) (v := ?v29_327) rfl (by kernel_rfl) (by kernel_rfl) (by kernel_rfl) (fun _ _ _ h => h) (Or.inl ⟨by rfl, ?h29_327⟩) (by assumption) ?r29_327
  case h29_327 =>
    intro W hSW
    try dsimp only at hSW
    have c0 := (hSW.cell (p := ⟨x7, 0, none⟩) HB7.out.lt).trans (HB7.out.cell 0)
    have c1 := (hSW.cell (p := ⟨x7, 1, none⟩) HB7.out.lt).trans (HB7.out.cell 1)
    dsimp only [List.getElem?_cons_zero, List.getElem?_cons_succ] at c0 c1
    go_simp
    try with_reducible rfl
  try simp only [Act.put, List.setIfInBounds_toArray, List.set_cons_zero, List.set_cons_succ]
  refine wpAnyH_ready (rs := [30]) (by kernel_rfl) (by simp) ?_
  refine AllReadyH.cons (o := { dst := some 108, op := Op.call { callee := Callee.value (Operand.func 30), args := #[Operand.const (Value.int IntKind.i64 2), Operand.const (Value.int IntKind.i64 0)], argTypes := #[3, 3] }, type := 35, pos := "law.go:46", after := #[{ on := 28, ground := Ground.chain }, { on := 28, ground := Ground.guard }], guard := some (28, true) }) rfl (fun K hK => ?_) AllReadyH.nil
  go_simp
  refine (at25_any _ _ _).mono ?_
  rintro e w113 ⟨rfl, b113⟩
  have hv113 : Below w11.heap.size w11 w113 := hv112.trans (b113.mono hv112.size)
  clear b113
  refine hK.out _ _ (hv113) (fun hHeld => ?_)
  clear hK K
  try simp only [Act.put, List.setIfInBounds_toArray, List.set_cons_zero, List.set_cons_succ]
  refine wpAnyH_take (i := 31) (oi := { dst := some 109, op := Op.binOp BinOp.eql 35 (Operand.tmp 107) (Operand.tmp 108) 35, type := 4, pos := "law.go:46", after := #[{ on := 29, ground := Ground.data }, { on := 30, ground := Ground.data }, { on := 28, ground := Ground.guard }], guard := some (28, true) }) (v := ?v31_328) rfl (by kernel_rfl) (by kernel_rfl) (by kernel_rfl) (fun _ _ _ h => h) (Or.inl ⟨by rfl, ?h31_328⟩) (by assumption) ?r31_328
  case h31_328 =>
    intro W hSW
    try dsimp only at hSW
    have hE := s25_eqS 2 0 W
    go_simp
    try with_reducible rfl
  try simp only [Act.put, List.setIfInBounds_toArray, List.set_cons_zero, List.set_cons_succ]
  refine wpAnyH_take (i := 32) (oi := { dst := some 110, op := Op.pick (Operand.tmp 106) (Operand.tmp 109) (Operand.const (Value.bool false)), type := 4, pos := "law.go:46", after := #[{ on := 28, ground := Ground.data }, { on := 31, ground := Ground.data }], guard := none }) (v := ?v32_329) rfl (by kernel_rfl) (by kernel_rfl) (by kernel_rfl) (fun _ _ _ h => h) (Or.inl ⟨by rfl, ?h32_329⟩) (by assumption) ?r32_329
  case h32_329 =>
    intro W hSW
    try dsimp only at hSW
    go_simp
    try with_reducible rfl
  try simp only [Act.put, List.setIfInBounds_toArray, List.set_cons_zero, List.set_cons_succ]
  refine wpAnyH_take (i := 33) (oi := { dst := some 111, op := Op.move (Operand.tmp 110), type := 4, pos := "law.go:46", after := #[{ on := 32, ground := Ground.data }, { on := 30, ground := Ground.chain }], guard := none }) (v := ?v33_330) rfl (by kernel_rfl) (by kernel_rfl) (by kernel_rfl) (fun _ _ _ h => h) (Or.inl ⟨by rfl, ?h33_330⟩) (by assumption) ?r33_330
  case h33_330 =>
    intro W hSW
    try dsimp only at hSW
    go_simp
    try with_reducible rfl
  try simp only [Act.put, List.setIfInBounds_toArray, List.set_cons_zero, List.set_cons_succ]
  refine wpAnyH_take (i := 34) (oi := { dst := some 112, op := Op.move (Operand.tmp 8), type := 4, pos := "law.go:46", after := #[{ on := 33, ground := Ground.guard }], guard := some (33, true) }) (v := ?v34_331) rfl (by kernel_rfl) (by kernel_rfl) (by kernel_rfl) (fun _ _ _ h => h) (Or.inl ⟨by rfl, ?h34_331⟩) (by assumption) ?r34_331
  case h34_331 =>
    intro W hSW
    try dsimp only at hSW
    go_simp
    try with_reducible rfl
  try simp only [Act.put, List.setIfInBounds_toArray, List.set_cons_zero, List.set_cons_succ]
  refine wpAnyH_take (i := 35) (oi := { dst := some 113, op := Op.pick (Operand.tmp 111) (Operand.tmp 112) (Operand.const (Value.bool false)), type := 4, pos := "law.go:46", after := #[{ on := 33, ground := Ground.data }, { on := 34, ground := Ground.data }], guard := none }) (v := ?v35_332) rfl (by kernel_rfl) (by kernel_rfl) (by kernel_rfl) (fun _ _ _ h => h) (Or.inl ⟨by rfl, ?h35_332⟩) (by assumption) ?r35_332
  case h35_332 =>
    intro W hSW
    try dsimp only at hSW
    go_simp
    try with_reducible rfl
  try simp only [Act.put, List.setIfInBounds_toArray, List.set_cons_zero, List.set_cons_succ]
  refine wpAnyH_take (i := 36) (oi := { dst := some 114, op := Op.move (Operand.tmp 113), type := 4, pos := "law.go:46", after := #[{ on := 35, ground := Ground.data }, { on := 33, ground := Ground.chain }], guard := none }) (v := ?v36_333) rfl (by kernel_rfl) (by kernel_rfl) (by kernel_rfl) (fun _ _ _ h => h) (Or.inl ⟨by rfl, ?h36_333⟩) (by assumption) ?r36_333
  case h36_333 =>
    intro W hSW
    try dsimp only at hSW
    go_simp
    try with_reducible rfl
  try simp only [Act.put, List.setIfInBounds_toArray, List.set_cons_zero, List.set_cons_succ]
  refine wpAnyH_take (i := 37) (oi := { dst := some 115, op := Op.move (Operand.tmp 11), type := 4, pos := "law.go:46", after := #[{ on := 36, ground := Ground.guard }], guard := some (36, true) }) (v := ?v37_334) rfl (by kernel_rfl) (by kernel_rfl) (by kernel_rfl) (fun _ _ _ h => h) (Or.inl ⟨by rfl, ?h37_334⟩) (by assumption) ?r37_334
  case h37_334 =>
    intro W hSW
    try dsimp only at hSW
    go_simp
    try with_reducible rfl
  try simp only [Act.put, List.setIfInBounds_toArray, List.set_cons_zero, List.set_cons_succ]
  refine wpAnyH_take (i := 38) (oi := { dst := some 116, op := Op.unOp UnOp.not 4 (Operand.tmp 115), type := 4, pos := "law.go:46", after := #[{ on := 37, ground := Ground.data }, { on := 36, ground := Ground.guard }], guard := some (36, true) }) (v := ?v38_335) rfl (by kernel_rfl) (by kernel_rfl) (by kernel_rfl) (fun _ _ _ h => h) (Or.inl ⟨by rfl, ?h38_335⟩) (by assumption) ?r38_335
  case h38_335 =>
    intro W hSW
    try dsimp only at hSW
    go_simp
    try with_reducible rfl
  try simp only [Act.put, List.setIfInBounds_toArray, List.set_cons_zero, List.set_cons_succ]
  refine wpAnyH_take (i := 39) (oi := { dst := some 117, op := Op.pick (Operand.tmp 114) (Operand.tmp 116) (Operand.const (Value.bool false)), type := 4, pos := "law.go:46", after := #[{ on := 36, ground := Ground.data }, { on := 38, ground := Ground.data }], guard := none }) (v := ?v39_336) rfl (by kernel_rfl) (by kernel_rfl) (by kernel_rfl) (fun _ _ _ h => h) (Or.inl ⟨by rfl, ?h39_336⟩) (by assumption) ?r39_336
  case h39_336 =>
    intro W hSW
    try dsimp only at hSW
    go_simp
    try with_reducible rfl
  try simp only [Act.put, List.setIfInBounds_toArray, List.set_cons_zero, List.set_cons_succ]
  refine wpAnyH_take (i := 40) (oi := { dst := some 118, op := Op.move (Operand.tmp 117), type := 4, pos := "law.go:46", after := #[{ on := 39, ground := Ground.data }, { on := 36, ground := Ground.chain }], guard := none }) (v := ?v40_337) rfl (by kernel_rfl) (by kernel_rfl) (by kernel_rfl) (fun _ _ _ h => h) (Or.inl ⟨by rfl, ?h40_337⟩) (by assumption) ?r40_337
  case h40_337 =>
    intro W hSW
    try dsimp only at hSW
    go_simp
    try with_reducible rfl
  try simp only [Act.put, List.setIfInBounds_toArray, List.set_cons_zero, List.set_cons_succ]
  refine wpAnyH_take (i := 41) (oi := { dst := some 119, op := Op.move (Operand.tmp 13), type := 39, pos := "law.go:46", after := #[{ on := 40, ground := Ground.guard }], guard := some (40, true) }) (v := ?v41_338) rfl (by kernel_rfl) (by kernel_rfl) (by kernel_rfl) (fun _ _ _ h => h) (Or.inl ⟨by rfl, ?h41_338⟩) (by assumption) ?r41_338
  case h41_338 =>
    intro W hSW
    try dsimp only at hSW
    go_simp
    try with_reducible rfl
  try simp only [Act.put, List.setIfInBounds_toArray, List.set_cons_zero, List.set_cons_succ]
  refine wpAnyH_take (i := 42) (oi := { dst := some 120, op := Op.binOp BinOp.eql 39 (Operand.tmp 119) (Operand.const (Value.int IntKind.i64 0)) 39, type := 4, pos := "law.go:46", after := #[{ on := 41, ground := Ground.data }, { on := 40, ground := Ground.guard }], guard := some (40, true) }) (v := ?v42_339) rfl (by kernel_rfl) (by kernel_rfl) (by kernel_rfl) (fun _ _ _ h => h) (Or.inl ⟨by rfl, ?h42_339⟩) (by assumption) ?r42_339
  case h42_339 =>
    intro W hSW
    try dsimp only at hSW
    go_simp
    try with_reducible rfl
  try simp only [Act.put, List.setIfInBounds_toArray, List.set_cons_zero, List.set_cons_succ]
  refine wpAnyH_take (i := 43) (oi := { dst := some 121, op := Op.pick (Operand.tmp 118) (Operand.tmp 120) (Operand.const (Value.bool false)), type := 4, pos := "law.go:46", after := #[{ on := 40, ground := Ground.data }, { on := 42, ground := Ground.data }], guard := none }) (v := ?v43_340) rfl (by kernel_rfl) (by kernel_rfl) (by kernel_rfl) (fun _ _ _ h => h) (Or.inl ⟨by rfl, ?h43_340⟩) (by assumption) ?r43_340
  case h43_340 =>
    intro W hSW
    try dsimp only at hSW
    go_simp
    try with_reducible rfl
  try simp only [Act.put, List.setIfInBounds_toArray, List.set_cons_zero, List.set_cons_succ]
  refine wpAnyH_take (i := 44) (oi := { dst := some 122, op := Op.move (Operand.tmp 121), type := 4, pos := "law.go:46", after := #[{ on := 43, ground := Ground.data }, { on := 40, ground := Ground.chain }], guard := none }) (v := ?v44_341) rfl (by kernel_rfl) (by kernel_rfl) (by kernel_rfl) (fun _ _ _ h => h) (Or.inl ⟨by rfl, ?h44_341⟩) (by assumption) ?r44_341
  case h44_341 =>
    intro W hSW
    try dsimp only at hSW
    go_simp
    try with_reducible rfl
  try simp only [Act.put, List.setIfInBounds_toArray, List.set_cons_zero, List.set_cons_succ]
  refine wpAnyH_take (i := 45) (oi := { dst := some 123, op := Op.move (Operand.tmp 12), type := 51, pos := "law.go:46", after := #[{ on := 44, ground := Ground.guard }], guard := some (44, true) }) (v := ?v45_342) rfl (by kernel_rfl) (by kernel_rfl) (by kernel_rfl) (fun _ _ _ h => h) (Or.inl ⟨by rfl, ?h45_342⟩) (by assumption) ?r45_342
  case h45_342 =>
    intro W hSW
    try dsimp only at hSW
    go_simp
    try with_reducible rfl
  try simp only [Act.put, List.setIfInBounds_toArray, List.set_cons_zero, List.set_cons_succ]
  refine wpAnyH_take (i := 46) (oi := { dst := some 124, op := Op.call { callee := Callee.builtin Builtin.len, args := #[Operand.tmp 123], argTypes := #[51] }, type := 3, pos := "law.go:46", after := #[{ on := 45, ground := Ground.data }, { on := 44, ground := Ground.guard }], guard := some (44, true) }) (v := ?v46_343) rfl (by kernel_rfl) (by kernel_rfl) (by kernel_rfl) (fun _ _ _ h => h) (Or.inl ⟨by rfl, ?h46_343⟩) (by assumption) ?r46_343
  case h46_343 =>
    intro W hSW
    try dsimp only at hSW
    go_simp
    try with_reducible rfl
  try simp only [Act.put, List.setIfInBounds_toArray, List.set_cons_zero, List.set_cons_succ]
  refine wpAnyH_take (i := 47) (oi := { dst := some 125, op := Op.binOp BinOp.eql 3 (Operand.tmp 124) (Operand.const (Value.int IntKind.i64 2)) 3, type := 4, pos := "law.go:46", after := #[{ on := 46, ground := Ground.data }, { on := 44, ground := Ground.guard }], guard := some (44, true) }) (v := ?v47_344) rfl (by kernel_rfl) (by kernel_rfl) (by kernel_rfl) (fun _ _ _ h => h) (Or.inl ⟨by rfl, ?h47_344⟩) (by assumption) ?r47_344
  case h47_344 =>
    intro W hSW
    try dsimp only at hSW
    go_simp
    try with_reducible rfl
  try simp only [Act.put, List.setIfInBounds_toArray, List.set_cons_zero, List.set_cons_succ]
  refine wpAnyH_take (i := 48) (oi := { dst := some 126, op := Op.pick (Operand.tmp 122) (Operand.tmp 125) (Operand.const (Value.bool false)), type := 4, pos := "law.go:46", after := #[{ on := 44, ground := Ground.data }, { on := 47, ground := Ground.data }], guard := none }) (v := ?v48_345) rfl (by kernel_rfl) (by kernel_rfl) (by kernel_rfl) (fun _ _ _ h => h) (Or.inl ⟨by rfl, ?h48_345⟩) (by assumption) ?r48_345
  case h48_345 =>
    intro W hSW
    try dsimp only at hSW
    go_simp
    try with_reducible rfl
  try simp only [Act.put, List.setIfInBounds_toArray, List.set_cons_zero, List.set_cons_succ]
  refine wpAnyH_take (i := 49) (oi := { dst := some 127, op := Op.move (Operand.tmp 126), type := 4, pos := "law.go:46", after := #[{ on := 48, ground := Ground.data }, { on := 44, ground := Ground.chain }], guard := none }) (v := ?v49_346) rfl (by kernel_rfl) (by kernel_rfl) (by kernel_rfl) (fun _ _ _ h => h) (Or.inl ⟨by rfl, ?h49_346⟩) (by assumption) ?r49_346
  case h49_346 =>
    intro W hSW
    try dsimp only at hSW
    go_simp
    try with_reducible rfl
  try simp only [Act.put, List.setIfInBounds_toArray, List.set_cons_zero, List.set_cons_succ]
  refine wpAnyH_take (i := 50) (oi := { dst := some 128, op := Op.move (Operand.tmp 12), type := 51, pos := "law.go:46", after := #[{ on := 49, ground := Ground.guard }], guard := some (49, true) }) (v := ?v50_347) rfl (by kernel_rfl) (by kernel_rfl) (by kernel_rfl) (fun _ _ _ h => h) (Or.inl ⟨by rfl, ?h50_347⟩) (by assumption) ?r50_347
  case h50_347 =>
    intro W hSW
    try dsimp only at hSW
    go_simp
    try with_reducible rfl
  try simp only [Act.put, List.setIfInBounds_toArray, List.set_cons_zero, List.set_cons_succ]
  refine wpAnyH_take (i := 51) (oi := { dst := some 129, op := Op.indexAddr 51 (Operand.tmp 128) (Operand.const (Value.int IntKind.i64 1)), type := 0, pos := "law.go:46", after := #[{ on := 50, ground := Ground.data }, { on := 49, ground := Ground.guard }], guard := some (49, true) }) (v := ?v51_348) rfl (by kernel_rfl) (by kernel_rfl) (by kernel_rfl) (fun _ _ _ h => h) (Or.inl ⟨by rfl, ?h51_348⟩) (by assumption) ?r51_348
  case h51_348 =>
    intro W hSW
    try dsimp only at hSW
    go_simp
    try with_reducible rfl
  try simp only [Act.put, List.setIfInBounds_toArray, List.set_cons_zero, List.set_cons_succ]
  refine wpAnyH_take (i := 52) (oi := { dst := some 130, op := Op.load 57 (Operand.tmp 129), type := 57, pos := "law.go:46", after := #[{ on := 51, ground := Ground.data }, { on := 49, ground := Ground.guard }], guard := some (49, true) }) (v := ?v52_349) rfl (by kernel_rfl) (by kernel_rfl) (by kernel_rfl) (fun _ _ _ h => h) (Or.inl ⟨by rfl, ?h52_349⟩) (by assumption) ?r52_349
  case h52_349 =>
    intro W hSW
    try dsimp only at hSW
    have c0 := (hSW.cell (p := ⟨q8, o8 + 7, none⟩) HC8.out.1).trans HC8.out.2.1
    have c1 := (hSW.cell (p := ⟨q8, o8 + 8, none⟩) HC8.out.1).trans HC8.out.2.2.1
    have c2 := (hSW.cell (p := ⟨q8, o8 + 9, none⟩) HC8.out.1).trans HC8.out.2.2.2.1
    have c3 := (hSW.cell (p := ⟨q8, o8 + 10, none⟩) HC8.out.1).trans HC8.out.2.2.2.2.1
    have c4 := (hSW.cell (p := ⟨q8, o8 + 11, none⟩) HC8.out.1).trans HC8.out.2.2.2.2.2.1
    have c5 := (hSW.cell (p := ⟨q8, o8 + 12, none⟩) HC8.out.1).trans HC8.out.2.2.2.2.2.2.1
    have c6 := (hSW.cell (p := ⟨q8, o8 + 13, none⟩) HC8.out.1).trans HC8.out.2.2.2.2.2.2.2
    go_simp
    try with_reducible rfl
  try simp only [Act.put, List.setIfInBounds_toArray, List.set_cons_zero, List.set_cons_succ]
  refine wpAnyH_ready (rs := [53]) (by kernel_rfl) (by simp) ?_
  refine AllReadyH.cons (o := { dst := some 131, op := Op.call { callee := Callee.value (Operand.func 30), args := #[Operand.const (Value.int IntKind.i64 2), Operand.const (Value.int IntKind.i64 0)], argTypes := #[3, 3] }, type := 35, pos := "law.go:46", after := #[{ on := 49, ground := Ground.chain }, { on := 49, ground := Ground.guard }], guard := some (49, true) }) rfl (fun K hK => ?_) AllReadyH.nil
  go_simp
  refine (at25_any _ _ _).mono ?_
  rintro e w114 ⟨rfl, b114⟩
  have hv114 : Below w11.heap.size w11 w114 := hv113.trans (b114.mono hv113.size)
  clear b114
  refine hK.out _ _ (hv114) (fun hHeld => ?_)
  clear hK K
  try simp only [Act.put, List.setIfInBounds_toArray, List.set_cons_zero, List.set_cons_succ]
  refine wpAnyH_take (i := 54) (oi := { dst := some 132, op := Op.build 55 #[(0, Operand.tmp 131), (1, Operand.const (Value.int IntKind.i64 2))], type := 55, pos := "law.go:46", after := #[{ on := 53, ground := Ground.data }, { on := 49, ground := Ground.guard }], guard := some (49, true) }) (v := ?v54_350) rfl (by kernel_rfl) (by kernel_rfl) (by kernel_rfl) (fun _ _ _ h => h) (Or.inl ⟨by rfl, ?h54_350⟩) (by assumption) ?r54_350
  case h54_350 =>
    intro W hSW
    try dsimp only at hSW
    go_simp
    try with_reducible rfl
  try simp only [Act.put, List.setIfInBounds_toArray, List.set_cons_zero, List.set_cons_succ]
  refine wpAnyH_ready (rs := [55]) (by kernel_rfl) (by simp) ?_
  refine AllReadyH.cons (o := { dst := some 133, op := Op.call { callee := Callee.value (Operand.func 30), args := #[Operand.const (Value.int IntKind.i64 0), Operand.const (Value.int IntKind.i64 1)], argTypes := #[3, 3] }, type := 35, pos := "law.go:46", after := #[{ on := 53, ground := Ground.chain }, { on := 49, ground := Ground.guard }], guard := some (49, true) }) rfl (fun K hK => ?_) AllReadyH.nil
  go_simp
  refine (at25_any _ _ _).mono ?_
  rintro e w115 ⟨rfl, b115⟩
  have hv115 : Below w11.heap.size w11 w115 := hv114.trans (b115.mono hv114.size)
  clear b115
  refine hK.out _ _ (hv115) (fun hHeld => ?_)
  clear hK K
  try simp only [Act.put, List.setIfInBounds_toArray, List.set_cons_zero, List.set_cons_succ]
  refine wpAnyH_take (i := 56) (oi := { dst := some 134, op := Op.build 55 #[(0, Operand.tmp 133), (1, Operand.const (Value.int IntKind.i64 1))], type := 55, pos := "law.go:46", after := #[{ on := 55, ground := Ground.data }, { on := 49, ground := Ground.guard }], guard := some (49, true) }) (v := ?v56_351) rfl (by kernel_rfl) (by kernel_rfl) (by kernel_rfl) (fun _ _ _ h => h) (Or.inl ⟨by rfl, ?h56_351⟩) (by assumption) ?r56_351
  case h56_351 =>
    intro W hSW
    try dsimp only at hSW
    go_simp
    try with_reducible rfl
  try simp only [Act.put, List.setIfInBounds_toArray, List.set_cons_zero, List.set_cons_succ]
  refine wpAnyH_take (i := 57) (oi := { dst := some 135, op := Op.build 57 #[(0, Operand.const (Value.int IntKind.i64 5)), (1, Operand.tmp 132), (2, Operand.tmp 134)], type := 57, pos := "law.go:46", after := #[{ on := 54, ground := Ground.data }, { on := 56, ground := Ground.data }, { on := 49, ground := Ground.guard }], guard := some (49, true) }) (v := ?v57_352) rfl (by kernel_rfl) (by kernel_rfl) (by kernel_rfl) (fun _ _ _ h => h) (Or.inl ⟨by rfl, ?h57_352⟩) (by assumption) ?r57_352
  case h57_352 =>
    intro W hSW
    try dsimp only at hSW
    go_simp
    try with_reducible rfl
  try simp only [Act.put, List.setIfInBounds_toArray, List.set_cons_zero, List.set_cons_succ]
  refine wpAnyH_take (i := 58) (oi := { dst := some 136, op := Op.binOp BinOp.eql 57 (Operand.tmp 130) (Operand.tmp 135) 57, type := 4, pos := "law.go:46", after := #[{ on := 52, ground := Ground.data }, { on := 57, ground := Ground.data }, { on := 49, ground := Ground.guard }], guard := some (49, true) }) (v := ?v58_353) rfl (by kernel_rfl) (by kernel_rfl) (by kernel_rfl) (fun _ _ _ h => h) (Or.inl ⟨by rfl, ?h58_353⟩) (by assumption) ?r58_353
  case h58_353 =>
    intro W hSW
    try dsimp only at hSW
    have hE := s25_eqP W
    go_simp
    try with_reducible rfl
  try simp only [Act.put, List.setIfInBounds_toArray, List.set_cons_zero, List.set_cons_succ]
  refine wpAnyH_take (i := 59) (oi := { dst := some 137, op := Op.pick (Operand.tmp 127) (Operand.tmp 136) (Operand.const (Value.bool false)), type := 4, pos := "law.go:46", after := #[{ on := 49, ground := Ground.data }, { on := 58, ground := Ground.data }], guard := none }) (v := ?v59_354) rfl (by kernel_rfl) (by kernel_rfl) (by kernel_rfl) (fun _ _ _ h => h) (Or.inl ⟨by rfl, ?h59_354⟩) (by assumption) ?r59_354
  case h59_354 =>
    intro W hSW
    try dsimp only at hSW
    go_simp
    try with_reducible rfl
  try simp only [Act.put, List.setIfInBounds_toArray, List.set_cons_zero, List.set_cons_succ]
  refine wpAnyH_take (i := 60) (oi := { dst := some 138, op := Op.move (Operand.tmp 137), type := 4, pos := "law.go:46", after := #[{ on := 59, ground := Ground.data }, { on := 55, ground := Ground.chain }], guard := none }) (v := ?v60_355) rfl (by kernel_rfl) (by kernel_rfl) (by kernel_rfl) (fun _ _ _ h => h) (Or.inl ⟨by rfl, ?h60_355⟩) (by assumption) ?r60_355
  case h60_355 =>
    intro W hSW
    try dsimp only at hSW
    go_simp
    try with_reducible rfl
  try simp only [Act.put, List.setIfInBounds_toArray, List.set_cons_zero, List.set_cons_succ]
  refine wpAnyH_take (i := 61) (oi := { dst := some 139, op := Op.move (Operand.tmp 15), type := 39, pos := "law.go:46", after := #[{ on := 60, ground := Ground.guard }], guard := some (60, true) }) (v := ?v61_356) rfl (by kernel_rfl) (by kernel_rfl) (by kernel_rfl) (fun _ _ _ h => h) (Or.inl ⟨by rfl, ?h61_356⟩) (by assumption) ?r61_356
  case h61_356 =>
    intro W hSW
    try dsimp only at hSW
    go_simp
    try with_reducible rfl
  try simp only [Act.put, List.setIfInBounds_toArray, List.set_cons_zero, List.set_cons_succ]
  refine wpAnyH_take (i := 62) (oi := { dst := some 140, op := Op.binOp BinOp.eql 39 (Operand.tmp 139) (Operand.const (Value.int IntKind.i64 2)) 39, type := 4, pos := "law.go:46", after := #[{ on := 61, ground := Ground.data }, { on := 60, ground := Ground.guard }], guard := some (60, true) }) (v := ?v62_357) rfl (by kernel_rfl) (by kernel_rfl) (by kernel_rfl) (fun _ _ _ h => h) (Or.inl ⟨by rfl, ?h62_357⟩) (by assumption) ?r62_357
  case h62_357 =>
    intro W hSW
    try dsimp only at hSW
    go_simp
    try with_reducible rfl
  try simp only [Act.put, List.setIfInBounds_toArray, List.set_cons_zero, List.set_cons_succ]
  refine wpAnyH_take (i := 63) (oi := { dst := some 141, op := Op.pick (Operand.tmp 138) (Operand.tmp 140) (Operand.const (Value.bool false)), type := 4, pos := "law.go:46", after := #[{ on := 60, ground := Ground.data }, { on := 62, ground := Ground.data }], guard := none }) (v := ?v63_358) rfl (by kernel_rfl) (by kernel_rfl) (by kernel_rfl) (fun _ _ _ h => h) (Or.inl ⟨by rfl, ?h63_358⟩) (by assumption) ?r63_358
  case h63_358 =>
    intro W hSW
    try dsimp only at hSW
    go_simp
    try with_reducible rfl
  try simp only [Act.put, List.setIfInBounds_toArray, List.set_cons_zero, List.set_cons_succ]
  refine wpAnyH_take (i := 64) (oi := { dst := some 142, op := Op.move (Operand.tmp 141), type := 4, pos := "law.go:46", after := #[{ on := 63, ground := Ground.data }, { on := 60, ground := Ground.chain }], guard := none }) (v := ?v64_359) rfl (by kernel_rfl) (by kernel_rfl) (by kernel_rfl) (fun _ _ _ h => h) (Or.inl ⟨by rfl, ?h64_359⟩) (by assumption) ?r64_359
  case h64_359 =>
    intro W hSW
    try dsimp only at hSW
    go_simp
    try with_reducible rfl
  try simp only [Act.put, List.setIfInBounds_toArray, List.set_cons_zero, List.set_cons_succ]
  refine wpAnyH_take (i := 65) (oi := { dst := some 143, op := Op.move (Operand.tmp 17), type := 39, pos := "law.go:46", after := #[{ on := 64, ground := Ground.guard }], guard := some (64, true) }) (v := ?v65_360) rfl (by kernel_rfl) (by kernel_rfl) (by kernel_rfl) (fun _ _ _ h => h) (Or.inl ⟨by rfl, ?h65_360⟩) (by assumption) ?r65_360
  case h65_360 =>
    intro W hSW
    try dsimp only at hSW
    go_simp
    try with_reducible rfl
  try simp only [Act.put, List.setIfInBounds_toArray, List.set_cons_zero, List.set_cons_succ]
  refine wpAnyH_take (i := 66) (oi := { dst := some 144, op := Op.binOp BinOp.eql 39 (Operand.tmp 143) (Operand.const (Value.int IntKind.i64 1)) 39, type := 4, pos := "law.go:46", after := #[{ on := 65, ground := Ground.data }, { on := 64, ground := Ground.guard }], guard := some (64, true) }) (v := ?v66_361) rfl (by kernel_rfl) (by kernel_rfl) (by kernel_rfl) (fun _ _ _ h => h) (Or.inl ⟨by rfl, ?h66_361⟩) (by assumption) ?r66_361
  case h66_361 =>
    intro W hSW
    try dsimp only at hSW
    go_simp
    try with_reducible rfl
  try simp only [Act.put, List.setIfInBounds_toArray, List.set_cons_zero, List.set_cons_succ]
  refine wpAnyH_take (i := 67) (oi := { dst := some 145, op := Op.pick (Operand.tmp 142) (Operand.tmp 144) (Operand.const (Value.bool false)), type := 4, pos := "law.go:46", after := #[{ on := 64, ground := Ground.data }, { on := 66, ground := Ground.data }], guard := none }) (v := ?v67_362) rfl (by kernel_rfl) (by kernel_rfl) (by kernel_rfl) (fun _ _ _ h => h) (Or.inl ⟨by rfl, ?h67_362⟩) (by assumption) ?r67_362
  case h67_362 =>
    intro W hSW
    try dsimp only at hSW
    go_simp
    try with_reducible rfl
  try simp only [Act.put, List.setIfInBounds_toArray, List.set_cons_zero, List.set_cons_succ]
  refine wpAnyH_take (i := 68) (oi := { dst := some 146, op := Op.move (Operand.tmp 145), type := 4, pos := "law.go:46", after := #[{ on := 67, ground := Ground.data }, { on := 64, ground := Ground.chain }], guard := none }) (v := ?v68_363) rfl (by kernel_rfl) (by kernel_rfl) (by kernel_rfl) (fun _ _ _ h => h) (Or.inl ⟨by rfl, ?h68_363⟩) (by assumption) ?r68_363
  case h68_363 =>
    intro W hSW
    try dsimp only at hSW
    go_simp
    try with_reducible rfl
  try simp only [Act.put, List.setIfInBounds_toArray, List.set_cons_zero, List.set_cons_succ]
  refine wpAnyH_ready (rs := [69]) (by kernel_rfl) (by simp) ?_
  refine AllReadyH.cons (o := { dst := some 147, op := Op.call { callee := Callee.value (Operand.func 32), args := #[Operand.const (Value.int IntKind.i64 5), Operand.const (Value.int IntKind.i64 3)], argTypes := #[3, 3] }, type := 3, pos := "law.go:46", after := #[{ on := 68, ground := Ground.chain }, { on := 68, ground := Ground.guard }], guard := some (68, true) }) rfl (fun K hK => ?_) AllReadyH.nil
  go_simp
  refine (bound_any 5 3 4 s25_b1 _).mono ?_
  rintro e w116 ⟨rfl, hw116⟩
  have hv116 : Below w11.heap.size w11 w116 := by rw [hw116]; exact hv115
  clear hw116
  refine hK.out _ _ (hv116) (fun hHeld => ?_)
  clear hK K
  try simp only [Act.put, List.setIfInBounds_toArray, List.set_cons_zero, List.set_cons_succ]
  refine wpAnyH_take (i := 70) (oi := { dst := some 148, op := Op.binOp BinOp.eql 3 (Operand.tmp 147) (Operand.const (Value.int IntKind.i64 4)) 3, type := 4, pos := "law.go:46", after := #[{ on := 69, ground := Ground.data }, { on := 68, ground := Ground.guard }], guard := some (68, true) }) (v := ?v70_364) rfl (by kernel_rfl) (by kernel_rfl) (by kernel_rfl) (fun _ _ _ h => h) (Or.inl ⟨by rfl, ?h70_364⟩) (by assumption) ?r70_364
  case h70_364 =>
    intro W hSW
    try dsimp only at hSW
    go_simp
    try with_reducible rfl
  try simp only [Act.put, List.setIfInBounds_toArray, List.set_cons_zero, List.set_cons_succ]
  refine wpAnyH_take (i := 71) (oi := { dst := some 149, op := Op.pick (Operand.tmp 146) (Operand.tmp 148) (Operand.const (Value.bool false)), type := 4, pos := "law.go:46", after := #[{ on := 68, ground := Ground.data }, { on := 70, ground := Ground.data }], guard := none }) (v := ?v71_365) rfl (by kernel_rfl) (by kernel_rfl) (by kernel_rfl) (fun _ _ _ h => h) (Or.inl ⟨by rfl, ?h71_365⟩) (by assumption) ?r71_365
  case h71_365 =>
    intro W hSW
    try dsimp only at hSW
    go_simp
    try with_reducible rfl
  try simp only [Act.put, List.setIfInBounds_toArray, List.set_cons_zero, List.set_cons_succ]
  refine wpAnyH_take (i := 72) (oi := { dst := some 150, op := Op.move (Operand.tmp 149), type := 4, pos := "law.go:46", after := #[{ on := 71, ground := Ground.data }, { on := 69, ground := Ground.chain }], guard := none }) (v := ?v72_366) rfl (by kernel_rfl) (by kernel_rfl) (by kernel_rfl) (fun _ _ _ h => h) (Or.inl ⟨by rfl, ?h72_366⟩) (by assumption) ?r72_366
  case h72_366 =>
    intro W hSW
    try dsimp only at hSW
    go_simp
    try with_reducible rfl
  try simp only [Act.put, List.setIfInBounds_toArray, List.set_cons_zero, List.set_cons_succ]
  refine wpAnyH_ready (rs := [73]) (by kernel_rfl) (by simp) ?_
  refine AllReadyH.cons (o := { dst := some 151, op := Op.call { callee := Callee.value (Operand.func 32), args := #[Operand.const (Value.int IntKind.i64 0), Operand.const (Value.int IntKind.i64 3)], argTypes := #[3, 3] }, type := 3, pos := "law.go:46", after := #[{ on := 72, ground := Ground.chain }, { on := 72, ground := Ground.guard }], guard := some (72, true) }) rfl (fun K hK => ?_) AllReadyH.nil
  go_simp
  refine (bound_any 0 3 0 s25_b2 _).mono ?_
  rintro e w117 ⟨rfl, hw117⟩
  have hv117 : Below w11.heap.size w11 w117 := by rw [hw117]; exact hv116
  clear hw117
  refine hK.out _ _ (hv117) (fun hHeld => ?_)
  clear hK K
  try simp only [Act.put, List.setIfInBounds_toArray, List.set_cons_zero, List.set_cons_succ]
  refine wpAnyH_take (i := 74) (oi := { dst := some 152, op := Op.binOp BinOp.eql 3 (Operand.tmp 151) (Operand.const (Value.int IntKind.i64 0)) 3, type := 4, pos := "law.go:46", after := #[{ on := 73, ground := Ground.data }, { on := 72, ground := Ground.guard }], guard := some (72, true) }) (v := ?v74_367) rfl (by kernel_rfl) (by kernel_rfl) (by kernel_rfl) (fun _ _ _ h => h) (Or.inl ⟨by rfl, ?h74_367⟩) (by assumption) ?r74_367
  case h74_367 =>
    intro W hSW
    try dsimp only at hSW
    go_simp
    try with_reducible rfl
  try simp only [Act.put, List.setIfInBounds_toArray, List.set_cons_zero, List.set_cons_succ]
  refine wpAnyH_take (i := 75) (oi := { dst := some 153, op := Op.pick (Operand.tmp 150) (Operand.tmp 152) (Operand.const (Value.bool false)), type := 4, pos := "law.go:46", after := #[{ on := 72, ground := Ground.data }, { on := 74, ground := Ground.data }], guard := none }) (v := ?v75_368) rfl (by kernel_rfl) (by kernel_rfl) (by kernel_rfl) (fun _ _ _ h => h) (Or.inl ⟨by rfl, ?h75_368⟩) (by assumption) ?r75_368
  case h75_368 =>
    intro W hSW
    try dsimp only at hSW
    go_simp
    try with_reducible rfl
  try simp only [Act.put, List.setIfInBounds_toArray, List.set_cons_zero, List.set_cons_succ]
  refine wpAnyH_take (i := 76) (oi := { dst := some 154, op := Op.move (Operand.tmp 153), type := 4, pos := "law.go:46", after := #[{ on := 75, ground := Ground.data }, { on := 73, ground := Ground.chain }], guard := none }) (v := ?v76_369) rfl (by kernel_rfl) (by kernel_rfl) (by kernel_rfl) (fun _ _ _ h => h) (Or.inl ⟨by rfl, ?h76_369⟩) (by assumption) ?r76_369
  case h76_369 =>
    intro W hSW
    try dsimp only at hSW
    go_simp
    try with_reducible rfl
  try simp only [Act.put, List.setIfInBounds_toArray, List.set_cons_zero, List.set_cons_succ]
  refine wpAnyH_take (i := 77) (oi := { dst := some 155, op := Op.move (Operand.tmp 18), type := 3, pos := "law.go:46", after := #[{ on := 76, ground := Ground.guard }], guard := some (76, true) }) (v := ?v77_370) rfl (by kernel_rfl) (by kernel_rfl) (by kernel_rfl) (fun _ _ _ h => h) (Or.inl ⟨by rfl, ?h77_370⟩) (by assumption) ?r77_370
  case h77_370 =>
    intro W hSW
    try dsimp only at hSW
    go_simp
    try with_reducible rfl
  try simp only [Act.put, List.setIfInBounds_toArray, List.set_cons_zero, List.set_cons_succ]
  refine wpAnyH_take (i := 78) (oi := { dst := some 156, op := Op.binOp BinOp.eql 3 (Operand.tmp 155) (Operand.const (Value.int IntKind.i64 1)) 3, type := 4, pos := "law.go:46", after := #[{ on := 77, ground := Ground.data }, { on := 76, ground := Ground.guard }], guard := some (76, true) }) (v := ?v78_371) rfl (by kernel_rfl) (by kernel_rfl) (by kernel_rfl) (fun _ _ _ h => h) (Or.inl ⟨by rfl, ?h78_371⟩) (by assumption) ?r78_371
  case h78_371 =>
    intro W hSW
    try dsimp only at hSW
    go_simp
    try with_reducible rfl
  try simp only [Act.put, List.setIfInBounds_toArray, List.set_cons_zero, List.set_cons_succ]
  refine wpAnyH_take (i := 79) (oi := { dst := some 157, op := Op.pick (Operand.tmp 154) (Operand.tmp 156) (Operand.const (Value.bool false)), type := 4, pos := "law.go:46", after := #[{ on := 76, ground := Ground.data }, { on := 78, ground := Ground.data }], guard := none }) (v := ?v79_372) rfl (by kernel_rfl) (by kernel_rfl) (by kernel_rfl) (fun _ _ _ h => h) (Or.inl ⟨by rfl, ?h79_372⟩) (by assumption) ?r79_372
  case h79_372 =>
    intro W hSW
    try dsimp only at hSW
    go_simp
    try with_reducible rfl
  try simp only [Act.put, List.setIfInBounds_toArray, List.set_cons_zero, List.set_cons_succ]
  refine wpAnyH_take (i := 80) (oi := { dst := some 158, op := Op.move (Operand.tmp 157), type := 4, pos := "law.go:46", after := #[{ on := 79, ground := Ground.data }, { on := 76, ground := Ground.chain }], guard := none }) (v := ?v80_373) rfl (by kernel_rfl) (by kernel_rfl) (by kernel_rfl) (fun _ _ _ h => h) (Or.inl ⟨by rfl, ?h80_373⟩) (by assumption) ?r80_373
  case h80_373 =>
    intro W hSW
    try dsimp only at hSW
    go_simp
    try with_reducible rfl
  try simp only [Act.put, List.setIfInBounds_toArray, List.set_cons_zero, List.set_cons_succ]
  refine wpAnyH_take (i := 81) (oi := { dst := some 159, op := Op.move (Operand.tmp 19), type := 4, pos := "law.go:46", after := #[{ on := 80, ground := Ground.guard }], guard := some (80, true) }) (v := ?v81_374) rfl (by kernel_rfl) (by kernel_rfl) (by kernel_rfl) (fun _ _ _ h => h) (Or.inl ⟨by rfl, ?h81_374⟩) (by assumption) ?r81_374
  case h81_374 =>
    intro W hSW
    try dsimp only at hSW
    go_simp
    try with_reducible rfl
  try simp only [Act.put, List.setIfInBounds_toArray, List.set_cons_zero, List.set_cons_succ]
  refine wpAnyH_take (i := 82) (oi := { dst := some 160, op := Op.pick (Operand.tmp 158) (Operand.tmp 159) (Operand.const (Value.bool false)), type := 4, pos := "law.go:46", after := #[{ on := 80, ground := Ground.data }, { on := 81, ground := Ground.data }], guard := none }) (v := ?v82_375) rfl (by kernel_rfl) (by kernel_rfl) (by kernel_rfl) (fun _ _ _ h => h) (Or.inl ⟨by rfl, ?h82_375⟩) (by assumption) ?r82_375
  case h82_375 =>
    intro W hSW
    try dsimp only at hSW
    go_simp
    try with_reducible rfl
  try simp only [Act.put, List.setIfInBounds_toArray, List.set_cons_zero, List.set_cons_succ]
  refine wpAnyH_take (i := 83) (oi := { dst := some 0, op := Op.assign (Operand.tmp 160), type := 4, pos := "law.go:46", after := ([{ on := 82, ground := Ground.data }, { on := 80, ground := Ground.chain }, { on := 0, ground := Ground.phase }, { on := 1, ground := Ground.phase }, { on := 2, ground := Ground.phase }, { on := 3, ground := Ground.phase }, { on := 4, ground := Ground.phase }, { on := 5, ground := Ground.phase }, { on := 6, ground := Ground.phase }, { on := 7, ground := Ground.phase }, { on := 8, ground := Ground.phase }, { on := 9, ground := Ground.phase }, { on := 10, ground := Ground.phase }, { on := 11, ground := Ground.phase }, { on := 12, ground := Ground.phase }, { on := 13, ground := Ground.phase }, { on := 14, ground := Ground.phase }, { on := 15, ground := Ground.phase }, { on := 16, ground := Ground.phase }, { on := 17, ground := Ground.phase }, { on := 18, ground := Ground.phase }, { on := 19, ground := Ground.phase }, { on := 20, ground := Ground.phase }, { on := 21, ground := Ground.phase }, { on := 22, ground := Ground.phase }, { on := 23, ground := Ground.phase }, { on := 24, ground := Ground.phase }, { on := 25, ground := Ground.phase }, { on := 26, ground := Ground.phase }, { on := 27, ground := Ground.phase }, { on := 28, ground := Ground.phase }, { on := 29, ground := Ground.phase }, { on := 30, ground := Ground.phase }, { on := 31, ground := Ground.phase }, { on := 32, ground := Ground.phase }, { on := 33, ground := Ground.phase }, { on := 34, ground := Ground.phase }, { on := 35, ground := Ground.phase }, { on := 36, ground := Ground.phase }, { on := 37, ground := Ground.phase }, { on := 38, ground := Ground.phase }, { on := 39, ground := Ground.phase }].append [{ on := 40, ground := Ground.phase }, { on := 41, ground := Ground.phase }, { on := 42, ground := Ground.phase }, { on := 43, ground := Ground.phase }, { on := 44, ground := Ground.phase }, { on := 45, ground := Ground.phase }, { on := 46, ground := Ground.phase }, { on := 47, ground := Ground.phase }, { on := 48, ground := Ground.phase }, { on := 49, ground := Ground.phase }, { on := 50, ground := Ground.phase }, { on := 51, ground := Ground.phase }, { on := 52, ground := Ground.phase }, { on := 53, ground := Ground.phase }, { on := 54, ground := Ground.phase }, { on := 55, ground := Ground.phase }, { on := 56, ground := Ground.phase }, { on := 57, ground := Ground.phase }, { on := 58, ground := Ground.phase }, { on := 59, ground := Ground.phase }, { on := 60, ground := Ground.phase }, { on := 61, ground := Ground.phase }, { on := 62, ground := Ground.phase }, { on := 63, ground := Ground.phase }, { on := 64, ground := Ground.phase }, { on := 65, ground := Ground.phase }, { on := 66, ground := Ground.phase }, { on := 67, ground := Ground.phase }, { on := 68, ground := Ground.phase }, { on := 69, ground := Ground.phase }, { on := 70, ground := Ground.phase }, { on := 71, ground := Ground.phase }, { on := 72, ground := Ground.phase }, { on := 73, ground := Ground.phase }, { on := 74, ground := Ground.phase }, { on := 75, ground := Ground.phase }, { on := 76, ground := Ground.phase }, { on := 77, ground := Ground.phase }, { on := 78, ground := Ground.phase }, { on := 79, ground := Ground.phase }, { on := 80, ground := Ground.phase }, { on := 81, ground := Ground.phase }, { on := 82, ground := Ground.phase }]).toArray, guard := none }) (v := ?v83_376) rfl (by kernel_rfl) (by kernel_rfl) (by kernel_rfl) (fun _ _ _ h => h) (Or.inl ⟨by rfl, ?h83_376⟩) (by assumption) ?r83_376
  case h83_376 =>
    intro W hSW
    try dsimp only at hSW
    go_simp
    try with_reducible rfl
  try simp only [Act.put, List.setIfInBounds_toArray, List.set_cons_zero, List.set_cons_succ]
  refine wpAnyH_done (by kernel_rfl) ?_ _
  go_wp2_with fail
  go_ret
  exact ⟨rfl, HS.out.be.trans ((hv117).mono HS.out.be.size)⟩
end Go.Proofs.YtihhkcndcgljbaaGreat
