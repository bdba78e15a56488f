/- The law's sanity. No condition. -/
import Derived.Test.YtcmgnjdhjnclkaaStrSA
import Derived.Test.YtcmgnjdhjnclkaaHeld2
namespace Go.Proofs.Ytcmgnjdhjnclkaa.S
set_option linter.unusedVariables false
set_option linter.unusedSimpArgs false
open Go.RowKit
section
open Str
def sL0 : List Rw := [free, free, free]
def sL1 : List Rw := [⟨0, 2, [⟨0, 1, 0⟩]⟩, free, free]
def sL2 : List Rw := [⟨0, 2, [⟨0, 1, 0⟩, ⟨1, 1, 1⟩]⟩, free, free]
def sL3 : List Rw := [⟨0, 2, [⟨0, 1, 0⟩, ⟨1, 1, 1⟩]⟩, ⟨0, 2, [⟨0, 1, 2⟩]⟩, free]
def sL4 : List Rw := [⟨0, 2, [⟨0, 1, 0⟩, ⟨1, 1, 1⟩]⟩, ⟨0, 2, [⟨0, 1, 2⟩]⟩, ⟨1, 4, [⟨0, 1, 3⟩]⟩]
def sL5 : List Rw := [⟨0, 2, [⟨1, 1, 1⟩]⟩, ⟨0, 2, [⟨0, 1, 2⟩]⟩, ⟨1, 4, [⟨0, 1, 3⟩]⟩]
def sL6 : List Rw := [⟨0, 2, [⟨0, 0, 0⟩, ⟨1, 1, 1⟩]⟩, ⟨0, 2, [⟨0, 1, 2⟩]⟩, ⟨1, 4, [⟨0, 1, 3⟩]⟩]
def sL7 : List Rw := [⟨0, 2, [⟨1, 1, 1⟩]⟩, free, ⟨1, 4, [⟨0, 1, 3⟩]⟩]
theorem sf3 : alcF six sL0 0 2 1 0 = .ok sL1 0 0 := by decide
theorem sf4 : alcF six sL1 0 2 1 1 = .ok sL2 0 1 := by decide
theorem sf5 : alcF six sL2 0 2 1 2 = .ok sL3 1 0 := by decide
theorem sf6 : alcF six sL3 1 4 1 3 = .ok sL4 2 0 := by decide
theorem sf7 : alcF six sL4 1 4 0 0 = .full := by decide
theorem sf8 : ixr sL4 (0 : Nat) 0 = (0 : Nat) := by decide
theorem sr8 : rel sL4 0 0 = sL5 := by decide
theorem sf9 : alcF six sL5 0 2 0 0 = .ok sL6 0 0 := by decide
theorem sf10 : alcF six sL5 0 3 0 0 = .arg := by decide
theorem sf11 : ixr sL5 (1 : Nat) 0 = (0 : Nat) := by decide
theorem sr11 : rel sL5 1 0 = sL7 := by decide
theorem sm0 : ∀ r ∈ sL0, r.used.length ≤ 60000 := by decide
theorem sm1 : ∀ r ∈ sL1, r.used.length ≤ 60000 := by decide
theorem sm2 : ∀ r ∈ sL2, r.used.length ≤ 60000 := by decide
theorem sm3 : ∀ r ∈ sL3, r.used.length ≤ 60000 := by decide
theorem sm4 : ∀ r ∈ sL4, r.used.length ≤ 60000 := by decide
theorem sm5 : ∀ r ∈ sL5, r.used.length ≤ 60000 := by decide
theorem sh7 : held sL7 (-1) = 1 := by decide
theorem sh4 : held sL4 0 = 2 := by decide
theorem sv4 : validB six sL4 = true := by decide
theorem sv7 : validB six (sL7.take 2) = false := by decide
end
theorem infoCf : (Try.prog.info? 23).map (fun i => (i.zero, i.size)) = some (some (.agg (cfL ⟨0, 0, 0, 0, 0, 0⟩).toArray), (cfL ⟨0, 0, 0, 0, 0, 0⟩).length) := by kernel_rfl
theorem new_six (w : World) : Calls Try.prog 13 #[cfV Str.six] w fun e w' => ∃ A c, e = .returned (.tuple #[.slice A 3 c, .int .i64 0]) ∧ RAt w' A 3 c sL0 ∧ Below w.heap.size w w' := by
  refine (new_any Str.six w).mono fun e w' h => ?_
  unfold NewIs at h
  rw [if_pos (by decide)] at h
  obtain ⟨A, c, E, he, ho, hb⟩ := h
  exact ⟨A, c, he, .of_own ho, hb⟩
/-- what is kept of the way -/
structure SanS (w0 : World) (b1 : Nat) (bs : List (Nat × List Value)) (rs : List ((Option Addr × Nat) × List Str.Rw)) (W : World) : Prop where
  cf : IsRow W b1 23 (cfL Str.six)
  bx : ∀ p ∈ bs, IsRow W p.1 29 p.2
  rw : ∀ p ∈ rs, RAt W p.1.1 3 p.1.2 p.2
  be : Below w0.heap.size w0 W
section
variable {w0 W W' : World} {b1 : Nat} {bs : List (Nat × List Value)} {rs : List ((Option Addr × Nat) × List Str.Rw)}
theorem SanS.below (h : SanS w0 b1 bs rs W) (hb : Below W.heap.size W W') : SanS w0 b1 bs rs W' :=
  ⟨h.cf.below' hb, fun p hp => (h.bx p hp).below' hb, fun p hp => (h.rw p hp).below hb, h.be.trans (hb.mono h.be.size)⟩
theorem SanS.box (h : SanS w0 b1 bs rs W) {b : Nat} {l : List Value} (hr : IsRow W b 29 l) : SanS w0 b1 ((b, l) :: bs) rs W :=
  ⟨h.cf, fun p hp => (List.mem_cons.1 hp).elim (fun e => by rw [e]; exact hr) (fun hp => h.bx p hp), h.rw, h.be⟩
theorem SanS.row (h : SanS w0 b1 bs rs W) {A : Option Addr} {c : Nat} {l : List Str.Rw} (hr : RAt W A 3 c l) : SanS w0 b1 bs (((A, c), l) :: rs) W :=
  ⟨h.cf, h.bx, fun p hp => (List.mem_cons.1 hp).elim (fun e => by rw [e]; exact hr) (fun hp => h.rw p hp), h.be⟩
end
set_option maxRecDepth 100000 in
set_option maxHeartbeats 16000000 in
theorem sanity_any (w : World) : Calls Try.prog 8 #[] w fun e w' => e = .returned (.bool true) ∧ Below w.heap.size w w' := by
  have HCV : Hid (cfV Str.six = .agg (cfL Str.six).toArray) := Lib.hid rfl
  have HSX := Lib.hid (fun W => six_any W)
  have HNW := Lib.hid (fun W => new_six W)
  have HX3 := Lib.hid (fun (W : World) (A : Option Addr) (c : Nat) (h : RAt W A 3 c sL0) => alc_ok h Str.six 0 2 1 0 sm0 sf3)
  have HX4 := Lib.hid (fun (W : World) (A : Option Addr) (c : Nat) (h : RAt W A 3 c sL1) => alc_ok h Str.six 0 2 1 1 sm1 sf4)
  have HX5 := Lib.hid (fun (W : World) (A : Option Addr) (c : Nat) (h : RAt W A 3 c sL2) => alc_ok h Str.six 0 2 1 2 sm2 sf5)
  have HX6 := Lib.hid (fun (W : World) (A : Option Addr) (c : Nat) (h : RAt W A 3 c sL3) => alc_ok h Str.six 1 4 1 3 sm3 sf6)
  have HX7 := Lib.hid (fun (W : World) (A : Option Addr) (c : Nat) (h : RAt W A 3 c sL4) => alc_full h Str.six 1 4 0 0 sm4 sf7)
  have HX8 := Lib.hid (fun (W : World) (A : Option Addr) (c : Nat) (h : RAt W A 3 c sL4) => rel_ok h 0 0 sf8)
  rw [sr8] at HX8
  have HX9 := Lib.hid (fun (W : World) (A : Option Addr) (c : Nat) (h : RAt W A 3 c sL5) => alc_ok h Str.six 0 2 0 0 sm5 sf9)
  have HX10 := Lib.hid (fun (W : World) (A : Option Addr) (c : Nat) (h : RAt W A 3 c sL5) => alc_arg h Str.six 0 3 0 0 sm5 sf10)
  have HX11 := Lib.hid (fun (W : World) (A : Option Addr) (c : Nat) (h : RAt W A 3 c sL5) => rel_ok h 1 0 sf11)
  rw [sr11] at HX11
  have HFR := Lib.hid (fun (W : World) (A : Option Addr) (c : Nat) (h : RAt W A 3 c sL7) => free_r h)
  rw [sh7] at HFR
  have HHE := Lib.hid (fun (W : World) (A : Option Addr) (c : Nat) (h : RAt W A 3 c sL4) => held_r h 0)
  rw [sh4] at HHE
  have HVA := Lib.hid (fun (W : World) (A : Option Addr) (c : Nat) (h : RAt W A 3 c sL4) => valid_r h Str.six)
  rw [sv4] at HVA
  have HVB := Lib.hid (fun (W : World) (A : Option Addr) (c : Nat) (h : RAt W A 3 c sL7) => valid_r (h.take (m := 2) (by decide)) Str.six)
  rw [sv7] at HVB
  rw [HCV.out] at HSX HNW HX3 HX4 HX5 HX6 HX7 HX9 HX10 HVA HVB
  have HCL : Hid ((cfL Str.six).length = 6) := Lib.hid rfl
  have HCO : Hid ((cfL Str.six).all (·.oneCell') = true) := Lib.hid (by decide)
  obtain ⟨cl, hcl⟩ : ∃ y, cfL Str.six = y := ⟨_, rfl⟩
  rw [hcl] at HSX HNW HCL HCO HX3 HX4 HX5 HX6 HX7 HX9 HX10 HVA HVB
  have HCE := Lib.hid hcl
  clear hcl
  go_enter Try.func8, Try.ntmps8
  go_upto_region 2 with (first
    | (go_at_call 20; refine (HSX.out _).mono ?_; rintro e w1 ⟨rfl, b1⟩)
    | (refine wpList_allocRow rfl _ rfl _ infoCf ?_; intro w2 r2 b2 z2; clear z2)
    | (refine wpList_storeRow rfl _ (.tmp 1) (.tmp 30) rfl (l' := cl) r2 rfl rfl (by rw [HCL.out]; exact sizeCf) (by rw [HCL.out]; rfl) HCO.out ?_; intro w3 r3 g3 z3; clear z3))
  have hb := (b1.trans (b2.mono b1.size)).grown g3 (b1.trans (b2.mono b1.size)).size (fun k e => by have := Option.some.inj e; have := b1.size; omega)
  obtain ⟨bc, hbc⟩ : ∃ y, w1.heap.size = y := ⟨_, rfl⟩
  rw [hbc] at r3 ⊢
  have HS : Hid (SanS w bc [] [] w3) := Lib.hid ⟨by rw [HCE.out]; exact r3, (fun p hp => by cases hp), (fun p hp => by cases hp), hb⟩
  clear b1 b2 r2 r3 g3 hb hbc
  go_upto_region 3 with (first
    | (refine wpList_load_rg rfl _ (.tmp 1) rfl bc 0 rfl cl _ (fun j v hv => by rw [Nat.zero_add, (HCE.out ▸ HS.out.cf : IsRow _ bc 23 cl).cell]; exact hv) Try.underlying23 rfl (by rw [HCL.out]; exact sizeCf) ?_)
    | (go_at_call 13; refine (HNW.out _).mono ?_; rintro e w5 ⟨A2, c2, rfl, ra2, b5⟩))
  replace HS := Lib.hid ((HS.out.below b5).row ra2)
  clear ra2 b5
  go_upto_region 4 with (first
    | (refine wpList_load_rg rfl _ (.tmp 1) rfl bc 0 rfl cl _ (fun j v hv => by rw [Nat.zero_add, (HCE.out ▸ HS.out.cf : IsRow _ bc 23 cl).cell]; exact hv) Try.underlying23 rfl (by rw [HCL.out]; exact sizeCf) ?_)
    | (go_at_call 9; refine (HX3.out _ _ _ (HS.out.rw _ (List.mem_cons_self ..))).mono ?_; rintro e w5 ⟨A3, c3, rfl, ra, bb⟩)
    | (refine wpList_allocRow rfl _ rfl _ infoSt' ?_; intro w6 r6 b6 z6; clear z6)
    | (refine wpList_storeRow rfl _ (.tmp 5) (.tmp 42) rfl (l' := [.int .i64 0, .int .i64 0]) r6 rfl rfl sizeSt rfl rfl ?_; intro w7 r7 g7 z7; clear z7))
  have hb7 := b6.grown g7 b6.size (fun k e => by have := Option.some.inj e; omega)
  obtain ⟨b5, hbx⟩ : ∃ y, w5.heap.size = y := ⟨_, rfl⟩
  rw [hbx] at r7 ⊢
  replace HS := Lib.hid ((((HS.out.below bb).row ra).below hb7).box r7)
  clear ra bb r6 b6 r7 g7 hb7 hbx
  go_upto_region 5 with (first
    | (refine wpList_load_rg rfl _ (.tmp 1) rfl bc 0 rfl cl _ (fun j v hv => by rw [Nat.zero_add, (HCE.out ▸ HS.out.cf : IsRow _ bc 23 cl).cell]; exact hv) Try.underlying23 rfl (by rw [HCL.out]; exact sizeCf) ?_)
    | (go_at_call 9; refine (HX4.out _ _ _ (HS.out.rw _ (List.mem_cons_self ..))).mono ?_; rintro e w5 ⟨A4, c4, rfl, ra, bb⟩)
    | (refine wpList_allocRow rfl _ rfl _ infoSt' ?_; intro w6 r6 b6 z6; clear z6)
    | (refine wpList_storeRow rfl _ (.tmp 8) (.tmp 50) rfl (l' := [.int .i64 0, .int .i64 1]) r6 rfl rfl sizeSt rfl rfl ?_; intro w7 r7 g7 z7; clear z7))
  have hb7 := b6.grown g7 b6.size (fun k e => by have := Option.some.inj e; omega)
  obtain ⟨b8, hbx⟩ : ∃ y, w5.heap.size = y := ⟨_, rfl⟩
  rw [hbx] at r7 ⊢
  replace HS := Lib.hid ((((HS.out.below bb).row ra).below hb7).box r7)
  clear ra bb r6 b6 r7 g7 hb7 hbx
  go_upto_region 6 with (first
    | (refine wpList_load_rg rfl _ (.tmp 1) rfl bc 0 rfl cl _ (fun j v hv => by rw [Nat.zero_add, (HCE.out ▸ HS.out.cf : IsRow _ bc 23 cl).cell]; exact hv) Try.underlying23 rfl (by rw [HCL.out]; exact sizeCf) ?_)
    | (go_at_call 9; refine (HX5.out _ _ _ (HS.out.rw _ (List.mem_cons_self ..))).mono ?_; rintro e w5 ⟨A5, c5, rfl, ra, bb⟩)
    | (refine wpList_allocRow rfl _ rfl _ infoSt' ?_; intro w6 r6 b6 z6; clear z6)
    | (refine wpList_storeRow rfl _ (.tmp 11) (.tmp 58) rfl (l' := [.int .i64 1, .int .i64 0]) r6 rfl rfl sizeSt rfl rfl ?_; intro w7 r7 g7 z7; clear z7))
  have hb7 := b6.grown g7 b6.size (fun k e => by have := Option.some.inj e; omega)
  obtain ⟨b11, hbx⟩ : ∃ y, w5.heap.size = y := ⟨_, rfl⟩
  rw [hbx] at r7 ⊢
  replace HS := Lib.hid ((((HS.out.below bb).row ra).below hb7).box r7)
  clear ra bb r6 b6 r7 g7 hb7 hbx
  go_upto_region 7 with (first
    | (refine wpList_load_rg rfl _ (.tmp 1) rfl bc 0 rfl cl _ (fun j v hv => by rw [Nat.zero_add, (HCE.out ▸ HS.out.cf : IsRow _ bc 23 cl).cell]; exact hv) Try.underlying23 rfl (by rw [HCL.out]; exact sizeCf) ?_)
    | (go_at_call 9; refine (HX6.out _ _ _ (HS.out.rw _ (List.mem_cons_self ..))).mono ?_; rintro e w5 ⟨A6, c6, rfl, ra, bb⟩)
    | (refine wpList_allocRow rfl _ rfl _ infoSt' ?_; intro w6 r6 b6 z6; clear z6)
    | (refine wpList_storeRow rfl _ (.tmp 14) (.tmp 66) rfl (l' := [.int .i64 2, .int .i64 0]) r6 rfl rfl sizeSt rfl rfl ?_; intro w7 r7 g7 z7; clear z7))
  have hb7 := b6.grown g7 b6.size (fun k e => by have := Option.some.inj e; omega)
  obtain ⟨b14, hbx⟩ : ∃ y, w5.heap.size = y := ⟨_, rfl⟩
  rw [hbx] at r7 ⊢
  replace HS := Lib.hid ((((HS.out.below bb).row ra).below hb7).box r7)
  clear ra bb r6 b6 r7 g7 hb7 hbx
  go_upto_region 8 with (first
    | (refine wpList_load_rg rfl _ (.tmp 1) rfl bc 0 rfl cl _ (fun j v hv => by rw [Nat.zero_add, (HCE.out ▸ HS.out.cf : IsRow _ bc 23 cl).cell]; exact hv) Try.underlying23 rfl (by rw [HCL.out]; exact sizeCf) ?_)
    | (go_at_call 9; refine (HX7.out _ _ _ (HS.out.rw _ (List.mem_cons_self ..))).mono ?_; rintro e w5 ⟨rfl, bb⟩)
    | (refine wpList_allocRow rfl _ rfl _ infoSt' ?_; intro w6 r6 b6 z6; clear z6)
    | (refine wpList_storeRow rfl _ (.tmp 17) (.tmp 74) rfl (l' := zSt) r6 rfl rfl sizeSt rfl rfl ?_; intro w7 r7 g7 z7; clear z7))
  have hb7 := b6.grown g7 b6.size (fun k e => by have := Option.some.inj e; omega)
  obtain ⟨b17, hbx⟩ : ∃ y, w5.heap.size = y := ⟨_, rfl⟩
  rw [hbx] at r7 ⊢
  replace HS := Lib.hid ((HS.out.below bb).below hb7)
  clear bb r6 b6 r7 g7 hb7 hbx
  go_upto_region 9 with (first
    | (refine wpList_load_rg rfl _ (.tmp 5) rfl b5 0 rfl [.int .i64 0, .int .i64 0] _ (fun j v hv => by rw [Nat.zero_add, (HS.out.bx _ (List.mem_cons_of_mem _ (List.mem_cons_of_mem _ (List.mem_cons_of_mem _ (List.mem_cons_self ..))))).cell]; exact hv) Try.underlying29 rfl sizeSt ?_)
    | (go_at_call 11; refine (HX8.out _ _ _ (HS.out.rw _ (List.mem_cons_self ..))).mono ?_; rintro e w5 ⟨A8, c8, rfl, ra, bb⟩))
  replace HS := Lib.hid ((HS.out.below bb).row ra)
  clear ra bb
  go_upto_region 10 with (first
    | (refine wpList_load_rg rfl _ (.tmp 1) rfl bc 0 rfl cl _ (fun j v hv => by rw [Nat.zero_add, (HCE.out ▸ HS.out.cf : IsRow _ bc 23 cl).cell]; exact hv) Try.underlying23 rfl (by rw [HCL.out]; exact sizeCf) ?_)
    | (go_at_call 9; refine (HX9.out _ _ _ (HS.out.rw _ (List.mem_cons_self ..))).mono ?_; rintro e w5 ⟨A9, c9, rfl, ra, bb⟩)
    | (refine wpList_allocRow rfl _ rfl _ infoSt' ?_; intro w6 r6 b6 z6; clear z6)
    | (refine wpList_storeRow rfl _ (.tmp 22) (.tmp 88) rfl (l' := [.int .i64 0, .int .i64 0]) r6 rfl rfl sizeSt rfl rfl ?_; intro w7 r7 g7 z7; clear z7))
  have hb7 := b6.grown g7 b6.size (fun k e => by have := Option.some.inj e; omega)
  obtain ⟨b22, hbx⟩ : ∃ y, w5.heap.size = y := ⟨_, rfl⟩
  rw [hbx] at r7 ⊢
  replace HS := Lib.hid ((((HS.out.below bb).row ra).below hb7).box r7)
  clear ra bb r6 b6 r7 g7 hb7 hbx
  go_upto_region 11 with (first
    | (refine wpList_load_rg rfl _ (.tmp 1) rfl bc 0 rfl cl _ (fun j v hv => by rw [Nat.zero_add, (HCE.out ▸ HS.out.cf : IsRow _ bc 23 cl).cell]; exact hv) Try.underlying23 rfl (by rw [HCL.out]; exact sizeCf) ?_)
    | (go_at_call 9; refine (HX10.out _ _ _ (HS.out.rw _ (List.mem_cons_of_mem _ (List.mem_cons_self ..)))).mono ?_; rintro e w5 ⟨rfl, bb⟩)
    | (refine wpList_allocRow rfl _ rfl _ infoSt' ?_; intro w6 r6 b6 z6; clear z6)
    | (refine wpList_storeRow rfl _ (.tmp 25) (.tmp 96) rfl (l' := zSt) r6 rfl rfl sizeSt rfl rfl ?_; intro w7 r7 g7 z7; clear z7))
  have hb7 := b6.grown g7 b6.size (fun k e => by have := Option.some.inj e; omega)
  obtain ⟨b25, hbx⟩ : ∃ y, w5.heap.size = y := ⟨_, rfl⟩
  rw [hbx] at r7 ⊢
  replace HS := Lib.hid ((HS.out.below bb).below hb7)
  clear bb r6 b6 r7 g7 hb7 hbx
  go_upto_region 12 with (first
    | (refine wpList_load_rg rfl _ (.tmp 11) rfl b11 0 rfl [.int .i64 1, .int .i64 0] _ (fun j v hv => by rw [Nat.zero_add, (HS.out.bx _ (List.mem_cons_of_mem _ (List.mem_cons_of_mem _ (List.mem_cons_self ..)))).cell]; exact hv) Try.underlying29 rfl sizeSt ?_)
    | (go_at_call 11; refine (HX11.out _ _ _ (HS.out.rw _ (List.mem_cons_of_mem _ (List.mem_cons_self ..)))).mono ?_; rintro e w5 ⟨A11, c11, rfl, ra, bb⟩))
  replace HS := Lib.hid ((HS.out.below bb).row ra)
  clear ra bb
  have Rb5 := HS.out.bx _ (List.mem_cons_of_mem _ (List.mem_cons_of_mem _ (List.mem_cons_of_mem _ (List.mem_cons_of_mem _ (List.mem_cons_self ..)))))
  have Rb11 := HS.out.bx _ (List.mem_cons_of_mem _ (List.mem_cons_of_mem _ (List.mem_cons_self ..)))
  have Rb14 := HS.out.bx _ (List.mem_cons_of_mem _ (List.mem_cons_self ..))
  have Rb22 := HS.out.bx _ (List.mem_cons_self ..)
  have E0 : ∀ W : World, (Op.equalIn 10000 29 (.agg #[.int .i64 0, .int .i64 0]) (.agg #[.int .i64 0, .int .i64 0])).run Try.prog W = .ok true W := fun W => (run_eq2 9998 0 0 0 0 W stF (by kernel_rfl)).trans (by simp)
  have E1 : ∀ W : World, (Op.equalIn 10000 29 (.agg #[.int .i64 1, .int .i64 0]) (.agg #[.int .i64 1, .int .i64 0])).run Try.prog W = .ok true W := fun W => (run_eq2 9998 1 0 1 0 W stF (by kernel_rfl)).trans (by simp)
  have E2 : ∀ W : World, (Op.equalIn 10000 29 (.agg #[.int .i64 2, .int .i64 0]) (.agg #[.int .i64 2, .int .i64 0])).run Try.prog W = .ok true W := fun W => (run_eq2 9998 2 0 2 0 W stF (by kernel_rfl)).trans (by simp)
  go_upto_region 13 with (first
    | (refine wpList_load_rg rfl _ (.tmp 5) rfl b5 0 rfl [.int .i64 0, .int .i64 0] _ (fun j v hv => by rw [Nat.zero_add, Rb5.cell]; exact hv) Try.underlying29 rfl sizeSt ?_)
    | (refine wpList_load_rg rfl _ (.tmp 11) rfl b11 0 rfl [.int .i64 1, .int .i64 0] _ (fun j v hv => by rw [Nat.zero_add, Rb11.cell]; exact hv) Try.underlying29 rfl sizeSt ?_)
    | (refine wpList_load_rg rfl _ (.tmp 14) rfl b14 0 rfl [.int .i64 2, .int .i64 0] _ (fun j v hv => by rw [Nat.zero_add, Rb14.cell]; exact hv) Try.underlying29 rfl sizeSt ?_))
  clear Rb5 Rb11 Rb14 Rb22
  have hv0 : Below w5.heap.size w5 w5.drew := (Below.refl _ _).drew
  refine wp_region_held_drew (S := fun W => Below w5.heap.size w5 W) (by kernel_rfl) (hv0) (fun hHeld => ?_)
  refine wpAnyH_take (i := 0) (oi := { dst := some 137, op := Op.move (Operand.tmp 29), type := 4, pos := "law.go:38", after := #[], guard := none }) (v := ?v0_1301) rfl (by kernel_rfl) (by kernel_rfl) (by kernel_rfl) (fun _ _ _ h => h) (Or.inl ⟨by rfl, ?h0_1301⟩) (by assumption) ?r0_1301
  case h0_1301 =>
    intro W hSW
    try dsimp only at hSW
    go_simp
    try with_reducible rfl
  try simp only [Act.put, List.setIfInBounds_toArray, List.set_cons_zero, List.set_cons_succ]
  refine wpAnyH_take (i := 1) (oi := { dst := some 138, op := Op.move (Operand.tmp 137), type := 4, pos := "law.go:38", after := #[{ on := 0, ground := Ground.data }], guard := none }) (v := ?v1_1302) rfl (by kernel_rfl) (by kernel_rfl) (by kernel_rfl) (fun _ _ _ h => h) (Or.inl ⟨by rfl, ?h1_1302⟩) (by assumption) ?r1_1302
  case h1_1302 =>
    intro W hSW
    try dsimp only at hSW
    go_simp
    try with_reducible rfl
  try simp only [Act.put, List.setIfInBounds_toArray, List.set_cons_zero, List.set_cons_succ]
  refine wpAnyH_take (i := 2) (oi := { dst := some 139, op := Op.move (Operand.tmp 20), type := 33, pos := "law.go:38", after := #[{ on := 1, ground := Ground.guard }], guard := some (1, true) }) (v := ?v2_1303) rfl (by kernel_rfl) (by kernel_rfl) (by kernel_rfl) (fun _ _ _ h => h) (Or.inl ⟨by rfl, ?h2_1303⟩) (by assumption) ?r2_1303
  case h2_1303 =>
    intro W hSW
    try dsimp only at hSW
    go_simp
    try with_reducible rfl
  try simp only [Act.put, List.setIfInBounds_toArray, List.set_cons_zero, List.set_cons_succ]
  refine wpAnyH_take (i := 3) (oi := { dst := some 140, op := Op.binOp BinOp.eql 33 (Operand.tmp 139) (Operand.const (Value.int IntKind.i64 0)) 33, type := 4, pos := "law.go:38", after := #[{ on := 2, ground := Ground.data }, { on := 1, ground := Ground.guard }], guard := some (1, true) }) (v := ?v3_1304) rfl (by kernel_rfl) (by kernel_rfl) (by kernel_rfl) (fun _ _ _ h => h) (Or.inl ⟨by rfl, ?h3_1304⟩) (by assumption) ?r3_1304
  case h3_1304 =>
    intro W hSW
    try dsimp only at hSW
    go_simp
    try with_reducible rfl
  try simp only [Act.put, List.setIfInBounds_toArray, List.set_cons_zero, List.set_cons_succ]
  refine wpAnyH_take (i := 4) (oi := { dst := some 141, op := Op.pick (Operand.tmp 138) (Operand.tmp 140) (Operand.const (Value.bool false)), type := 4, pos := "law.go:38", after := #[{ on := 1, ground := Ground.data }, { on := 3, ground := Ground.data }], guard := none }) (v := ?v4_1305) rfl (by kernel_rfl) (by kernel_rfl) (by kernel_rfl) (fun _ _ _ h => h) (Or.inl ⟨by rfl, ?h4_1305⟩) (by assumption) ?r4_1305
  case h4_1305 =>
    intro W hSW
    try dsimp only at hSW
    go_simp
    try with_reducible rfl
  try simp only [Act.put, List.setIfInBounds_toArray, List.set_cons_zero, List.set_cons_succ]
  refine wpAnyH_take (i := 5) (oi := { dst := some 142, op := Op.move (Operand.tmp 141), type := 4, pos := "law.go:38", after := #[{ on := 4, ground := Ground.data }, { on := 1, ground := Ground.chain }], guard := none }) (v := ?v5_1306) rfl (by kernel_rfl) (by kernel_rfl) (by kernel_rfl) (fun _ _ _ h => h) (Or.inl ⟨by rfl, ?h5_1306⟩) (by assumption) ?r5_1306
  case h5_1306 =>
    intro W hSW
    try dsimp only at hSW
    go_simp
    try with_reducible rfl
  try simp only [Act.put, List.setIfInBounds_toArray, List.set_cons_zero, List.set_cons_succ]
  refine wpAnyH_take (i := 6) (oi := { dst := some 143, op := Op.move (Operand.tmp 23), type := 33, pos := "law.go:38", after := #[{ on := 5, ground := Ground.guard }], guard := some (5, true) }) (v := ?v6_1307) rfl (by kernel_rfl) (by kernel_rfl) (by kernel_rfl) (fun _ _ _ h => h) (Or.inl ⟨by rfl, ?h6_1307⟩) (by assumption) ?r6_1307
  case h6_1307 =>
    intro W hSW
    try dsimp only at hSW
    go_simp
    try with_reducible rfl
  try simp only [Act.put, List.setIfInBounds_toArray, List.set_cons_zero, List.set_cons_succ]
  refine wpAnyH_take (i := 7) (oi := { dst := some 144, op := Op.binOp BinOp.eql 33 (Operand.tmp 143) (Operand.const (Value.int IntKind.i64 0)) 33, type := 4, pos := "law.go:38", after := #[{ on := 6, ground := Ground.data }, { on := 5, ground := Ground.guard }], guard := some (5, true) }) (v := ?v7_1308) rfl (by kernel_rfl) (by kernel_rfl) (by kernel_rfl) (fun _ _ _ h => h) (Or.inl ⟨by rfl, ?h7_1308⟩) (by assumption) ?r7_1308
  case h7_1308 =>
    intro W hSW
    try dsimp only at hSW
    go_simp
    try with_reducible rfl
  try simp only [Act.put, List.setIfInBounds_toArray, List.set_cons_zero, List.set_cons_succ]
  refine wpAnyH_take (i := 8) (oi := { dst := some 145, op := Op.pick (Operand.tmp 142) (Operand.tmp 144) (Operand.const (Value.bool false)), type := 4, pos := "law.go:38", after := #[{ on := 5, ground := Ground.data }, { on := 7, ground := Ground.data }], guard := none }) (v := ?v8_1309) rfl (by kernel_rfl) (by kernel_rfl) (by kernel_rfl) (fun _ _ _ h => h) (Or.inl ⟨by rfl, ?h8_1309⟩) (by assumption) ?r8_1309
  case h8_1309 =>
    intro W hSW
    try dsimp only at hSW
    go_simp
    try with_reducible rfl
  try simp only [Act.put, List.setIfInBounds_toArray, List.set_cons_zero, List.set_cons_succ]
  refine wpAnyH_take (i := 9) (oi := { dst := some 146, op := Op.move (Operand.tmp 145), type := 4, pos := "law.go:38", after := #[{ on := 8, ground := Ground.data }, { on := 5, ground := Ground.chain }], guard := none }) (v := ?v9_1310) rfl (by kernel_rfl) (by kernel_rfl) (by kernel_rfl) (fun _ _ _ h => h) (Or.inl ⟨by rfl, ?h9_1310⟩) (by assumption) ?r9_1310
  case h9_1310 =>
    intro W hSW
    try dsimp only at hSW
    go_simp
    try with_reducible rfl
  try simp only [Act.put, List.setIfInBounds_toArray, List.set_cons_zero, List.set_cons_succ]
  refine wpAnyH_take (i := 10) (oi := { dst := some 147, op := Op.load 29 (Operand.tmp 22), type := 29, pos := "law.go:38", after := #[{ on := 9, ground := Ground.guard }], guard := some (9, true) }) (v := .agg #[.int .i64 0, .int .i64 0]) rfl (by kernel_rfl) (by kernel_rfl) (by kernel_rfl) (fun _ _ _ h => h) (yieldsIf_load_mid (by rfl) 29 (.tmp 22) rfl b22 0 rfl [.int .i64 0, .int .i64 0] _ (fun V hV => fun j v hv => by rw [Nat.zero_add, ((HS.out.below hV).bx _ (List.mem_cons_self ..)).cell]; exact hv) Try.underlying29 rfl sizeSt) (by assumption) ?_
  try simp only [Act.put, List.setIfInBounds_toArray, List.set_cons_zero, List.set_cons_succ]
  refine wpAnyH_take (i := 11) (oi := { dst := some 148, op := Op.load 29 (Operand.tmp 5), type := 29, pos := "law.go:38", after := #[{ on := 9, ground := Ground.guard }], guard := some (9, true) }) (v := .agg #[.int .i64 0, .int .i64 0]) rfl (by kernel_rfl) (by kernel_rfl) (by kernel_rfl) (fun _ _ _ h => h) (yieldsIf_load_mid (by rfl) 29 (.tmp 5) rfl b5 0 rfl [.int .i64 0, .int .i64 0] _ (fun V hV => fun j v hv => by rw [Nat.zero_add, ((HS.out.below hV).bx _ (List.mem_cons_of_mem _ (List.mem_cons_of_mem _ (List.mem_cons_of_mem _ (List.mem_cons_of_mem _ (List.mem_cons_self ..)))))).cell]; exact hv) Try.underlying29 rfl sizeSt) (by assumption) ?_
  try simp only [Act.put, List.setIfInBounds_toArray, List.set_cons_zero, List.set_cons_succ]
  refine wpAnyH_take (i := 12) (oi := { dst := some 149, op := Op.binOp BinOp.eql 29 (Operand.tmp 147) (Operand.tmp 148) 29, type := 4, pos := "law.go:38", after := #[{ on := 10, ground := Ground.data }, { on := 11, ground := Ground.data }, { on := 9, ground := Ground.guard }], guard := some (9, true) }) (v := ?v12_1313) rfl (by kernel_rfl) (by kernel_rfl) (by kernel_rfl) (fun _ _ _ h => h) (Or.inl ⟨by rfl, ?h12_1313⟩) (by assumption) ?r12_1313
  case h12_1313 =>
    intro W hSW
    try dsimp only at hSW
    go_simp
    try with_reducible rfl
  try simp only [Act.put, List.setIfInBounds_toArray, List.set_cons_zero, List.set_cons_succ]
  refine wpAnyH_take (i := 13) (oi := { dst := some 150, op := Op.pick (Operand.tmp 146) (Operand.tmp 149) (Operand.const (Value.bool false)), type := 4, pos := "law.go:38", after := #[{ on := 9, ground := Ground.data }, { on := 12, ground := Ground.data }], guard := none }) (v := ?v13_1314) rfl (by kernel_rfl) (by kernel_rfl) (by kernel_rfl) (fun _ _ _ h => h) (Or.inl ⟨by rfl, ?h13_1314⟩) (by assumption) ?r13_1314
  case h13_1314 =>
    intro W hSW
    try dsimp only at hSW
    go_simp
    try with_reducible rfl
  try simp only [Act.put, List.setIfInBounds_toArray, List.set_cons_zero, List.set_cons_succ]
  refine wpAnyH_take (i := 14) (oi := { dst := some 151, op := Op.move (Operand.tmp 150), type := 4, pos := "law.go:38", after := #[{ on := 13, ground := Ground.data }, { on := 9, ground := Ground.chain }], guard := none }) (v := ?v14_1315) rfl (by kernel_rfl) (by kernel_rfl) (by kernel_rfl) (fun _ _ _ h => h) (Or.inl ⟨by rfl, ?h14_1315⟩) (by assumption) ?r14_1315
  case h14_1315 =>
    intro W hSW
    try dsimp only at hSW
    go_simp
    try with_reducible rfl
  try simp only [Act.put, List.setIfInBounds_toArray, List.set_cons_zero, List.set_cons_succ]
  refine wpAnyH_take (i := 15) (oi := { dst := some 152, op := Op.move (Operand.tmp 26), type := 33, pos := "law.go:38", after := #[{ on := 14, ground := Ground.guard }], guard := some (14, true) }) (v := ?v15_1316) rfl (by kernel_rfl) (by kernel_rfl) (by kernel_rfl) (fun _ _ _ h => h) (Or.inl ⟨by rfl, ?h15_1316⟩) (by assumption) ?r15_1316
  case h15_1316 =>
    intro W hSW
    try dsimp only at hSW
    go_simp
    try with_reducible rfl
  try simp only [Act.put, List.setIfInBounds_toArray, List.set_cons_zero, List.set_cons_succ]
  refine wpAnyH_take (i := 16) (oi := { dst := some 153, op := Op.binOp BinOp.eql 33 (Operand.tmp 152) (Operand.const (Value.int IntKind.i64 1)) 33, type := 4, pos := "law.go:38", after := #[{ on := 15, ground := Ground.data }, { on := 14, ground := Ground.guard }], guard := some (14, true) }) (v := ?v16_1317) rfl (by kernel_rfl) (by kernel_rfl) (by kernel_rfl) (fun _ _ _ h => h) (Or.inl ⟨by rfl, ?h16_1317⟩) (by assumption) ?r16_1317
  case h16_1317 =>
    intro W hSW
    try dsimp only at hSW
    go_simp
    try with_reducible rfl
  try simp only [Act.put, List.setIfInBounds_toArray, List.set_cons_zero, List.set_cons_succ]
  refine wpAnyH_take (i := 17) (oi := { dst := some 154, op := Op.pick (Operand.tmp 151) (Operand.tmp 153) (Operand.const (Value.bool false)), type := 4, pos := "law.go:38", after := #[{ on := 14, ground := Ground.data }, { on := 16, ground := Ground.data }], guard := none }) (v := ?v17_1318) rfl (by kernel_rfl) (by kernel_rfl) (by kernel_rfl) (fun _ _ _ h => h) (Or.inl ⟨by rfl, ?h17_1318⟩) (by assumption) ?r17_1318
  case h17_1318 =>
    intro W hSW
    try dsimp only at hSW
    go_simp
    try with_reducible rfl
  try simp only [Act.put, List.setIfInBounds_toArray, List.set_cons_zero, List.set_cons_succ]
  refine wpAnyH_take (i := 18) (oi := { dst := some 155, op := Op.move (Operand.tmp 154), type := 4, pos := "law.go:38", after := #[{ on := 17, ground := Ground.data }, { on := 14, ground := Ground.chain }], guard := none }) (v := ?v18_1319) rfl (by kernel_rfl) (by kernel_rfl) (by kernel_rfl) (fun _ _ _ h => h) (Or.inl ⟨by rfl, ?h18_1319⟩) (by assumption) ?r18_1319
  case h18_1319 =>
    intro W hSW
    try dsimp only at hSW
    go_simp
    try with_reducible rfl
  try simp only [Act.put, List.setIfInBounds_toArray, List.set_cons_zero, List.set_cons_succ]
  refine wpAnyH_take (i := 19) (oi := { dst := some 156, op := Op.move (Operand.tmp 28), type := 33, pos := "law.go:38", after := #[{ on := 18, ground := Ground.guard }], guard := some (18, true) }) (v := ?v19_1320) rfl (by kernel_rfl) (by kernel_rfl) (by kernel_rfl) (fun _ _ _ h => h) (Or.inl ⟨by rfl, ?h19_1320⟩) (by assumption) ?r19_1320
  case h19_1320 =>
    intro W hSW
    try dsimp only at hSW
    go_simp
    try with_reducible rfl
  try simp only [Act.put, List.setIfInBounds_toArray, List.set_cons_zero, List.set_cons_succ]
  refine wpAnyH_take (i := 20) (oi := { dst := some 157, op := Op.binOp BinOp.eql 33 (Operand.tmp 156) (Operand.const (Value.int IntKind.i64 0)) 33, type := 4, pos := "law.go:38", after := #[{ on := 19, ground := Ground.data }, { on := 18, ground := Ground.guard }], guard := some (18, true) }) (v := ?v20_1321) rfl (by kernel_rfl) (by kernel_rfl) (by kernel_rfl) (fun _ _ _ h => h) (Or.inl ⟨by rfl, ?h20_1321⟩) (by assumption) ?r20_1321
  case h20_1321 =>
    intro W hSW
    try dsimp only at hSW
    go_simp
    try with_reducible rfl
  try simp only [Act.put, List.setIfInBounds_toArray, List.set_cons_zero, List.set_cons_succ]
  refine wpAnyH_take (i := 21) (oi := { dst := some 158, op := Op.pick (Operand.tmp 155) (Operand.tmp 157) (Operand.const (Value.bool false)), type := 4, pos := "law.go:38", after := #[{ on := 18, ground := Ground.data }, { on := 20, ground := Ground.data }], guard := none }) (v := ?v21_1322) rfl (by kernel_rfl) (by kernel_rfl) (by kernel_rfl) (fun _ _ _ h => h) (Or.inl ⟨by rfl, ?h21_1322⟩) (by assumption) ?r21_1322
  case h21_1322 =>
    intro W hSW
    try dsimp only at hSW
    go_simp
    try with_reducible rfl
  try simp only [Act.put, List.setIfInBounds_toArray, List.set_cons_zero, List.set_cons_succ]
  refine wpAnyH_take (i := 22) (oi := { dst := some 159, op := Op.move (Operand.tmp 158), type := 4, pos := "law.go:38", after := #[{ on := 21, ground := Ground.data }, { on := 18, ground := Ground.chain }], guard := none }) (v := ?v22_1323) rfl (by kernel_rfl) (by kernel_rfl) (by kernel_rfl) (fun _ _ _ h => h) (Or.inl ⟨by rfl, ?h22_1323⟩) (by assumption) ?r22_1323
  case h22_1323 =>
    intro W hSW
    try dsimp only at hSW
    go_simp
    try with_reducible rfl
  try simp only [Act.put, List.setIfInBounds_toArray, List.set_cons_zero, List.set_cons_succ]
  refine wpAnyH_take (i := 23) (oi := { dst := some 160, op := Op.move (Operand.tmp 27), type := 25, pos := "law.go:38", after := #[{ on := 22, ground := Ground.guard }], guard := some (22, true) }) (v := ?v23_1324) rfl (by kernel_rfl) (by kernel_rfl) (by kernel_rfl) (fun _ _ _ h => h) (Or.inl ⟨by rfl, ?h23_1324⟩) (by assumption) ?r23_1324
  case h23_1324 =>
    intro W hSW
    try dsimp only at hSW
    go_simp
    try with_reducible rfl
  try simp only [Act.put, List.setIfInBounds_toArray, List.set_cons_zero, List.set_cons_succ]
  refine wpAnyH_ready (rs := [24]) (by kernel_rfl) (by simp) ?_
  refine AllReadyH.cons (o := { dst := some 161, op := Op.call { callee := Callee.value (Operand.func 21), args := #[Operand.tmp 160], argTypes := #[25] }, type := 3, pos := "law.go:38", after := #[{ on := 23, ground := Ground.data }, { on := 22, ground := Ground.chain }, { on := 22, ground := Ground.guard }], guard := some (22, true) }) rfl (fun K hK => ?_) AllReadyH.nil
  go_simp
  go_at_call 21
  refine (HFR.out _ _ _ ((HS.out.below hv0).rw _ (List.mem_cons_self ..))).mono ?_
  rintro e w50 ⟨rfl, b50⟩
  have hv50 : Below w5.heap.size w5 w50 := hv0.trans (b50.mono hv0.size)
  clear b50
  refine hK.out _ _ (hv50) (fun hHeld => ?_)
  clear hK K
  try simp only [Act.put, List.setIfInBounds_toArray, List.set_cons_zero, List.set_cons_succ]
  refine wpAnyH_take (i := 25) (oi := { dst := some 162, op := Op.binOp BinOp.eql 3 (Operand.tmp 161) (Operand.const (Value.int IntKind.i64 1)) 3, type := 4, pos := "law.go:38", after := #[{ on := 24, ground := Ground.data }, { on := 22, ground := Ground.guard }], guard := some (22, true) }) (v := ?v25_1325) rfl (by kernel_rfl) (by kernel_rfl) (by kernel_rfl) (fun _ _ _ h => h) (Or.inl ⟨by rfl, ?h25_1325⟩) (by assumption) ?r25_1325
  case h25_1325 =>
    intro W hSW
    try dsimp only at hSW
    go_simp
    try with_reducible rfl
  try simp only [Act.put, List.setIfInBounds_toArray, List.set_cons_zero, List.set_cons_succ]
  refine wpAnyH_take (i := 26) (oi := { dst := some 163, op := Op.pick (Operand.tmp 159) (Operand.tmp 162) (Operand.const (Value.bool false)), type := 4, pos := "law.go:38", after := #[{ on := 22, ground := Ground.data }, { on := 25, ground := Ground.data }], guard := none }) (v := ?v26_1326) rfl (by kernel_rfl) (by kernel_rfl) (by kernel_rfl) (fun _ _ _ h => h) (Or.inl ⟨by rfl, ?h26_1326⟩) (by assumption) ?r26_1326
  case h26_1326 =>
    intro W hSW
    try dsimp only at hSW
    go_simp
    try with_reducible rfl
  try simp only [Act.put, List.setIfInBounds_toArray, List.set_cons_zero, List.set_cons_succ]
  refine wpAnyH_take (i := 27) (oi := { dst := some 164, op := Op.move (Operand.tmp 163), type := 4, pos := "law.go:38", after := #[{ on := 26, ground := Ground.data }, { on := 24, ground := Ground.chain }], guard := none }) (v := ?v27_1327) rfl (by kernel_rfl) (by kernel_rfl) (by kernel_rfl) (fun _ _ _ h => h) (Or.inl ⟨by rfl, ?h27_1327⟩) (by assumption) ?r27_1327
  case h27_1327 =>
    intro W hSW
    try dsimp only at hSW
    go_simp
    try with_reducible rfl
  try simp only [Act.put, List.setIfInBounds_toArray, List.set_cons_zero, List.set_cons_succ]
  refine wpAnyH_take (i := 28) (oi := { dst := some 165, op := Op.move (Operand.tmp 13), type := 25, pos := "law.go:38", after := #[{ on := 27, ground := Ground.guard }], guard := some (27, true) }) (v := ?v28_1328) rfl (by kernel_rfl) (by kernel_rfl) (by kernel_rfl) (fun _ _ _ h => h) (Or.inl ⟨by rfl, ?h28_1328⟩) (by assumption) ?r28_1328
  case h28_1328 =>
    intro W hSW
    try dsimp only at hSW
    go_simp
    try with_reducible rfl
  try simp only [Act.put, List.setIfInBounds_toArray, List.set_cons_zero, List.set_cons_succ]
  refine wpAnyH_ready (rs := [29]) (by kernel_rfl) (by simp) ?_
  refine AllReadyH.cons (o := { dst := some 166, op := Op.call { callee := Callee.value (Operand.func 17), args := #[Operand.tmp 165, Operand.const (Value.int IntKind.i64 0)], argTypes := #[25, 3] }, type := 3, pos := "law.go:38", after := #[{ on := 28, ground := Ground.data }, { on := 27, ground := Ground.chain }, { on := 27, ground := Ground.guard }], guard := some (27, true) }) rfl (fun K hK => ?_) AllReadyH.nil
  go_simp
  go_at_call 17
  refine (HHE.out _ _ _ ((HS.out.below hv50).rw _ (List.mem_cons_of_mem _ (List.mem_cons_of_mem _ (List.mem_cons_of_mem _ (List.mem_cons_self ..)))))).mono ?_
  rintro e w51 ⟨rfl, b51⟩
  have hv51 : Below w5.heap.size w5 w51 := hv50.trans (b51.mono hv50.size)
  clear b51
  refine hK.out _ _ (hv51) (fun hHeld => ?_)
  clear hK K
  try simp only [Act.put, List.setIfInBounds_toArray, List.set_cons_zero, List.set_cons_succ]
  refine wpAnyH_take (i := 30) (oi := { dst := some 167, op := Op.binOp BinOp.eql 3 (Operand.tmp 166) (Operand.const (Value.int IntKind.i64 2)) 3, type := 4, pos := "law.go:38", after := #[{ on := 29, ground := Ground.data }, { on := 27, ground := Ground.guard }], guard := some (27, true) }) (v := ?v30_1329) rfl (by kernel_rfl) (by kernel_rfl) (by kernel_rfl) (fun _ _ _ h => h) (Or.inl ⟨by rfl, ?h30_1329⟩) (by assumption) ?r30_1329
  case h30_1329 =>
    intro W hSW
    try dsimp only at hSW
    go_simp
    try with_reducible rfl
  try simp only [Act.put, List.setIfInBounds_toArray, List.set_cons_zero, List.set_cons_succ]
  refine wpAnyH_take (i := 31) (oi := { dst := some 168, op := Op.pick (Operand.tmp 164) (Operand.tmp 167) (Operand.const (Value.bool false)), type := 4, pos := "law.go:38", after := #[{ on := 27, ground := Ground.data }, { on := 30, ground := Ground.data }], guard := none }) (v := ?v31_1330) rfl (by kernel_rfl) (by kernel_rfl) (by kernel_rfl) (fun _ _ _ h => h) (Or.inl ⟨by rfl, ?h31_1330⟩) (by assumption) ?r31_1330
  case h31_1330 =>
    intro W hSW
    try dsimp only at hSW
    go_simp
    try with_reducible rfl
  try simp only [Act.put, List.setIfInBounds_toArray, List.set_cons_zero, List.set_cons_succ]
  refine wpAnyH_take (i := 32) (oi := { dst := some 169, op := Op.move (Operand.tmp 168), type := 4, pos := "law.go:38", after := #[{ on := 31, ground := Ground.data }, { on := 29, ground := Ground.chain }], guard := none }) (v := ?v32_1331) rfl (by kernel_rfl) (by kernel_rfl) (by kernel_rfl) (fun _ _ _ h => h) (Or.inl ⟨by rfl, ?h32_1331⟩) (by assumption) ?r32_1331
  case h32_1331 =>
    intro W hSW
    try dsimp only at hSW
    go_simp
    try with_reducible rfl
  try simp only [Act.put, List.setIfInBounds_toArray, List.set_cons_zero, List.set_cons_succ]
  refine wpAnyH_take (i := 33) (oi := { dst := some 170, op := Op.load 23 (Operand.tmp 1), type := 23, pos := "law.go:38", after := #[{ on := 32, ground := Ground.guard }], guard := some (32, true) }) (v := .agg cl.toArray) rfl (by kernel_rfl) (by kernel_rfl) (by kernel_rfl) (fun _ _ _ h => h) (yieldsIf_load_mid (by rfl) 23 (.tmp 1) rfl bc 0 rfl cl _ (fun V hV => fun j v hv => by rw [Nat.zero_add, (HCE.out ▸ (HS.out.below hV).cf : IsRow _ bc 23 cl).cell]; exact hv) Try.underlying23 rfl (by rw [HCL.out]; exact sizeCf)) (by assumption) ?_
  try simp only [Act.put, List.setIfInBounds_toArray, List.set_cons_zero, List.set_cons_succ]
  refine wpAnyH_take (i := 34) (oi := { dst := some 171, op := Op.move (Operand.tmp 13), type := 25, pos := "law.go:38", after := #[{ on := 32, ground := Ground.guard }], guard := some (32, true) }) (v := ?v34_1333) rfl (by kernel_rfl) (by kernel_rfl) (by kernel_rfl) (fun _ _ _ h => h) (Or.inl ⟨by rfl, ?h34_1333⟩) (by assumption) ?r34_1333
  case h34_1333 =>
    intro W hSW
    try dsimp only at hSW
    go_simp
    try with_reducible rfl
  try simp only [Act.put, List.setIfInBounds_toArray, List.set_cons_zero, List.set_cons_succ]
  refine wpAnyH_ready (rs := [35]) (by kernel_rfl) (by simp) ?_
  refine AllReadyH.cons (o := { dst := some 172, op := Op.call { callee := Callee.value (Operand.func 22), args := #[Operand.tmp 170, Operand.tmp 171], argTypes := #[23, 25] }, type := 4, pos := "law.go:38", after := #[{ on := 33, ground := Ground.data }, { on := 34, ground := Ground.data }, { on := 32, ground := Ground.chain }, { on := 32, ground := Ground.guard }], guard := some (32, true) }) rfl (fun K hK => ?_) AllReadyH.nil
  go_simp
  go_at_call 22
  refine (HVA.out _ _ _ ((HS.out.below hv51).rw _ (List.mem_cons_of_mem _ (List.mem_cons_of_mem _ (List.mem_cons_of_mem _ (List.mem_cons_self ..)))))).mono ?_
  rintro e w52 ⟨rfl, b52⟩
  have hv52 : Below w5.heap.size w5 w52 := hv51.trans (b52.mono hv51.size)
  clear b52
  refine hK.out _ _ (hv52) (fun hHeld => ?_)
  clear hK K
  try simp only [Act.put, List.setIfInBounds_toArray, List.set_cons_zero, List.set_cons_succ]
  refine wpAnyH_take (i := 36) (oi := { dst := some 173, op := Op.pick (Operand.tmp 169) (Operand.tmp 172) (Operand.const (Value.bool false)), type := 4, pos := "law.go:38", after := #[{ on := 32, ground := Ground.data }, { on := 35, ground := Ground.data }], guard := none }) (v := ?v36_1334) rfl (by kernel_rfl) (by kernel_rfl) (by kernel_rfl) (fun _ _ _ h => h) (Or.inl ⟨by rfl, ?h36_1334⟩) (by assumption) ?r36_1334
  case h36_1334 =>
    intro W hSW
    try dsimp only at hSW
    go_simp
    try with_reducible rfl
  try simp only [Act.put, List.setIfInBounds_toArray, List.set_cons_zero, List.set_cons_succ]
  refine wpAnyH_take (i := 37) (oi := { dst := some 174, op := Op.move (Operand.tmp 173), type := 4, pos := "law.go:38", after := #[{ on := 36, ground := Ground.data }, { on := 35, ground := Ground.chain }], guard := none }) (v := ?v37_1335) rfl (by kernel_rfl) (by kernel_rfl) (by kernel_rfl) (fun _ _ _ h => h) (Or.inl ⟨by rfl, ?h37_1335⟩) (by assumption) ?r37_1335
  case h37_1335 =>
    intro W hSW
    try dsimp only at hSW
    go_simp
    try with_reducible rfl
  try simp only [Act.put, List.setIfInBounds_toArray, List.set_cons_zero, List.set_cons_succ]
  refine wpAnyH_take (i := 38) (oi := { dst := some 175, op := Op.load 23 (Operand.tmp 1), type := 23, pos := "law.go:38", after := #[{ on := 37, ground := Ground.guard }], guard := some (37, true) }) (v := .agg cl.toArray) rfl (by kernel_rfl) (by kernel_rfl) (by kernel_rfl) (fun _ _ _ h => h) (yieldsIf_load_mid (by rfl) 23 (.tmp 1) rfl bc 0 rfl cl _ (fun V hV => fun j v hv => by rw [Nat.zero_add, (HCE.out ▸ (HS.out.below hV).cf : IsRow _ bc 23 cl).cell]; exact hv) Try.underlying23 rfl (by rw [HCL.out]; exact sizeCf)) (by assumption) ?_
  try simp only [Act.put, List.setIfInBounds_toArray, List.set_cons_zero, List.set_cons_succ]
  refine wpAnyH_take (i := 39) (oi := { dst := some 176, op := Op.move (Operand.tmp 27), type := 25, pos := "law.go:38", after := #[{ on := 37, ground := Ground.guard }], guard := some (37, true) }) (v := ?v39_1337) rfl (by kernel_rfl) (by kernel_rfl) (by kernel_rfl) (fun _ _ _ h => h) (Or.inl ⟨by rfl, ?h39_1337⟩) (by assumption) ?r39_1337
  case h39_1337 =>
    intro W hSW
    try dsimp only at hSW
    go_simp
    try with_reducible rfl
  try simp only [Act.put, List.setIfInBounds_toArray, List.set_cons_zero, List.set_cons_succ]
  refine wpAnyH_take (i := 40) (oi := { dst := some 177, op := Op.slice 25 (Operand.tmp 176) none (some (Operand.const (Value.int IntKind.i64 2))) none, type := 25, pos := "law.go:38", after := #[{ on := 39, ground := Ground.data }, { on := 37, ground := Ground.guard }], guard := some (37, true) }) (v := ?v40_1338) rfl (by kernel_rfl) (by kernel_rfl) (by kernel_rfl) (fun _ _ _ h => h) (Or.inl ⟨by rfl, ?h40_1338⟩) (by assumption) ?r40_1338
  case h40_1338 =>
    intro W hSW
    try dsimp only at hSW
    have h2c : (2 : Int) ≤ (c11 : Int) := by have : 3 ≤ c11 := (HS.out.rw _ (List.mem_cons_self ..)).most.2; omega
    go_simp
    try with_reducible rfl
  try simp only [Act.put, List.setIfInBounds_toArray, List.set_cons_zero, List.set_cons_succ]
  refine wpAnyH_ready (rs := [41]) (by kernel_rfl) (by simp) ?_
  refine AllReadyH.cons (o := { dst := some 178, op := Op.call { callee := Callee.value (Operand.func 22), args := #[Operand.tmp 175, Operand.tmp 177], argTypes := #[23, 25] }, type := 4, pos := "law.go:38", after := #[{ on := 38, ground := Ground.data }, { on := 40, ground := Ground.data }, { on := 37, ground := Ground.chain }, { on := 37, ground := Ground.guard }], guard := some (37, true) }) rfl (fun K hK => ?_) AllReadyH.nil
  go_simp
  go_at_call 22
  refine (HVB.out _ _ _ ((HS.out.below hv52).rw _ (List.mem_cons_self ..))).mono ?_
  rintro e w53 ⟨rfl, b53⟩
  have hv53 : Below w5.heap.size w5 w53 := hv52.trans (b53.mono hv52.size)
  clear b53
  refine hK.out _ _ (hv53) (fun hHeld => ?_)
  clear hK K
  try simp only [Act.put, List.setIfInBounds_toArray, List.set_cons_zero, List.set_cons_succ]
  refine wpAnyH_take (i := 42) (oi := { dst := some 179, op := Op.unOp UnOp.not 4 (Operand.tmp 178), type := 4, pos := "law.go:38", after := #[{ on := 41, ground := Ground.data }, { on := 37, ground := Ground.guard }], guard := some (37, true) }) (v := ?v42_1339) rfl (by kernel_rfl) (by kernel_rfl) (by kernel_rfl) (fun _ _ _ h => h) (Or.inl ⟨by rfl, ?h42_1339⟩) (by assumption) ?r42_1339
  case h42_1339 =>
    intro W hSW
    try dsimp only at hSW
    go_simp
    try with_reducible rfl
  try simp only [Act.put, List.setIfInBounds_toArray, List.set_cons_zero, List.set_cons_succ]
  refine wpAnyH_take (i := 43) (oi := { dst := some 180, op := Op.pick (Operand.tmp 174) (Operand.tmp 179) (Operand.const (Value.bool false)), type := 4, pos := "law.go:38", after := #[{ on := 37, ground := Ground.data }, { on := 42, ground := Ground.data }], guard := none }) (v := ?v43_1340) rfl (by kernel_rfl) (by kernel_rfl) (by kernel_rfl) (fun _ _ _ h => h) (Or.inl ⟨by rfl, ?h43_1340⟩) (by assumption) ?r43_1340
  case h43_1340 =>
    intro W hSW
    try dsimp only at hSW
    go_simp
    try with_reducible rfl
  try simp only [Act.put, List.setIfInBounds_toArray, List.set_cons_zero, List.set_cons_succ]
  refine wpAnyH_take (i := 44) (oi := { dst := some 0, op := Op.assign (Operand.tmp 180), type := 4, pos := "law.go:38", after := #[{ on := 43, ground := Ground.data }, { on := 41, ground := Ground.chain }, { on := 0, ground := Ground.phase }, { on := 1, ground := Ground.phase }, { on := 2, ground := Ground.phase }, { on := 3, ground := Ground.phase }, { on := 4, ground := Ground.phase }, { on := 5, ground := Ground.phase }, { on := 6, ground := Ground.phase }, { on := 7, ground := Ground.phase }, { on := 8, ground := Ground.phase }, { on := 9, ground := Ground.phase }, { on := 10, ground := Ground.phase }, { on := 11, ground := Ground.phase }, { on := 12, ground := Ground.phase }, { on := 13, ground := Ground.phase }, { on := 14, ground := Ground.phase }, { on := 15, ground := Ground.phase }, { on := 16, ground := Ground.phase }, { on := 17, ground := Ground.phase }, { on := 18, ground := Ground.phase }, { on := 19, ground := Ground.phase }, { on := 20, ground := Ground.phase }, { on := 21, ground := Ground.phase }, { on := 22, ground := Ground.phase }, { on := 23, ground := Ground.phase }, { on := 24, ground := Ground.phase }, { on := 25, ground := Ground.phase }, { on := 26, ground := Ground.phase }, { on := 27, ground := Ground.phase }, { on := 28, ground := Ground.phase }, { on := 29, ground := Ground.phase }, { on := 30, ground := Ground.phase }, { on := 31, ground := Ground.phase }, { on := 32, ground := Ground.phase }, { on := 33, ground := Ground.phase }, { on := 34, ground := Ground.phase }, { on := 35, ground := Ground.phase }, { on := 36, ground := Ground.phase }, { on := 37, ground := Ground.phase }, { on := 38, ground := Ground.phase }, { on := 39, ground := Ground.phase }, { on := 40, ground := Ground.phase }, { on := 41, ground := Ground.phase }, { on := 42, ground := Ground.phase }, { on := 43, ground := Ground.phase }], guard := none }) (v := ?v44_1341) rfl (by kernel_rfl) (by kernel_rfl) (by kernel_rfl) (fun _ _ _ h => h) (Or.inl ⟨by rfl, ?h44_1341⟩) (by assumption) ?r44_1341
  case h44_1341 =>
    intro W hSW
    try dsimp only at hSW
    go_simp
    try with_reducible rfl
  try simp only [Act.put, List.setIfInBounds_toArray, List.set_cons_zero, List.set_cons_succ]
  refine wpAnyH_done (by kernel_rfl) ?_ _
  have hbz := HS.out.be.trans (hv53.mono HS.out.be.size)
  go_wp2_with fail
  go_ret
  exact ⟨rfl, hbz⟩
end Go.Proofs.Ytcmgnjdhjnclkaa.S
