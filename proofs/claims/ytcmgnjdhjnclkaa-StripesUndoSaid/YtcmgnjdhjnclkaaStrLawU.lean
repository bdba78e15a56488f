/- StripesUndo: its walk. Conditions: the rows lie in memory. -/
import Derived.Test.YtcmgnjdhjnclkaaStrPl
import Derived.Test.YtcmgnjdhjnclkaaStrSan
namespace Go.Proofs.Ytcmgnjdhjnclkaa.S
set_option linter.unusedVariables false
set_option linter.unusedSimpArgs false
open Go.RowKit
theorem fndV_form (o : Option Str.Us) : ∃ a b c e : Int, fndV o = .tuple #[.agg #[.int .i64 a, .int .i64 b, .int .i64 c], .int .i64 e] := by
  cases o with
  | none => exact ⟨0, 0, 0, 12, rfl⟩
  | some u => exact ⟨u.g, u.e, u.c, 0, rfl⟩
theorem infoUs' : (Try.prog.info? 37).map (fun i => (i.zero, i.size)) = some (some (.agg (usL ⟨0, 0, 0⟩).toArray), (usL ⟨0, 0, 0⟩).length) := by kernel_rfl
set_option maxRecDepth 100000 in
set_option maxHeartbeats 16000000 in
theorem lawUndo (cf : Str.Cfg) (A : Option Addr) (n c : Nat) (D : List RR) (hnc : n ≤ c) (code : Int) (lc : -9223372036854775808 ≤ code) (uc : code ≤ 9223372036854775807) (width : Int) (lw : -9223372036854775808 ≤ width) (uw : width ≤ 9223372036854775807) (ge gc sr sg : Int) (w : World) (hrd : RowsIn w w.heap.size A n D (D.map RR.r)) :
    Calls Try.prog 3 #[cfV cf, .slice A n c, .int .i64 code, .int .i64 width, gnV ge gc, stV sr sg] w fun e w' => e = .returned (.bool true) ∧ Below w.heap.size w w' := by
  clear lc uc lw uw
  obtain ⟨l, hl⟩ : ∃ l, D.map RR.r = l := ⟨_, rfl⟩
  rw [hl] at hrd
  have HRD := Lib.hid hrd
  have hmx := hrd.mx
  have HSA := Lib.hid (fun W => sanity_any W)
  have HSM := Lib.hid (fun W => small_any cf W)
  have HVA := Lib.hid (fun (W : World) (hW : Below w.heap.size w W) => rvalid_any cf (hrd.below hW) hW.size hnc)
  have HVI : Hid (Str.validB cf l = true → RAt w A n c l ∧ Str.Valid cf l) := Lib.hid fun h => by
    have hv := Str.validB_iff.1 h
    have hd := (Str.Cfg.ok_d hv.ok).2.2
    have hn := hrd.len.2
    have hlr := hv.len
    exact ⟨⟨⟨D, hrd.at_ (by omega) (fun r hr => by have := hv.small r hr; omega)⟩, hnc⟩, hv⟩
  obtain ⟨F, hF⟩ : ∃ F, Str.small cf = F := ⟨_, rfl⟩
  rw [hF] at HSM
  obtain ⟨V, hV⟩ : ∃ V, Str.validB cf l = V := ⟨_, rfl⟩
  rw [hV] at HVA HVI
  have HCV : Hid (cfV cf = .agg (cfL cf).toArray) := Lib.hid rfl
  have HCL : Hid ((cfL cf).length = 6) := Lib.hid rfl
  rw [HCV.out] at HSM HVA ⊢
  obtain ⟨cl, hcl⟩ : ∃ y, cfL cf = y := ⟨_, rfl⟩
  rw [hcl] at HSM HVA HCL HCV ⊢
  clear hcl hF hV hrd hl
  unfold gnV stV
  by_cases hgo : F = true ∧ V = true
  · obtain ⟨rfl, rfl⟩ := hgo
    have hvi := HVI.out rfl
    have HR := Lib.hid hvi.1
    have HV := Lib.hid hvi.2
    have HSL : Hid (∀ r ∈ l, r.used.length ≤ 60000) := Lib.hid fun r hr => by have := hvi.2.small r hr; omega
    clear hvi HVI
    have hal : (∃ (l' : List Str.Rw) (r g : Nat), Str.alcF cf l code width ge gc = .ok l' r g ∧ ∀ W, Below w.heap.size w W → Calls Try.prog 9 #[.agg cl.toArray, .slice A n c, .int .i64 code, .int .i64 width, .agg #[.int .i64 ge, .int .i64 gc]] W fun e w' => ∃ A' c', e = .returned (.tuple #[.slice A' n c', .agg #[.int .i64 (r : Nat), .int .i64 (g : Nat)], .int .i64 0]) ∧ RAt w' A' n c' l' ∧ Below W.heap.size W w') ∨
        (∃ k : Int, (k != 0) = true ∧ ∀ W, Below w.heap.size w W → Calls Try.prog 9 #[.agg cl.toArray, .slice A n c, .int .i64 code, .int .i64 width, .agg #[.int .i64 ge, .int .i64 gc]] W fun e w' => e = .returned (.tuple #[.slice none 0 0, .agg #[.int .i64 0, .int .i64 0], .int .i64 k]) ∧ Below W.heap.size W w') := by
      rw [← HCV.out]
      cases ha : Str.alcF cf l code width ge gc with
      | arg => exact .inr ⟨1, by decide, fun W hW => alc_arg (HR.out.below hW) cf code width ge gc HSL.out ha⟩
      | full => exact .inr ⟨16, by decide, fun W hW => alc_full (HR.out.below hW) cf code width ge gc HSL.out ha⟩
      | ok l' r g => exact .inl ⟨l', r, g, rfl, fun W hW => alc_ok (HR.out.below hW) cf code width ge gc HSL.out ha⟩
    rcases hal with ⟨l', r, g, ha, hal⟩ | ⟨k, hk, hal⟩
    · have HAL := Lib.hid hal
      have hs := Str.alcF_spec cf l code width ge gc
      rw [ha] at hs
      obtain ⟨u1, u2, ⟨q, u3, u4⟩, u5⟩ := Str.Alc.undo HV.out hs
      have HRE := Lib.hid (fun (W : World) (A : Option Addr) (c : Nat) (h : RAt W A n c l') => rel_ok h r (g : Int) u3)
      rw [u4] at HRE
      have HF1 := Lib.hid (fun (W : World) (hW : Below w.heap.size w W) => find_r (HR.out.below hW) (r : Int) (g : Int))
      rw [u1] at HF1
      have HF2 := Lib.hid (fun (W : World) (A : Option Addr) (c : Nat) (h : RAt W A n c l') => find_r h (r : Int) (g : Int))
      rw [u2] at HF2
      have HF3 := Lib.hid (fun (W : World) (hW : Below w.heap.size w W) => find_r (HR.out.below hW) sr sg)
      have HF4 := Lib.hid (fun (W : World) (A : Option Addr) (c : Nat) (h : RAt W A n c l') => find_r h sr sg)
      have hcmp : (∃ a b c e a' b' c' e' : Int, fndV (Str.fnd l sr sg) = .tuple #[.agg #[.int .i64 a, .int .i64 b, .int .i64 c], .int .i64 e] ∧ fndV (Str.fnd l' sr sg) = .tuple #[.agg #[.int .i64 a', .int .i64 b', .int .i64 c'], .int .i64 e'] ∧ (decide (sr = (r : Int) ∧ sg = (g : Int)) = true ∨ (decide (sr = (r : Int) ∧ sg = (g : Int)) = false ∧ a = a' ∧ b = b' ∧ c = c' ∧ e = e'))) := by
        by_cases he : sr = (r : Int) ∧ sg = (g : Int)
        · obtain ⟨a, b, c, e, h1⟩ := fndV_form (Str.fnd l sr sg)
          obtain ⟨a', b', c', e', h2⟩ := fndV_form (Str.fnd l' sr sg)
          exact ⟨a, b, c, e, a', b', c', e', h1, h2, .inl (decide_eq_true he)⟩
        · obtain ⟨a, b, c, e, h1⟩ := fndV_form (Str.fnd l sr sg)
          exact ⟨a, b, c, e, a, b, c, e, h1, by rw [← u5 sr sg he]; exact h1, .inr ⟨decide_eq_false he, rfl, rfl, rfl, rfl⟩⟩
      obtain ⟨va, vb, vc, ve, wa, wb, wc, we, h3, h4, hcm⟩ := hcmp
      rw [h3] at HF3
      rw [h4] at HF4
      have hES : ∀ W : World, (Op.equalIn 10000 29 (.agg #[.int .i64 sr, .int .i64 sg]) (.agg #[.int .i64 (r : Int), .int .i64 (g : Int)])).run Try.prog W = .ok (decide (sr = (r : Int) ∧ sg = (g : Int))) W := fun W => run_eq2 9998 sr sg r g W stF (by kernel_rfl)
      obtain ⟨S, hS⟩ : ∃ S, decide (sr = (r : Int) ∧ sg = (g : Int)) = S := ⟨_, rfl⟩
      rw [hS] at hES hcm
      have HES := Lib.hid hES
      have EU : ∀ W : World, (Op.equalIn 10000 37 (.agg #[.int .i64 (g : Int), .int .i64 ge, .int .i64 gc]) (.agg #[.int .i64 (g : Int), .int .i64 ge, .int .i64 gc])).run Try.prog W = .ok true W := fun W => (run_eq_us ⟨g, ge, gc⟩ ⟨g, ge, gc⟩ W).trans (by simp)
      have EV : ∀ W : World, (Op.equalIn 10000 37 (.agg #[.int .i64 va, .int .i64 vb, .int .i64 vc]) (.agg #[.int .i64 va, .int .i64 vb, .int .i64 vc])).run Try.prog W = .ok true W := fun W => (run_eq_us ⟨va, vb, vc⟩ ⟨va, vb, vc⟩ W).trans (by simp)
      have HEU := Lib.hid EU
      have HEV := Lib.hid EV
      have HSR := Lib.hid (fun (W : World) (A1 : Option Addr) (c1 : Nat) (h : RAt W A1 n c1 l) (hW : Below w.heap.size w W) => same_r h (HR.out.below hW))
      clear hal ha hs u1 u2 u3 u4 u5 h3 h4 hS hES EU EV
      unfold stV at HRE HF1 HF2 HF3 HF4
      unfold fndV usL at HF1 HF2
      dsimp only at HF1 HF2
      go_enter Try.func3, Try.ntmps3
      go_upto_region 1 with (first
        | (refine wpList_boxRow rfl _ (.tmp 0) rfl cl rfl rfl ?_; intro w1 r1 b1 z1; clear z1; simp only [put_some, List.setIfInBounds_toArray, List.set_cons_succ, List.set_cons_zero])
        | (refine wpList_boxRow rfl _ (.tmp 4) rfl [.int .i64 ge, .int .i64 gc] rfl rfl ?_; intro w2 r2 b2 z2; clear z2; simp only [put_some, List.setIfInBounds_toArray, List.set_cons_succ, List.set_cons_zero])
        | (refine wpList_boxRow rfl _ (.tmp 5) rfl [.int .i64 sr, .int .i64 sg] rfl rfl ?_; intro w3 r3 b3 z3; clear z3; simp only [put_some, List.setIfInBounds_toArray, List.set_cons_succ, List.set_cons_zero]))
      have R6 := r1.below' (b2.trans (b3.mono b2.size))
      have R10 := r2.below' b3
      have R11 := r3
      have HB := b1.trans ((b2.trans (b3.mono b2.size)).mono b1.size)
      obtain ⟨b6, hb6⟩ : ∃ y, w.heap.size = y := ⟨_, rfl⟩
      obtain ⟨b10, hb10⟩ : ∃ y, w1.heap.size = y := ⟨_, rfl⟩
      obtain ⟨b11, hb11⟩ : ∃ y, w2.heap.size = y := ⟨_, rfl⟩
      rw [hb6] at R6
      rw [hb10] at R10
      rw [hb11] at R11
      rw [hb6, hb10, hb11]
      have HB := Lib.hid HB
      clear r1 r2 r3 b1 b2 b3 hb6 hb10 hb11
      go_upto_region 5 with (first
        | (refine wpList_load_rg rfl _ (.tmp 6) rfl b6 0 rfl cl _ (fun j v hv => by rw [Nat.zero_add, (R6).cell]; exact hv) Try.underlying23 rfl (by rw [HCL.out]; exact sizeCf) ?_)
        | (go_at_call 6; refine (HSM.out _).mono ?_; rintro e w4 ⟨rfl, bb⟩; replace HB := Lib.hid (HB.out.trans (bb.mono HB.out.size)); replace R6 := R6.below' bb; replace R10 := R10.below' bb; replace R11 := R11.below' bb; clear bb)
        | (go_at_call 7; refine (HVA.out _ HB.out).mono ?_; rintro e w5 ⟨rfl, bb⟩; replace HB := Lib.hid (HB.out.trans (bb.mono HB.out.size)); replace R6 := R6.below' bb; replace R10 := R10.below' bb; replace R11 := R11.below' bb; clear bb))
      go_upto_region 8 with (first
        | (refine wpList_load_rg rfl _ (.tmp 6) rfl b6 0 rfl cl _ (fun j v hv => by rw [Nat.zero_add, (R6).cell]; exact hv) Try.underlying23 rfl (by rw [HCL.out]; exact sizeCf) ?_)
        | (refine wpList_load_rg rfl _ (.tmp 10) rfl b10 0 rfl [.int .i64 ge, .int .i64 gc] _ (fun j v hv => by rw [Nat.zero_add, (R10).cell]; exact hv) Try.underlying27 rfl (sizeGn) ?_)
        | (go_at_call 9; refine (HAL.out _ HB.out).mono ?_; rintro e w6 ⟨Ax, cx, rfl, rx, bb⟩; replace HB := Lib.hid (HB.out.trans (bb.mono HB.out.size)); replace R6 := R6.below' bb; replace R10 := R10.below' bb; replace R11 := R11.below' bb; clear bb)
        | (refine wpList_allocRow rfl _ rfl _ infoSt' ?_; intro w7 r7 b7 z7; clear z7)
        | (refine wpList_storeRow rfl _ (.tmp 16) (.tmp 48) rfl (l' := [.int .i64 (r : Int), .int .i64 (g : Int)]) r7 rfl rfl sizeSt rfl rfl ?_; intro w8 r8 g8 z8; clear z8))
      have bb := b7.grown g8 b7.size (fun k e => by have := Option.some.inj e; omega)
      replace HB := Lib.hid (HB.out.trans (bb.mono HB.out.size))
      replace R6 := R6.below' bb
      replace R10 := R10.below' bb
      replace R11 := R11.below' bb
      have RX := Lib.hid (rx.below bb)
      obtain ⟨b16, hb16⟩ : ∃ y, w6.heap.size = y := ⟨_, rfl⟩
      rw [hb16] at r8 ⊢
      have R16 := r8
      clear rx bb b7 g8 r7 r8 hb16 R6
      go_upto_region 9 with (first
        | (refine wpList_load_rg rfl _ (.tmp 16) rfl b16 0 rfl [.int .i64 (r : Int), .int .i64 (g : Int)] _ (fun j v hv => by rw [Nat.zero_add, (R16).cell]; exact hv) Try.underlying29 rfl (sizeSt) ?_)
        | (go_at_call 10; refine (HF1.out _ HB.out).mono ?_; rintro e w9 ⟨rfl, bb⟩; replace HB := Lib.hid (HB.out.trans (bb.mono HB.out.size)); replace RX := Lib.hid (RX.out.below bb); replace R10 := R10.below' bb; replace R11 := R11.below' bb; replace R16 := R16.below' bb; clear bb)
        | (refine wpList_allocRow rfl _ rfl _ infoUs' ?_; intro w7 r7 b7 z7; clear z7)
        | (refine wpList_storeRow rfl _ (.tmp 18) (.tmp 62) rfl (l' := [.int .i64 0, .int .i64 0, .int .i64 0]) r7 rfl rfl sizeUs rfl rfl ?_; intro w8 r8 g8 z8; clear z8))
      have bb := b7.grown g8 b7.size (fun k e => by have := Option.some.inj e; omega)
      replace HB := Lib.hid (HB.out.trans (bb.mono HB.out.size))
      replace RX := Lib.hid (RX.out.below bb)
      replace R10 := R10.below' bb
      replace R11 := R11.below' bb
      replace R16 := R16.below' bb
      obtain ⟨b18, hbx⟩ : ∃ y, w9.heap.size = y := ⟨_, rfl⟩
      rw [hbx] at r8 ⊢
      have R18 := r8
      clear bb b7 g8 r7 r8 hbx
      go_upto_region 10 with (first
        | (refine wpList_load_rg rfl _ (.tmp 16) rfl b16 0 rfl [.int .i64 (r : Int), .int .i64 (g : Int)] _ (fun j v hv => by rw [Nat.zero_add, (R16).cell]; exact hv) Try.underlying29 rfl (sizeSt) ?_)
        | (go_at_call 10; refine (HF2.out _ _ _ RX.out).mono ?_; rintro e w9 ⟨rfl, bb⟩; replace HB := Lib.hid (HB.out.trans (bb.mono HB.out.size)); replace RX := Lib.hid (RX.out.below bb); replace R10 := R10.below' bb; replace R11 := R11.below' bb; replace R16 := R16.below' bb; replace R18 := R18.below' bb; clear bb)
        | (refine wpList_allocRow rfl _ rfl _ infoUs' ?_; intro w7 r7 b7 z7; clear z7)
        | (refine wpList_storeRow rfl _ (.tmp 20) (.tmp 68) rfl (l' := [.int .i64 (g : Int), .int .i64 ge, .int .i64 gc]) r7 rfl rfl sizeUs rfl rfl ?_; intro w8 r8 g8 z8; clear z8))
      have bb := b7.grown g8 b7.size (fun k e => by have := Option.some.inj e; omega)
      replace HB := Lib.hid (HB.out.trans (bb.mono HB.out.size))
      replace RX := Lib.hid (RX.out.below bb)
      replace R10 := R10.below' bb
      replace R11 := R11.below' bb
      replace R16 := R16.below' bb
      replace R18 := R18.below' bb
      obtain ⟨b20, hbx⟩ : ∃ y, w9.heap.size = y := ⟨_, rfl⟩
      rw [hbx] at r8 ⊢
      have R20 := r8
      clear bb b7 g8 r7 r8 hbx
      go_upto_region 11 with (first
        | (refine wpList_load_rg rfl _ (.tmp 16) rfl b16 0 rfl [.int .i64 (r : Int), .int .i64 (g : Int)] _ (fun j v hv => by rw [Nat.zero_add, (R16).cell]; exact hv) Try.underlying29 rfl (sizeSt) ?_)
        | (go_at_call 11; refine (HRE.out _ _ _ RX.out).mono ?_; rintro e w9 ⟨Ay, cy, rfl, ry, bb⟩; replace HB := Lib.hid (HB.out.trans (bb.mono HB.out.size)); replace RX := Lib.hid (RX.out.below bb); replace R10 := R10.below' bb; replace R11 := R11.below' bb; replace R16 := R16.below' bb; replace R18 := R18.below' bb; replace R20 := R20.below' bb; have RY := Lib.hid ry; clear bb ry))
      go_upto_region 12 with (first
        | (refine wpList_load_rg rfl _ (.tmp 11) rfl b11 0 rfl [.int .i64 sr, .int .i64 sg] _ (fun j v hv => by rw [Nat.zero_add, (R11).cell]; exact hv) Try.underlying29 rfl (sizeSt) ?_)
        | (go_at_call 10; refine (HF3.out _ HB.out).mono ?_; rintro e w9 ⟨rfl, bb⟩; replace HB := Lib.hid (HB.out.trans (bb.mono HB.out.size)); replace RX := Lib.hid (RX.out.below bb); replace RY := Lib.hid (RY.out.below bb); replace R10 := R10.below' bb; replace R11 := R11.below' bb; replace R16 := R16.below' bb; replace R18 := R18.below' bb; replace R20 := R20.below' bb; clear bb)
        | (refine wpList_allocRow rfl _ rfl _ infoUs' ?_; intro w7 r7 b7 z7; clear z7)
        | (refine wpList_storeRow rfl _ (.tmp 24) (.tmp 80) rfl (l' := [.int .i64 va, .int .i64 vb, .int .i64 vc]) r7 rfl rfl sizeUs rfl rfl ?_; intro w8 r8 g8 z8; clear z8))
      have bb := b7.grown g8 b7.size (fun k e => by have := Option.some.inj e; omega)
      replace HB := Lib.hid (HB.out.trans (bb.mono HB.out.size))
      replace RX := Lib.hid (RX.out.below bb); replace RY := Lib.hid (RY.out.below bb)
      replace R10 := R10.below' bb
      replace R11 := R11.below' bb
      replace R16 := R16.below' bb
      replace R18 := R18.below' bb
      replace R20 := R20.below' bb
      obtain ⟨b24, hbx⟩ : ∃ y, w9.heap.size = y := ⟨_, rfl⟩
      rw [hbx] at r8 ⊢
      have R24 := r8
      clear bb b7 g8 r7 r8 hbx
      go_upto_region 13 with (first
        | (refine wpList_load_rg rfl _ (.tmp 11) rfl b11 0 rfl [.int .i64 sr, .int .i64 sg] _ (fun j v hv => by rw [Nat.zero_add, (R11).cell]; exact hv) Try.underlying29 rfl (sizeSt) ?_)
        | (go_at_call 10; refine (HF4.out _ _ _ RX.out).mono ?_; rintro e w9 ⟨rfl, bb⟩; replace HB := Lib.hid (HB.out.trans (bb.mono HB.out.size)); replace RX := Lib.hid (RX.out.below bb); replace RY := Lib.hid (RY.out.below bb); replace R10 := R10.below' bb; replace R11 := R11.below' bb; replace R16 := R16.below' bb; replace R18 := R18.below' bb; replace R20 := R20.below' bb; replace R24 := R24.below' bb; clear bb)
        | (refine wpList_allocRow rfl _ rfl _ infoUs' ?_; intro w7 r7 b7 z7; clear z7)
        | (refine wpList_storeRow rfl _ (.tmp 26) (.tmp 86) rfl (l' := [.int .i64 wa, .int .i64 wb, .int .i64 wc]) r7 rfl rfl sizeUs rfl rfl ?_; intro w8 r8 g8 z8; clear z8))
      have bb := b7.grown g8 b7.size (fun k e => by have := Option.some.inj e; omega)
      replace HB := Lib.hid (HB.out.trans (bb.mono HB.out.size))
      replace RX := Lib.hid (RX.out.below bb); replace RY := Lib.hid (RY.out.below bb)
      replace R10 := R10.below' bb
      replace R11 := R11.below' bb
      replace R16 := R16.below' bb
      replace R18 := R18.below' bb
      replace R20 := R20.below' bb
      replace R24 := R24.below' bb
      obtain ⟨b26, hbx⟩ : ∃ y, w9.heap.size = y := ⟨_, rfl⟩
      rw [hbx] at r8 ⊢
      have R26 := r8
      clear bb b7 g8 r7 r8 hbx
      have Q10 := R10.cell 0
      have Q10b := R10.cell 1
      have Q16 := R16.cell 1
      dsimp only [List.getElem?_cons_zero, List.getElem?_cons_succ] at Q10 Q10b Q16
      rcases hcm with rfl | ⟨rfl, rfl, rfl, rfl, rfl⟩
      · have tkA := True.intro
        have ES := HES.out
        have EU := HEU.out
        have EV := HEV.out
        go_wp2_with (first
          | (have tkB := tkA; go_at_call 8; refine (HSA.out _).mono ?_; rintro e w9 ⟨rfl, bb⟩; replace HB := Lib.hid (HB.out.trans (bb.mono HB.out.size)); replace RY := Lib.hid (RY.out.below bb); replace R10 := R10.below' bb; replace R11 := R11.below' bb; replace R16 := R16.below' bb; replace R20 := R20.below' bb; replace R24 := R24.below' bb; replace R26 := R26.below' bb; have Q16 := R16.cell 1; dsimp only [List.getElem?_cons_zero, List.getElem?_cons_succ] at Q16; clear bb)
          | (have tkB := tkA; refine wpList_load_rg ?_ _ (.tmp 20) rfl b20 0 rfl [.int .i64 (g : Int), .int .i64 ge, .int .i64 gc] _ (fun j v hv => by rw [Nat.zero_add, (R20).cell]; exact hv) Try.underlying37 rfl (sizeUs) ?_; rfl)
          | (have tkB := tkA; refine wpList_load_rg ?_ _ (.tmp 10) rfl b10 0 rfl [.int .i64 ge, .int .i64 gc] _ (fun j v hv => by rw [Nat.zero_add, (R10).cell]; exact hv) Try.underlying27 rfl (sizeGn) ?_; rfl)
          | (have tkB := tkA; go_at_call 12; refine (HSR.out _ _ _ RY.out HB.out).mono ?_; rintro e w10 ⟨rfl, bb⟩; replace HB := Lib.hid (HB.out.trans (bb.mono HB.out.size)); replace R10 := R10.below' bb; replace R11 := R11.below' bb; replace R16 := R16.below' bb; replace R20 := R20.below' bb; replace R24 := R24.below' bb; replace R26 := R26.below' bb; clear bb)
          | (have tkB := tkA; refine wpList_load_rg ?_ _ (.tmp 11) rfl b11 0 rfl [.int .i64 sr, .int .i64 sg] _ (fun j v hv => by rw [Nat.zero_add, (R11).cell]; exact hv) Try.underlying29 rfl (sizeSt) ?_; rfl)
          | (have tkB := tkA; refine wpList_load_rg ?_ _ (.tmp 16) rfl b16 0 rfl [.int .i64 (r : Int), .int .i64 (g : Int)] _ (fun j v hv => by rw [Nat.zero_add, (R16).cell]; exact hv) Try.underlying29 rfl (sizeSt) ?_; rfl; clear tkA))
        go_ret
        exact ⟨rfl, HB.out⟩
      · have ES := HES.out
        have EU := HEU.out
        have EV := HEV.out
        go_wp2_with (first
          | (go_at_call 8; refine (HSA.out _).mono ?_; rintro e w9 ⟨rfl, bb⟩; replace HB := Lib.hid (HB.out.trans (bb.mono HB.out.size)); replace RY := Lib.hid (RY.out.below bb); replace R10 := R10.below' bb; replace R11 := R11.below' bb; replace R16 := R16.below' bb; replace R20 := R20.below' bb; replace R24 := R24.below' bb; replace R26 := R26.below' bb; have Q16 := R16.cell 1; dsimp only [List.getElem?_cons_zero, List.getElem?_cons_succ] at Q16; clear bb)
          | (refine wpList_load_rg ?_ _ (.tmp 20) rfl b20 0 rfl [.int .i64 (g : Int), .int .i64 ge, .int .i64 gc] _ (fun j v hv => by rw [Nat.zero_add, (R20).cell]; exact hv) Try.underlying37 rfl (sizeUs) ?_; rfl)
          | (refine wpList_load_rg ?_ _ (.tmp 10) rfl b10 0 rfl [.int .i64 ge, .int .i64 gc] _ (fun j v hv => by rw [Nat.zero_add, (R10).cell]; exact hv) Try.underlying27 rfl (sizeGn) ?_; rfl)
          | (go_at_call 12; refine (HSR.out _ _ _ RY.out HB.out).mono ?_; rintro e w10 ⟨rfl, bb⟩; replace HB := Lib.hid (HB.out.trans (bb.mono HB.out.size)); replace R10 := R10.below' bb; replace R11 := R11.below' bb; replace R16 := R16.below' bb; replace R20 := R20.below' bb; replace R24 := R24.below' bb; replace R26 := R26.below' bb; clear bb)
          | (refine wpList_load_rg ?_ _ (.tmp 11) rfl b11 0 rfl [.int .i64 sr, .int .i64 sg] _ (fun j v hv => by rw [Nat.zero_add, (R11).cell]; exact hv) Try.underlying29 rfl (sizeSt) ?_; rfl)
          | (refine wpList_load_rg ?_ _ (.tmp 16) rfl b16 0 rfl [.int .i64 (r : Int), .int .i64 (g : Int)] _ (fun j v hv => by rw [Nat.zero_add, (R16).cell]; exact hv) Try.underlying29 rfl (sizeSt) ?_; rfl)
          | (refine wpList_load_rg ?_ _ (.tmp 24) rfl b24 0 rfl [.int .i64 va, .int .i64 vb, .int .i64 vc] _ (fun j v hv => by rw [Nat.zero_add, (R24).cell]; exact hv) Try.underlying37 rfl (sizeUs) ?_; rfl)
          | (refine wpList_load_rg ?_ _ (.tmp 26) rfl b26 0 rfl [.int .i64 va, .int .i64 vb, .int .i64 vc] _ (fun j v hv => by rw [Nat.zero_add, (R26).cell]; exact hv) Try.underlying37 rfl (sizeUs) ?_; rfl))
        go_ret
        exact ⟨rfl, HB.out⟩
    · have HAL := Lib.hid hal
      clear hal
      go_enter Try.func3, Try.ntmps3
      go_upto_region 1 with (first
        | (refine wpList_boxRow rfl _ (.tmp 0) rfl cl rfl rfl ?_; intro w1 r1 b1 z1; clear z1; simp only [put_some, List.setIfInBounds_toArray, List.set_cons_succ, List.set_cons_zero])
        | (refine wpList_boxRow rfl _ (.tmp 4) rfl [.int .i64 ge, .int .i64 gc] rfl rfl ?_; intro w2 r2 b2 z2; clear z2; simp only [put_some, List.setIfInBounds_toArray, List.set_cons_succ, List.set_cons_zero])
        | (refine wpList_boxRow rfl _ (.tmp 5) rfl [.int .i64 sr, .int .i64 sg] rfl rfl ?_; intro w3 r3 b3 z3; clear z3; simp only [put_some, List.setIfInBounds_toArray, List.set_cons_succ, List.set_cons_zero]))
      have R6 := r1.below' (b2.trans (b3.mono b2.size))
      have R10 := r2.below' b3
      have R11 := r3
      have HB := b1.trans ((b2.trans (b3.mono b2.size)).mono b1.size)
      obtain ⟨b6, hb6⟩ : ∃ y, w.heap.size = y := ⟨_, rfl⟩
      obtain ⟨b10, hb10⟩ : ∃ y, w1.heap.size = y := ⟨_, rfl⟩
      obtain ⟨b11, hb11⟩ : ∃ y, w2.heap.size = y := ⟨_, rfl⟩
      rw [hb6] at R6
      rw [hb10] at R10
      rw [hb11] at R11
      rw [hb6, hb10, hb11]
      have HB := Lib.hid HB
      clear r1 r2 r3 b1 b2 b3 hb6 hb10 hb11
      go_wp2_with (first
        | (refine wpList_load_rg rfl _ (.tmp 6) rfl b6 0 rfl cl _ (fun j v hv => by rw [Nat.zero_add, (R6).cell]; exact hv) Try.underlying23 rfl (by rw [HCL.out]; exact sizeCf) ?_)
        | (refine wpList_load_rg rfl _ (.tmp 10) rfl b10 0 rfl [.int .i64 ge, .int .i64 gc] _ (fun j v hv => by rw [Nat.zero_add, (R10).cell]; exact hv) Try.underlying27 rfl (sizeGn) ?_)
        | (go_at_call 6; refine (HSM.out _).mono ?_; rintro e w4 ⟨rfl, bb⟩; replace HB := Lib.hid (HB.out.trans (bb.mono HB.out.size)); replace R6 := R6.below' bb; replace R10 := R10.below' bb; clear bb)
        | (go_at_call 7; refine (HVA.out _ HB.out).mono ?_; rintro e w5 ⟨rfl, bb⟩; replace HB := Lib.hid (HB.out.trans (bb.mono HB.out.size)); replace R6 := R6.below' bb; replace R10 := R10.below' bb; clear bb)
        | (go_at_call 9; refine (HAL.out _ HB.out).mono ?_; rintro e w6 ⟨rfl, bb⟩; replace HB := Lib.hid (HB.out.trans (bb.mono HB.out.size)); clear bb)
        | (refine wpList_allocRow rfl _ rfl _ infoSt' ?_; intro w7 r7 b7 z7; clear z7)
        | (refine wpList_storeRow rfl _ (.tmp 16) (.tmp 48) rfl (l' := zSt) r7 rfl rfl sizeSt rfl rfl ?_; intro w8 r8 g8 z8; clear z8; have bb := b7.grown g8 b7.size (fun k e => by have := Option.some.inj e; omega); replace HB := Lib.hid (HB.out.trans (bb.mono HB.out.size)); clear bb)
        | (go_at_call 8; refine (HSA.out _).mono ?_; rintro e w9 ⟨rfl, bb⟩; replace HB := Lib.hid (HB.out.trans (bb.mono HB.out.size)); clear bb))
      go_ret
      exact ⟨rfl, HB.out⟩
  · have hc : F = false ∨ (F = true ∧ V = false) := by
      cases F
      · exact .inl rfl
      · cases V
        · exact .inr ⟨rfl, rfl⟩
        · exact absurd ⟨rfl, rfl⟩ hgo
    clear hgo
    rcases hc with rfl | ⟨rfl, rfl⟩
    all_goals
      go_enter Try.func3, Try.ntmps3
      go_upto_region 1 with (first
        | (refine wpList_boxRow rfl _ (.tmp 0) rfl cl rfl rfl ?_; intro w1 r1 b1 z1; clear z1; simp only [put_some, List.setIfInBounds_toArray, List.set_cons_succ, List.set_cons_zero])
        | (refine wpList_boxRow rfl _ (.tmp 4) rfl [.int .i64 ge, .int .i64 gc] rfl rfl ?_; intro w2 r2 b2 z2; clear z2; simp only [put_some, List.setIfInBounds_toArray, List.set_cons_succ, List.set_cons_zero])
        | (refine wpList_boxRow rfl _ (.tmp 5) rfl [.int .i64 sr, .int .i64 sg] rfl rfl ?_; intro w3 r3 b3 z3; clear z3; simp only [put_some, List.setIfInBounds_toArray, List.set_cons_succ, List.set_cons_zero]))
      have R6 := r1.below' (b2.trans (b3.mono b2.size))
      have R10 := r2.below' b3
      have R11 := r3
      have HB := b1.trans ((b2.trans (b3.mono b2.size)).mono b1.size)
      obtain ⟨b6, hb6⟩ : ∃ y, w.heap.size = y := ⟨_, rfl⟩
      obtain ⟨b10, hb10⟩ : ∃ y, w1.heap.size = y := ⟨_, rfl⟩
      obtain ⟨b11, hb11⟩ : ∃ y, w2.heap.size = y := ⟨_, rfl⟩
      rw [hb6] at R6
      rw [hb10] at R10
      rw [hb11] at R11
      rw [hb6, hb10, hb11]
      have HB := Lib.hid HB
      clear r1 r2 r3 b1 b2 b3 hb6 hb10 hb11
      go_wp2_with (first
        | (refine wpList_load_rg rfl _ (.tmp 6) rfl b6 0 rfl cl _ (fun j v hv => by rw [Nat.zero_add, (R6).cell]; exact hv) Try.underlying23 rfl (by rw [HCL.out]; exact sizeCf) ?_)
        | (go_at_call 6; refine (HSM.out _).mono ?_; rintro e w4 ⟨rfl, bb⟩; replace HB := Lib.hid (HB.out.trans (bb.mono HB.out.size)); replace R6 := R6.below' bb; clear bb)
        | (go_at_call 7; refine (HVA.out _ HB.out).mono ?_; rintro e w5 ⟨rfl, bb⟩; replace HB := Lib.hid (HB.out.trans (bb.mono HB.out.size)); replace R6 := R6.below' bb; clear bb)
        | (go_at_call 8; refine (HSA.out _).mono ?_; rintro e w9 ⟨rfl, bb⟩; replace HB := Lib.hid (HB.out.trans (bb.mono HB.out.size)); clear bb))
      go_ret
      exact ⟨rfl, HB.out⟩
end Go.Proofs.Ytcmgnjdhjnclkaa.S
