/- The law SchedBalanced: it returns true. Conditions: none beyond what the argument's type says. -/
import Derived.Test.YtfihdenapjmaeaaSch17
import Derived.Test.YtfihdenapjmaeaaSLawKit2
namespace Go.Proofs.Ytfihdenapjmaeaa
set_option linter.unusedVariables false
set_option linter.unusedSimpArgs false
open Go.RowKit
theorem flat_tsl (l : List TSl) : l.flatMap tsl = l.map fun y => Value.slice y.A y.n y.c := by
  induction l with
  | nil => rfl
  | cons a l ih => rw [List.flatMap_cons, ih]; rfl
theorem sum_step {l : List Int} {j : Nat} (h : j < l.length) : (l.take (j + 1)).sum = (l.take j).sum + l.getD j 0 := by
  rw [List.take_succ_eq_append_getElem h, List.sum_append]; simp [List.getD, h]
theorem new_free {w w' : World} {v : Value} (h : w.alloc (.cells #[v] 26) = w') : w'.frozen? ⟨w.heap.size, 0, none⟩ = false := by
  subst h; exact World.frozen?_alloc_new _ _ _ _
set_option maxRecDepth 100000 in
set_option maxHeartbeats 4000000 in
theorem lawBalanced (A : Option Addr) (n c : Nat) (l : List TSl) (hL : l.length = n) (nc : n ≤ c) (cc : c ≤ 140737488355328) (w : World) (hok : ∀ y ∈ l, TSlOk w y) (rd : Rd w w.heap.size 1 A n (l.flatMap tsl)) :
    Calls Try.prog 9 #[.slice A n c] w fun e w' => e = .returned (.bool true) ∧ Below w.heap.size w w' := by
  by_cases h40 : n ≤ 40
  case neg =>
    have h41 : (40 : Int) < (n : Int) := by omega
    clear rd hok
    go_enter Try.func9, Try.ntmps9
    go_wp2_with (go_at_call 10; refine (sanity_any _).mono ?_; rintro e w1 ⟨rfl, b1⟩)
    go_ret
    exact ⟨rfl, b1⟩
  case pos =>
  have h41 : (n : Int) ≤ 40 := by omega
  have HL := Lib.hid hL
  have HOK := Lib.hid hok
  rw [flat_tsl] at rd
  have HRD := Lib.hid rd
  clear hL hok rd
  go_enter Try.func9, Try.ntmps9
  go_wp2_with (go_at_call 23; refine (new_any _).mono ?_; rintro e w1 ⟨g1, rfl, C1, hg1, b1⟩)
  obtain ⟨w2, hw2⟩ : ∃ x, w1.alloc (.cells #[.slice (some ⟨g1, 0, none⟩) 5 5] 26) = x := ⟨_, rfl⟩
  rw [hw2]
  obtain ⟨x2, z2, b2, _⟩ := new_st hw2
  have f2 := new_free hw2
  obtain ⟨p, hp⟩ : ∃ p, w1.heap.size = p := ⟨_, rfl⟩
  have hp0 : w.heap.size ≤ p := by have := b1.size; omega
  have hgp : g1 < p := by have := C1.lt; omega
  have C2 := C1.below b2
  have hb2 := b1.trans (b2.mono b1.size)
  rw [hp] at x2 f2 z2 ⊢
  have HP0 := Lib.hid hp0
  have HB2 := Lib.hid hb2
  have HC2 := Lib.hid C2
  have HX2 := Lib.hid x2
  have HF2 := Lib.hid f2
  have HZ2 := Lib.hid z2
  clear hp hw2 b1 b2 hb2 C1 C2 x2 f2 z2 hp0 hg1
  go_loopw [19] (fun u19 wx => ∃ (wr : World) (k g cS : Nat) (cr : List Int), wr = wx ∧ k ≤ n ∧ u19 = .int .i64 k ∧ Hid (wr.cell? ⟨p, 0, none⟩ = some (.slice (some ⟨g, 0, none⟩) 5 cS)) ∧ wr.frozen? ⟨p, 0, none⟩ = false ∧ Hid (p < wr.heap.size) ∧ Hid (g ≠ p) ∧ Hid (Cr5 wr g cr) ∧ Hid (Sc.Bal (100 * (k : Int)) cr) ∧ Below w.heap.size w wr) (fun u19 _ => n - (intOf u19).toNat)
  case atStart => exact ⟨w2, 0, g1, 5, [0, 0, 0, 0, 0], rfl, Nat.zero_le _, rfl, HX2.out, HF2.out, HZ2.out, Nat.ne_of_lt hgp, HC2.out, by unfold Hid Sc.Bal; decide, HB2.out⟩
  case round =>
    obtain ⟨wr, k, g, cS, cr, rfl, hk, rfl, HX, hf, HZ, HGP, HC, HBAL, hbr⟩ := hrel
    by_cases hlt : k < n
    · have hkl : k < l.length := by rw [HL.out]; exact hlt
      obtain ⟨b, off, rfl, _, hc⟩ := (HRD.out.below hbr).2 (by omega)
      have h1 := hc k (.slice l[k].A l[k].n l[k].c) (by simp [hkl])
      have hy := HOK.out l[k] (List.getElem_mem hkl)
      obtain ⟨y, hyy⟩ : ∃ y, l[k] = y := ⟨_, rfl⟩
      rw [hyy] at h1 hy
      obtain ⟨Ay, ny, cy, Ly⟩ := y
      obtain ⟨hLy, hry⟩ := hy
      simp only [] at h1 hLy hry
      have k1 : (k : Int) < (n : Int) := by omega
      have HBR := Lib.hid hbr
      clear hc hyy hkl hbr
      by_cases h20 : ny ≤ 20
      case neg =>
        have h21 : (20 : Int) < (ny : Int) := by omega
        clear hry hLy
        go_wp2_with (go_at_call 10; refine (sanity_any _).mono ?_; rintro e w4 ⟨rfl, b4⟩)
        go_ret
        exact ⟨rfl, HBR.out.trans (b4.mono HBR.out.size)⟩
      case pos =>
      have h21 : (ny : Int) ≤ 20 := by omega
      have hbal := Sc.bal_next (n := 100 * (k : Int)) (by omega) (by omega) Ly (List.range ny) HBAL.out
      have hrng := Sc.bal_range (n := 100 * (k : Int)) (by omega) HBAL.out
      have hvld : vldB cr = true := (vldB_iff cr).2 ⟨HBAL.out.1, fun x hx => by have := hrng x hx; omega⟩
      have HBN := Lib.hid hbal
      have HVL := Lib.hid hvld
      have HOWN := Lib.hid (fun (W : World) (hW : Below w.heap.size w W) => own_any Ay ny cy Ly hLy (by omega) w.heap.size W (hry.below hW) hW.size)
      have HLY := Lib.hid hLy
      have HF := Lib.hid hf
      have zp := HZ.out
      clear hbal hrng hvld hry hLy hf
      go_upto_region 9 with fail
      go_cut [6, 8] (fun u6 u8 wx => ∃ wv p9 gY cY, wv = wx ∧ u6 = .pointer (some ⟨p9, 0, none⟩) ∧ u8 = .int .i64 0 ∧ Hid (wv.cell? ⟨p9, 0, none⟩ = some (.slice (some ⟨gY, 0, none⟩) 5 cY)) ∧ Hid (Cr5 wv gY (Sc.next cr Ly (List.range ny)).1) ∧ Hid (wr.heap.size ≤ gY) ∧ Below wr.heap.size wr wv)
      case first =>
        go_wp2_with fail
        have hv0 : Below wr.heap.size wr wr.drew := (Below.refl _ _).drew
        refine wp_region_held_drew (S := fun W => Below wr.heap.size wr W) (by kernel_rfl) (hv0) (fun hHeld => ?_)
        refine wpAnyH_take (i := 0) (oi := { dst := some 28, op := Op.load 26 (Operand.tmp 3), type := 26, pos := "law.go:144", after := #[], guard := none }) (v := ?v0_1) rfl (by kernel_rfl) (by kernel_rfl) (by kernel_rfl) (fun _ _ _ h => h) (Or.inl ⟨by rfl, ?h0_1⟩) (by assumption) ?r0_1
        case h0_1 =>
          intro W hSW
          try dsimp only at hSW
          have hcc := (hSW.cell (p := ⟨p, 0, none⟩) zp).trans HX.out
          go_simp
          try with_reducible rfl
        try simp only [Act.put, List.setIfInBounds_toArray, List.set_cons_zero, List.set_cons_succ]
        refine wpAnyH_take (i := 1) (oi := { dst := some 29, op := Op.move (Operand.tmp 5), type := 23, pos := "law.go:144", after := #[], guard := none }) (v := ?v1_2) rfl (by kernel_rfl) (by kernel_rfl) (by kernel_rfl) (fun _ _ _ h => h) (Or.inl ⟨by rfl, ?h1_2⟩) (by assumption) ?r1_2
        case h1_2 =>
          intro W hSW
          try dsimp only at hSW
          go_simp
          try with_reducible rfl
        try simp only [Act.put, List.setIfInBounds_toArray, List.set_cons_zero, List.set_cons_succ]
        refine wpAnyH_ready (rs := [2, 8]) (by kernel_rfl) (by simp) ?_
        refine AllReadyH.cons (o := { dst := some 30, op := Op.call { callee := Callee.value (Operand.func 12), args := #[Operand.tmp 29], argTypes := #[23] }, type := 30, pos := "law.go:144", after := #[{ on := 1, ground := Ground.data }], guard := none }) rfl (fun K hK => ?_) ?_
        · skip
          go_simp
          refine (HOWN.out wr.drew (HBR.out.trans (hv0.mono HBR.out.size))).mono ?_
          rintro e w20 ⟨A1, c1, rfl, own1, b20⟩
          have hv20 : Below wr.heap.size wr w20 := hv0.trans (b20.mono hv0.size)
          try (have r9 := r9.below' b20)
          try (have zp9 := Nat.lt_of_lt_of_le zp9 b20.size)
          obtain ⟨BT, hBT⟩ : ∃ x, w20.heap.size = x := ⟨_, rfl⟩
          have rT : Rd w20 BT 5 A1 ny (Ly.flatMap tcs) := by rw [← hBT]; exact Rd.of_own own1
          have zT : BT ≤ w20.heap.size := Nat.le_of_eq hBT.symm
          clear hBT own1
          go_wp2_with fail
          refine hK.out _ _ (hv20) (fun hHeld => ?_)
          clear hK K
          try simp only [Act.put, List.setIfInBounds_toArray, List.set_cons_zero, List.set_cons_succ]
          refine wpAnyH_ready (rs := [3, 8]) (by kernel_rfl) (by simp) ?_
          refine AllReadyH.cons (o := { dst := some 31, op := Op.call { callee := Callee.value (Operand.func 11), args := #[Operand.tmp 28, Operand.tmp 30], argTypes := #[26, 30] }, type := 28, pos := "law.go:144", after := #[{ on := 0, ground := Ground.data }, { on := 2, ground := Ground.data }, { on := 2, ground := Ground.chain }], guard := none }) rfl (fun K hK => ?_) ?_
          · skip
            go_simp
            have hnx := Next_ok (some ⟨g, 0, none⟩) cS cr HBAL.out.1 w20.heap.size A1 ny c1 Ly HLY.out (by omega) BT w20 rT zT (HC.out.below hv20).rd (Nat.le_refl _) HVL.out
            unfold NextOk at hnx
            refine hnx.mono ?_
            rintro e w21 ⟨gY, cY, rfl, CY, hgY, b21⟩
            have hv21 : Below wr.heap.size wr w21 := hv20.trans (b21.mono hv20.size)
            have hgW : wr.heap.size ≤ gY := Nat.le_trans hv20.size hgY
            try (have hne : gY ≠ p9 := by omega)
            try (have r9 := r9.below' b21)
            try (have zp9 := Nat.lt_of_lt_of_le zp9 b21.size)
            clear hnx hgY rT zT
            go_wp2_with fail
            refine hK.out _ _ (hv21) (fun hHeld => ?_)
            clear hK K
            try simp only [Act.put, List.setIfInBounds_toArray, List.set_cons_zero, List.set_cons_succ]
            refine wpAnyH_take (i := 4) (oi := { dst := some 27, op := Op.move (Operand.tmp 31), type := 28, pos := "law.go:144", after := #[{ on := 3, ground := Ground.data }], guard := none }) (v := ?v4_3) rfl (by kernel_rfl) (by kernel_rfl) (by kernel_rfl) (fun _ _ _ h => h) (Or.inl ⟨by rfl, ?h4_3⟩) (by assumption) ?r4_3
            case h4_3 =>
              intro W hSW
              try dsimp only at hSW
              go_simp
              try with_reducible rfl
            try simp only [Act.put, List.setIfInBounds_toArray, List.set_cons_zero, List.set_cons_succ]
            refine wpAnyH_take (i := 5) (oi := { dst := some 32, op := Op.extract (Operand.tmp 27) 0, type := 26, pos := "law.go:144", after := #[{ on := 4, ground := Ground.data }], guard := none }) (v := ?v5_4) rfl (by kernel_rfl) (by kernel_rfl) (by kernel_rfl) (fun _ _ _ h => h) (Or.inl ⟨by rfl, ?h5_4⟩) (by assumption) ?r5_4
            case h5_4 =>
              intro W hSW
              try dsimp only at hSW
              go_simp
              try with_reducible rfl
            try simp only [Act.put, List.setIfInBounds_toArray, List.set_cons_zero, List.set_cons_succ]
            refine wpAnyH_take (i := 6) (oi := { dst := some 33, op := Op.extract (Operand.tmp 27) 1, type := 3, pos := "law.go:144", after := #[{ on := 4, ground := Ground.data }, { on := 9, ground := Ground.gcOnly Departure.lateStores }], guard := none }) (v := ?v6_5) rfl (by kernel_rfl) (by kernel_rfl) (by kernel_rfl) (fun _ _ _ h => h) (Or.inl ⟨by rfl, ?h6_5⟩) (by assumption) ?r6_5
            case h6_5 =>
              intro W hSW
              try dsimp only at hSW
              go_simp
              try with_reducible rfl
            try simp only [Act.put, List.setIfInBounds_toArray, List.set_cons_zero, List.set_cons_succ]
            refine wpAnyH_take (i := 7) (oi := { dst := some 34, op := Op.extract (Operand.tmp 27) 2, type := 27, pos := "law.go:144", after := #[{ on := 4, ground := Ground.data }, { on := 10, ground := Ground.gcOnly Departure.lateStores }], guard := none }) (v := ?v7_6) rfl (by kernel_rfl) (by kernel_rfl) (by kernel_rfl) (fun _ _ _ h => h) (Or.inl ⟨by rfl, ?h7_6⟩) (by assumption) ?r7_6
            case h7_6 =>
              intro W hSW
              try dsimp only at hSW
              go_simp
              try with_reducible rfl
            try simp only [Act.put, List.setIfInBounds_toArray, List.set_cons_zero, List.set_cons_succ]
            refine wpAnyH_ready (rs := [8]) (by kernel_rfl) (by simp) ?_
            refine AllReadyH.cons (o := { dst := some 6, op := Op.alloc 26, type := 0, pos := "law.go:144", after := #[], guard := none }) rfl (fun K hK => ?_) AllReadyH.nil
            rw [if_pos (by rfl)]
            refine wp_allocRow 26 rfl [.slice none 0 0] infoS ?_
            intro w22 r9 b22 z22
            have hv22 : Below wr.heap.size wr w22 := hv21.trans (b22.mono hv21.size)
            try (have hlY := CY.lt)
            try (have CY := CY.below b22)
            try (have rT := rT.below (b22.mono zT))
            try (have zT := Nat.le_trans zT b22.size)
            have l9 : wr.heap.size ≤ w21.heap.size := hv21.size
            have zp9 : w21.heap.size < w22.heap.size := by omega
            obtain ⟨p9, hp9⟩ : ∃ p, w21.heap.size = p := ⟨_, rfl⟩
            try (have hne : gY ≠ p9 := by omega)
            rw [hp9] at r9 l9 zp9
            rw [hp9]
            clear hp9 z22
            refine hK.out _ _ (hv22) (fun hHeld => ?_)
            clear hK K
            try simp only [Act.put, List.setIfInBounds_toArray, List.set_cons_zero, List.set_cons_succ]
            refine wpAnyH_ready (rs := [9]) (by kernel_rfl) (by simp) ?_
            refine AllReadyH.cons (o := { dst := none, op := Op.store 26 (Operand.tmp 6) (Operand.tmp 32), type := 0, pos := "law.go:144", after := #[{ on := 8, ground := Ground.data }, { on := 5, ground := Ground.data }, { on := 3, ground := Ground.chain }, { on := 0, ground := Ground.phase }, { on := 1, ground := Ground.phase }, { on := 2, ground := Ground.phase }, { on := 3, ground := Ground.phase }, { on := 4, ground := Ground.phase }, { on := 5, ground := Ground.phase }, { on := 6, ground := Ground.textOnly Departure.lateStores }, { on := 7, ground := Ground.textOnly Departure.lateStores }, { on := 8, ground := Ground.phase }], guard := none }) rfl (fun K hK => ?_) AllReadyH.nil
            rw [if_pos (by rfl)]
            refine wp_storeRow 26 (.tmp 6) (.tmp 32) rfl r9 rfl (l' := [.slice (some ⟨gY, 0, none⟩) 5 cY]) rfl infoS1 rfl rfl ?_
            intro w23 s9 g23 z23
            have hv23 : Below wr.heap.size wr w23 := hv22.grown g23 hv22.size (fun k hk => by have := Option.some.inj hk; omega)
            have CY := CY.keep (g23.block gY CY.lt (by intro e; have := Option.some.inj e; omega))
            clear z23
            refine hK.out _ _ (hv23) (fun hHeld => ?_)
            clear hK K
            try simp only [Act.put, List.setIfInBounds_toArray, List.set_cons_zero, List.set_cons_succ]
            refine wpAnyH_take (i := 10) (oi := { dst := some 7, op := Op.assign (Operand.tmp 33), type := 3, pos := "law.go:144", after := #[{ on := 6, ground := Ground.data }, { on := 9, ground := Ground.chain }, { on := 0, ground := Ground.phase }, { on := 1, ground := Ground.phase }, { on := 2, ground := Ground.phase }, { on := 3, ground := Ground.phase }, { on := 4, ground := Ground.phase }, { on := 5, ground := Ground.phase }, { on := 6, ground := Ground.phase }, { on := 7, ground := Ground.textOnly Departure.lateStores }, { on := 8, ground := Ground.phase }, { on := 9, ground := Ground.phase }], guard := none }) (v := ?v10_7) rfl (by kernel_rfl) (by kernel_rfl) (by kernel_rfl) (fun _ _ _ h => h) (Or.inl ⟨by rfl, ?h10_7⟩) (by assumption) ?r10_7
            case h10_7 =>
              intro W hSW
              try dsimp only at hSW
              go_simp
              try with_reducible rfl
            try simp only [Act.put, List.setIfInBounds_toArray, List.set_cons_zero, List.set_cons_succ]
            refine wpAnyH_take (i := 11) (oi := { dst := some 8, op := Op.assign (Operand.tmp 34), type := 27, pos := "law.go:144", after := #[{ on := 7, ground := Ground.data }, { on := 10, ground := Ground.chain }, { on := 0, ground := Ground.phase }, { on := 1, ground := Ground.phase }, { on := 2, ground := Ground.phase }, { on := 3, ground := Ground.phase }, { on := 4, ground := Ground.phase }, { on := 5, ground := Ground.phase }, { on := 6, ground := Ground.phase }, { on := 7, ground := Ground.phase }, { on := 8, ground := Ground.phase }, { on := 9, ground := Ground.phase }, { on := 10, ground := Ground.phase }], guard := none }) (v := ?v11_8) rfl (by kernel_rfl) (by kernel_rfl) (by kernel_rfl) (fun _ _ _ h => h) (Or.inl ⟨by rfl, ?h11_8⟩) (by assumption) ?r11_8
            case h11_8 =>
              intro W hSW
              try dsimp only at hSW
              go_simp
              try with_reducible rfl
            try simp only [Act.put, List.setIfInBounds_toArray, List.set_cons_zero, List.set_cons_succ]
            refine wpAnyH_done (by kernel_rfl) ?_ _
            go_wp2_with fail
            go_meet
            exact ⟨_, p9, gY, cY, rfl, rfl, rfl, s9.cell 0, CY, hgW, hv23⟩
          · skip
            refine AllReadyH.cons (o := { dst := some 6, op := Op.alloc 26, type := 0, pos := "law.go:144", after := #[], guard := none }) rfl (fun K hK => ?_) AllReadyH.nil
            rw [if_pos (by rfl)]
            refine wp_allocRow 26 rfl [.slice none 0 0] infoS ?_
            intro w21 r9 b21 z21
            have hv21 : Below wr.heap.size wr w21 := hv20.trans (b21.mono hv20.size)
            try (have hlY := CY.lt)
            try (have CY := CY.below b21)
            try (have rT := rT.below (b21.mono zT))
            try (have zT := Nat.le_trans zT b21.size)
            have l9 : wr.heap.size ≤ w20.heap.size := hv20.size
            have zp9 : w20.heap.size < w21.heap.size := by omega
            obtain ⟨p9, hp9⟩ : ∃ p, w20.heap.size = p := ⟨_, rfl⟩
            try (have hne : gY ≠ p9 := by omega)
            rw [hp9] at r9 l9 zp9
            rw [hp9]
            clear hp9 z21
            refine hK.out _ _ (hv21) (fun hHeld => ?_)
            clear hK K
            try simp only [Act.put, List.setIfInBounds_toArray, List.set_cons_zero, List.set_cons_succ]
            refine wpAnyH_ready (rs := [3]) (by kernel_rfl) (by simp) ?_
            refine AllReadyH.cons (o := { dst := some 31, op := Op.call { callee := Callee.value (Operand.func 11), args := #[Operand.tmp 28, Operand.tmp 30], argTypes := #[26, 30] }, type := 28, pos := "law.go:144", after := #[{ on := 0, ground := Ground.data }, { on := 2, ground := Ground.data }, { on := 2, ground := Ground.chain }], guard := none }) rfl (fun K hK => ?_) AllReadyH.nil
            go_simp
            have hnx := Next_ok (some ⟨g, 0, none⟩) cS cr HBAL.out.1 w21.heap.size A1 ny c1 Ly HLY.out (by omega) BT w21 rT zT (HC.out.below hv21).rd (Nat.le_refl _) HVL.out
            unfold NextOk at hnx
            refine hnx.mono ?_
            rintro e w22 ⟨gY, cY, rfl, CY, hgY, b22⟩
            have hv22 : Below wr.heap.size wr w22 := hv21.trans (b22.mono hv21.size)
            have hgW : wr.heap.size ≤ gY := Nat.le_trans hv21.size hgY
            try (have hne : gY ≠ p9 := by omega)
            try (have r9 := r9.below' b22)
            try (have zp9 := Nat.lt_of_lt_of_le zp9 b22.size)
            clear hnx hgY rT zT
            go_wp2_with fail
            refine hK.out _ _ (hv22) (fun hHeld => ?_)
            clear hK K
            try simp only [Act.put, List.setIfInBounds_toArray, List.set_cons_zero, List.set_cons_succ]
            refine wpAnyH_take (i := 4) (oi := { dst := some 27, op := Op.move (Operand.tmp 31), type := 28, pos := "law.go:144", after := #[{ on := 3, ground := Ground.data }], guard := none }) (v := ?v4_9) rfl (by kernel_rfl) (by kernel_rfl) (by kernel_rfl) (fun _ _ _ h => h) (Or.inl ⟨by rfl, ?h4_9⟩) (by assumption) ?r4_9
            case h4_9 =>
              intro W hSW
              try dsimp only at hSW
              go_simp
              try with_reducible rfl
            try simp only [Act.put, List.setIfInBounds_toArray, List.set_cons_zero, List.set_cons_succ]
            refine wpAnyH_take (i := 5) (oi := { dst := some 32, op := Op.extract (Operand.tmp 27) 0, type := 26, pos := "law.go:144", after := #[{ on := 4, ground := Ground.data }], guard := none }) (v := ?v5_10) rfl (by kernel_rfl) (by kernel_rfl) (by kernel_rfl) (fun _ _ _ h => h) (Or.inl ⟨by rfl, ?h5_10⟩) (by assumption) ?r5_10
            case h5_10 =>
              intro W hSW
              try dsimp only at hSW
              go_simp
              try with_reducible rfl
            try simp only [Act.put, List.setIfInBounds_toArray, List.set_cons_zero, List.set_cons_succ]
            refine wpAnyH_take (i := 6) (oi := { dst := some 33, op := Op.extract (Operand.tmp 27) 1, type := 3, pos := "law.go:144", after := #[{ on := 4, ground := Ground.data }, { on := 9, ground := Ground.gcOnly Departure.lateStores }], guard := none }) (v := ?v6_11) rfl (by kernel_rfl) (by kernel_rfl) (by kernel_rfl) (fun _ _ _ h => h) (Or.inl ⟨by rfl, ?h6_11⟩) (by assumption) ?r6_11
            case h6_11 =>
              intro W hSW
              try dsimp only at hSW
              go_simp
              try with_reducible rfl
            try simp only [Act.put, List.setIfInBounds_toArray, List.set_cons_zero, List.set_cons_succ]
            refine wpAnyH_take (i := 7) (oi := { dst := some 34, op := Op.extract (Operand.tmp 27) 2, type := 27, pos := "law.go:144", after := #[{ on := 4, ground := Ground.data }, { on := 10, ground := Ground.gcOnly Departure.lateStores }], guard := none }) (v := ?v7_12) rfl (by kernel_rfl) (by kernel_rfl) (by kernel_rfl) (fun _ _ _ h => h) (Or.inl ⟨by rfl, ?h7_12⟩) (by assumption) ?r7_12
            case h7_12 =>
              intro W hSW
              try dsimp only at hSW
              go_simp
              try with_reducible rfl
            try simp only [Act.put, List.setIfInBounds_toArray, List.set_cons_zero, List.set_cons_succ]
            refine wpAnyH_ready (rs := [9]) (by kernel_rfl) (by simp) ?_
            refine AllReadyH.cons (o := { dst := none, op := Op.store 26 (Operand.tmp 6) (Operand.tmp 32), type := 0, pos := "law.go:144", after := #[{ on := 8, ground := Ground.data }, { on := 5, ground := Ground.data }, { on := 3, ground := Ground.chain }, { on := 0, ground := Ground.phase }, { on := 1, ground := Ground.phase }, { on := 2, ground := Ground.phase }, { on := 3, ground := Ground.phase }, { on := 4, ground := Ground.phase }, { on := 5, ground := Ground.phase }, { on := 6, ground := Ground.textOnly Departure.lateStores }, { on := 7, ground := Ground.textOnly Departure.lateStores }, { on := 8, ground := Ground.phase }], guard := none }) rfl (fun K hK => ?_) AllReadyH.nil
            rw [if_pos (by rfl)]
            refine wp_storeRow 26 (.tmp 6) (.tmp 32) rfl r9 rfl (l' := [.slice (some ⟨gY, 0, none⟩) 5 cY]) rfl infoS1 rfl rfl ?_
            intro w23 s9 g23 z23
            have hv23 : Below wr.heap.size wr w23 := hv22.grown g23 hv22.size (fun k hk => by have := Option.some.inj hk; omega)
            have CY := CY.keep (g23.block gY CY.lt (by intro e; have := Option.some.inj e; omega))
            clear z23
            refine hK.out _ _ (hv23) (fun hHeld => ?_)
            clear hK K
            try simp only [Act.put, List.setIfInBounds_toArray, List.set_cons_zero, List.set_cons_succ]
            refine wpAnyH_take (i := 10) (oi := { dst := some 7, op := Op.assign (Operand.tmp 33), type := 3, pos := "law.go:144", after := #[{ on := 6, ground := Ground.data }, { on := 9, ground := Ground.chain }, { on := 0, ground := Ground.phase }, { on := 1, ground := Ground.phase }, { on := 2, ground := Ground.phase }, { on := 3, ground := Ground.phase }, { on := 4, ground := Ground.phase }, { on := 5, ground := Ground.phase }, { on := 6, ground := Ground.phase }, { on := 7, ground := Ground.textOnly Departure.lateStores }, { on := 8, ground := Ground.phase }, { on := 9, ground := Ground.phase }], guard := none }) (v := ?v10_13) rfl (by kernel_rfl) (by kernel_rfl) (by kernel_rfl) (fun _ _ _ h => h) (Or.inl ⟨by rfl, ?h10_13⟩) (by assumption) ?r10_13
            case h10_13 =>
              intro W hSW
              try dsimp only at hSW
              go_simp
              try with_reducible rfl
            try simp only [Act.put, List.setIfInBounds_toArray, List.set_cons_zero, List.set_cons_succ]
            refine wpAnyH_take (i := 11) (oi := { dst := some 8, op := Op.assign (Operand.tmp 34), type := 27, pos := "law.go:144", after := #[{ on := 7, ground := Ground.data }, { on := 10, ground := Ground.chain }, { on := 0, ground := Ground.phase }, { on := 1, ground := Ground.phase }, { on := 2, ground := Ground.phase }, { on := 3, ground := Ground.phase }, { on := 4, ground := Ground.phase }, { on := 5, ground := Ground.phase }, { on := 6, ground := Ground.phase }, { on := 7, ground := Ground.phase }, { on := 8, ground := Ground.phase }, { on := 9, ground := Ground.phase }, { on := 10, ground := Ground.phase }], guard := none }) (v := ?v11_14) rfl (by kernel_rfl) (by kernel_rfl) (by kernel_rfl) (fun _ _ _ h => h) (Or.inl ⟨by rfl, ?h11_14⟩) (by assumption) ?r11_14
            case h11_14 =>
              intro W hSW
              try dsimp only at hSW
              go_simp
              try with_reducible rfl
            try simp only [Act.put, List.setIfInBounds_toArray, List.set_cons_zero, List.set_cons_succ]
            refine wpAnyH_done (by kernel_rfl) ?_ _
            go_wp2_with fail
            go_meet
            exact ⟨_, p9, gY, cY, rfl, rfl, rfl, s9.cell 0, CY, hgW, hv23⟩
        · skip
          refine AllReadyH.cons (o := { dst := some 6, op := Op.alloc 26, type := 0, pos := "law.go:144", after := #[], guard := none }) rfl (fun K hK => ?_) AllReadyH.nil
          rw [if_pos (by rfl)]
          refine wp_allocRow 26 rfl [.slice none 0 0] infoS ?_
          intro w20 r9 b20 z20
          have hv20 : Below wr.heap.size wr w20 := hv0.trans (b20.mono hv0.size)
          try (have hlY := CY.lt)
          try (have CY := CY.below b20)
          try (have rT := rT.below (b20.mono zT))
          try (have zT := Nat.le_trans zT b20.size)
          have l9 : wr.heap.size ≤ wr.drew.heap.size := hv0.size
          have zp9 : wr.drew.heap.size < w20.heap.size := by omega
          obtain ⟨p9, hp9⟩ : ∃ p, wr.drew.heap.size = p := ⟨_, rfl⟩
          try (have hne : gY ≠ p9 := by omega)
          rw [hp9] at r9 l9 zp9
          rw [hp9]
          clear hp9 z20
          refine hK.out _ _ (hv20) (fun hHeld => ?_)
          clear hK K
          try simp only [Act.put, List.setIfInBounds_toArray, List.set_cons_zero, List.set_cons_succ]
          refine wpAnyH_ready (rs := [2]) (by kernel_rfl) (by simp) ?_
          refine AllReadyH.cons (o := { dst := some 30, op := Op.call { callee := Callee.value (Operand.func 12), args := #[Operand.tmp 29], argTypes := #[23] }, type := 30, pos := "law.go:144", after := #[{ on := 1, ground := Ground.data }], guard := none }) rfl (fun K hK => ?_) AllReadyH.nil
          go_simp
          refine (HOWN.out w20 (HBR.out.trans (hv20.mono HBR.out.size))).mono ?_
          rintro e w21 ⟨A1, c1, rfl, own1, b21⟩
          have hv21 : Below wr.heap.size wr w21 := hv20.trans (b21.mono hv20.size)
          try (have r9 := r9.below' b21)
          try (have zp9 := Nat.lt_of_lt_of_le zp9 b21.size)
          obtain ⟨BT, hBT⟩ : ∃ x, w21.heap.size = x := ⟨_, rfl⟩
          have rT : Rd w21 BT 5 A1 ny (Ly.flatMap tcs) := by rw [← hBT]; exact Rd.of_own own1
          have zT : BT ≤ w21.heap.size := Nat.le_of_eq hBT.symm
          clear hBT own1
          go_wp2_with fail
          refine hK.out _ _ (hv21) (fun hHeld => ?_)
          clear hK K
          try simp only [Act.put, List.setIfInBounds_toArray, List.set_cons_zero, List.set_cons_succ]
          refine wpAnyH_ready (rs := [3]) (by kernel_rfl) (by simp) ?_
          refine AllReadyH.cons (o := { dst := some 31, op := Op.call { callee := Callee.value (Operand.func 11), args := #[Operand.tmp 28, Operand.tmp 30], argTypes := #[26, 30] }, type := 28, pos := "law.go:144", after := #[{ on := 0, ground := Ground.data }, { on := 2, ground := Ground.data }, { on := 2, ground := Ground.chain }], guard := none }) rfl (fun K hK => ?_) AllReadyH.nil
          go_simp
          have hnx := Next_ok (some ⟨g, 0, none⟩) cS cr HBAL.out.1 w21.heap.size A1 ny c1 Ly HLY.out (by omega) BT w21 rT zT (HC.out.below hv21).rd (Nat.le_refl _) HVL.out
          unfold NextOk at hnx
          refine hnx.mono ?_
          rintro e w22 ⟨gY, cY, rfl, CY, hgY, b22⟩
          have hv22 : Below wr.heap.size wr w22 := hv21.trans (b22.mono hv21.size)
          have hgW : wr.heap.size ≤ gY := Nat.le_trans hv21.size hgY
          try (have hne : gY ≠ p9 := by omega)
          try (have r9 := r9.below' b22)
          try (have zp9 := Nat.lt_of_lt_of_le zp9 b22.size)
          clear hnx hgY rT zT
          go_wp2_with fail
          refine hK.out _ _ (hv22) (fun hHeld => ?_)
          clear hK K
          try simp only [Act.put, List.setIfInBounds_toArray, List.set_cons_zero, List.set_cons_succ]
          refine wpAnyH_take (i := 4) (oi := { dst := some 27, op := Op.move (Operand.tmp 31), type := 28, pos := "law.go:144", after := #[{ on := 3, ground := Ground.data }], guard := none }) (v := ?v4_15) rfl (by kernel_rfl) (by kernel_rfl) (by kernel_rfl) (fun _ _ _ h => h) (Or.inl ⟨by rfl, ?h4_15⟩) (by assumption) ?r4_15
          case h4_15 =>
            intro W hSW
            try dsimp only at hSW
            go_simp
            try with_reducible rfl
          try simp only [Act.put, List.setIfInBounds_toArray, List.set_cons_zero, List.set_cons_succ]
          refine wpAnyH_take (i := 5) (oi := { dst := some 32, op := Op.extract (Operand.tmp 27) 0, type := 26, pos := "law.go:144", after := #[{ on := 4, ground := Ground.data }], guard := none }) (v := ?v5_16) rfl (by kernel_rfl) (by kernel_rfl) (by kernel_rfl) (fun _ _ _ h => h) (Or.inl ⟨by rfl, ?h5_16⟩) (by assumption) ?r5_16
          case h5_16 =>
            intro W hSW
            try dsimp only at hSW
            go_simp
            try with_reducible rfl
          try simp only [Act.put, List.setIfInBounds_toArray, List.set_cons_zero, List.set_cons_succ]
          refine wpAnyH_take (i := 6) (oi := { dst := some 33, op := Op.extract (Operand.tmp 27) 1, type := 3, pos := "law.go:144", after := #[{ on := 4, ground := Ground.data }, { on := 9, ground := Ground.gcOnly Departure.lateStores }], guard := none }) (v := ?v6_17) rfl (by kernel_rfl) (by kernel_rfl) (by kernel_rfl) (fun _ _ _ h => h) (Or.inl ⟨by rfl, ?h6_17⟩) (by assumption) ?r6_17
          case h6_17 =>
            intro W hSW
            try dsimp only at hSW
            go_simp
            try with_reducible rfl
          try simp only [Act.put, List.setIfInBounds_toArray, List.set_cons_zero, List.set_cons_succ]
          refine wpAnyH_take (i := 7) (oi := { dst := some 34, op := Op.extract (Operand.tmp 27) 2, type := 27, pos := "law.go:144", after := #[{ on := 4, ground := Ground.data }, { on := 10, ground := Ground.gcOnly Departure.lateStores }], guard := none }) (v := ?v7_18) rfl (by kernel_rfl) (by kernel_rfl) (by kernel_rfl) (fun _ _ _ h => h) (Or.inl ⟨by rfl, ?h7_18⟩) (by assumption) ?r7_18
          case h7_18 =>
            intro W hSW
            try dsimp only at hSW
            go_simp
            try with_reducible rfl
          try simp only [Act.put, List.setIfInBounds_toArray, List.set_cons_zero, List.set_cons_succ]
          refine wpAnyH_ready (rs := [9]) (by kernel_rfl) (by simp) ?_
          refine AllReadyH.cons (o := { dst := none, op := Op.store 26 (Operand.tmp 6) (Operand.tmp 32), type := 0, pos := "law.go:144", after := #[{ on := 8, ground := Ground.data }, { on := 5, ground := Ground.data }, { on := 3, ground := Ground.chain }, { on := 0, ground := Ground.phase }, { on := 1, ground := Ground.phase }, { on := 2, ground := Ground.phase }, { on := 3, ground := Ground.phase }, { on := 4, ground := Ground.phase }, { on := 5, ground := Ground.phase }, { on := 6, ground := Ground.textOnly Departure.lateStores }, { on := 7, ground := Ground.textOnly Departure.lateStores }, { on := 8, ground := Ground.phase }], guard := none }) rfl (fun K hK => ?_) AllReadyH.nil
          rw [if_pos (by rfl)]
          refine wp_storeRow 26 (.tmp 6) (.tmp 32) rfl r9 rfl (l' := [.slice (some ⟨gY, 0, none⟩) 5 cY]) rfl infoS1 rfl rfl ?_
          intro w23 s9 g23 z23
          have hv23 : Below wr.heap.size wr w23 := hv22.grown g23 hv22.size (fun k hk => by have := Option.some.inj hk; omega)
          have CY := CY.keep (g23.block gY CY.lt (by intro e; have := Option.some.inj e; omega))
          clear z23
          refine hK.out _ _ (hv23) (fun hHeld => ?_)
          clear hK K
          try simp only [Act.put, List.setIfInBounds_toArray, List.set_cons_zero, List.set_cons_succ]
          refine wpAnyH_take (i := 10) (oi := { dst := some 7, op := Op.assign (Operand.tmp 33), type := 3, pos := "law.go:144", after := #[{ on := 6, ground := Ground.data }, { on := 9, ground := Ground.chain }, { on := 0, ground := Ground.phase }, { on := 1, ground := Ground.phase }, { on := 2, ground := Ground.phase }, { on := 3, ground := Ground.phase }, { on := 4, ground := Ground.phase }, { on := 5, ground := Ground.phase }, { on := 6, ground := Ground.phase }, { on := 7, ground := Ground.textOnly Departure.lateStores }, { on := 8, ground := Ground.phase }, { on := 9, ground := Ground.phase }], guard := none }) (v := ?v10_19) rfl (by kernel_rfl) (by kernel_rfl) (by kernel_rfl) (fun _ _ _ h => h) (Or.inl ⟨by rfl, ?h10_19⟩) (by assumption) ?r10_19
          case h10_19 =>
            intro W hSW
            try dsimp only at hSW
            go_simp
            try with_reducible rfl
          try simp only [Act.put, List.setIfInBounds_toArray, List.set_cons_zero, List.set_cons_succ]
          refine wpAnyH_take (i := 11) (oi := { dst := some 8, op := Op.assign (Operand.tmp 34), type := 27, pos := "law.go:144", after := #[{ on := 7, ground := Ground.data }, { on := 10, ground := Ground.chain }, { on := 0, ground := Ground.phase }, { on := 1, ground := Ground.phase }, { on := 2, ground := Ground.phase }, { on := 3, ground := Ground.phase }, { on := 4, ground := Ground.phase }, { on := 5, ground := Ground.phase }, { on := 6, ground := Ground.phase }, { on := 7, ground := Ground.phase }, { on := 8, ground := Ground.phase }, { on := 9, ground := Ground.phase }, { on := 10, ground := Ground.phase }], guard := none }) (v := ?v11_20) rfl (by kernel_rfl) (by kernel_rfl) (by kernel_rfl) (fun _ _ _ h => h) (Or.inl ⟨by rfl, ?h11_20⟩) (by assumption) ?r11_20
          case h11_20 =>
            intro W hSW
            try dsimp only at hSW
            go_simp
            try with_reducible rfl
          try simp only [Act.put, List.setIfInBounds_toArray, List.set_cons_zero, List.set_cons_succ]
          refine wpAnyH_done (by kernel_rfl) ?_ _
          go_wp2_with fail
          go_meet
          exact ⟨_, p9, gY, cY, rfl, rfl, rfl, s9.cell 0, CY, hgW, hv23⟩
      case rest =>
        obtain ⟨wv, p9, gY, cY, rfl, rfl, rfl, HX9, HCY, HGY, hbv⟩ := hcut
        generalize (Sc.next cr Ly (List.range ny)).1 = cn at *
        have hrn := Sc.bal_range (n := 100 * (k : Int) + 100) (by omega) HBN.out
        have HRN := Lib.hid (Sc.getD_range hrn)
        have x9 := HX9.out
        have HBV := Lib.hid hbv
        clear hbv hrn
        go_wp2_with fail
        go_loop [9, 46] (fun u9 u46 => ∃ (j : Nat) (s : Int), j ≤ 5 ∧ u46 = .int .i64 j ∧ u9 = .int .i64 s ∧ Hid (s = (cn.take j).sum) ∧ -63 * (j : Int) ≤ s ∧ s ≤ 63 * (j : Int)) (fun _ u46 => 5 - (intOf u46).toNat)
        case atStart => exact ⟨0, 0, Nat.zero_le _, rfl, rfl, rfl, by omega, by omega⟩
        case round =>
          obtain ⟨j, s, hj, rfl, rfl, HS, s1, s2⟩ := hrel
          by_cases hj5 : j < 5
          · have hcj := HCY.out.cell j hj5
            have hr := HRN.out j
            have hst := sum_step (l := cn) (j := j) (by rw [HBN.out.1]; exact hj5)
            rw [← HS.out] at hst
            generalize cn.getD j 0 = v at *
            have HST := Lib.hid hst
            obtain ⟨v1, v2⟩ := hr
            have i0 : (0 : Int) ≤ (j : Int) := by omega
            have i1 : (j : Int) < 5 := by omega
            have d1 : ¬ (v < -100) := by omega
            have d2 : ¬ (100 < v) := by omega
            have hw : IntKind.i64.wrap (s + v) = s + v := by rw [IntKind.wrap_i64]; omega
            clear hst
            go_wp2_with fail
            go_round
            case rel => exact ⟨j + 1, s + v, by omega, by go_num, rfl, HST.out.symm, by omega, by omega⟩
            case measure => simp [intOf]; omega
          · have hge : (5 : Int) ≤ (j : Int) := by omega
            have hs0 : s = 0 := by rw [HS.out, List.take_of_length_le (by rw [HBN.out.1]; omega)]; exact HBN.out.2.1
            subst hs0
            have hxp := (HBV.out.cell (p := ⟨p, 0, none⟩) zp).trans HX.out
            have hfp := (World.frozen?_of_block (a := ⟨p, 0, none⟩) (HBV.out.block p zp)).trans HF.out
            go_wp2_with fail
            go_roundw
            case rel => exact ⟨_, k + 1, gY, cY, cn, rfl, by omega, by go_num, cell_set_eq _ _ hxp, by simpa using hfp, by have := HBV.out.size; show p < _; simp; omega, by have := HGY.out; show gY ≠ p; omega, HCY.out.keep ((grown_setCell wv p 0 _).block gY HCY.out.lt (by intro e; have := Option.some.inj e; have := HGY.out; omega)), by have h := HBN.out; rw [show 100 * ((k + 1 : Nat) : Int) = 100 * (k : Int) + 100 by omega]; exact h, (HBR.out.trans (HBV.out.mono HBR.out.size)).grown (grown_setCell wv p 0 _) (by have := HBR.out.size; have := HBV.out.size; omega) fun q hq => by have := Option.some.inj hq; have := HP0.out; omega⟩
            case measure => simp [intOf]; omega
    · have k1 : (n : Int) ≤ (k : Int) := by omega
      have HBR := Lib.hid hbr
      clear hbr hf
      go_wp2_with (go_at_call 10; refine (sanity_any _).mono ?_; rintro e w4 ⟨rfl, b4⟩)
      go_ret
      exact ⟨rfl, HBR.out.trans (b4.mono HBR.out.size)⟩
end Go.Proofs.Ytfihdenapjmaeaa
