/- The walk of the statement IndexIncludes: it returns true. Conditions: none beyond what the arguments are. -/
import Derived.Test.YtnehbcopbioenaaIPlay
import Derived.Test.YtnehbcopbioenaaILaws
namespace Go.Proofs.Ytnehbcopbioenaa
set_option linter.unusedVariables false
set_option linter.unusedSimpArgs false
open Go.RowKit Go.ChangeMaps

theorem evs_prefix {w : World} {B n : Nat} {A : Option Addr} {L : List (Int × Int)} (h : Rd w B 2 A n (evs L)) {k : Nat} (hk : k ≤ n) : Rd w B 2 A k (evs (L.take k)) := by
  rw [evs_take]; exact h.take hk
theorem ivs_prefix {w : World} {B n : Nat} {A : Option Addr} {L : List Int} (h : Rd w B 1 A n (ivs L)) {k : Nat} (hk : k ≤ n) : Rd w B 1 A k (ivs (L.take k)) := by
  have := h.take hk
  rwa [Nat.mul_one, ← List.map_take] at this
/-- 's[:k]' of a slice of the call's own, as the walk spells it -/
theorem run_cutTo' {P : Program} (w : World) {t e : TypeId} {z : Value} {size bytes : Nat} (E : ElemT P t e z size bytes) (A : Option Addr) (n c h : Nat) (kh : IntKind) (hh : h ≤ c) :
    (Instr.sliceAt t (.slice A n c) none (some (.int kh h)) none).run P w = .ok (.slice (if c = 0 then A else A.map (·.add 0)) h c) w := by
  obtain ⟨i, hi, hz, hsize, hby⟩ := info_parts E.info
  simp [Instr.sliceAt, run_underlying E.sl, Instr.slice, Instr.sliceBounds, run_sliceBound, hh, sizeOf, typeInfo, hi, hsize]

set_option maxHeartbeats 3200000 in
theorem lawInc1 (a b : Int) (hab : a < b) (A : Option Addr) (n c : Nat) (os : List IOp) (hn : os.length = n) (hnc : n ≤ c) (hc : c ≤ 140737488355328) (hok : OpsOk os) (w : World) (hr : Rd w w.heap.size 3 A n (ovs os)) :
    Calls Try.prog 3 #[.int .i64 a, .int .i64 b, .slice A n c] w fun e w' => e = .returned (.bool true) ∧ Below w.heap.size w w' := by
  by_cases hv1 : (a < 1 ∨ 4096 < a) ∨ 80 < n
  · by_cases hv2 : (b < 1 ∨ 4096 < b) ∨ 80 < n
    · go_enter Try.func3, Try.ntmps3
      go_wp2_with (go_at_call 9; refine (sanity_any _).mono ?_; rintro e w1 ⟨rfl, b1⟩)
      refine (play_bad a A n c _ hv1).mono ?_
      rintro e w2 ⟨rfl, b2⟩
      have b2' := b1.trans (b2.mono b1.size)
      go_wp2_with fail
      refine (play_bad b A n c _ hv2).mono ?_
      rintro e w3 ⟨rfl, b3⟩
      have b3' := b2'.trans (b3.mono b2'.size)
      go_wp2_with fail
      go_ret
      exact ⟨rfl, b3'⟩
    · go_enter Try.func3, Try.ntmps3
      go_wp2_with (go_at_call 9; refine (sanity_any _).mono ?_; rintro e w1 ⟨rfl, b1⟩)
      refine (play_bad a A n c _ hv1).mono ?_
      rintro e w2 ⟨rfl, b2⟩
      have b2' := b1.trans (b2.mono b1.size)
      go_wp2_with fail
      refine (play_any b (by omega) (by omega) A n c os hn (by omega) hok _ _ (b2'.size) (hr.below b2')).mono ?_
      rintro e w3 ⟨by_, rfl, bn, hI3, _, _, b3⟩
      have b3' := b2'.trans (b3.mono b2'.size)
      go_wp2_with fail
      go_ret
      exact ⟨rfl, b3'⟩
  · by_cases hv2 : (b < 1 ∨ 4096 < b) ∨ 80 < n
    · go_enter Try.func3, Try.ntmps3
      go_wp2_with (go_at_call 9; refine (sanity_any _).mono ?_; rintro e w1 ⟨rfl, b1⟩)
      refine (play_any a (by omega) (by omega) A n c os hn (by omega) hok _ _ b1.size (hr.below b1)).mono ?_
      rintro e w2 ⟨bx, rfl, bm, hI2, _, _, b2⟩
      have b2' := b1.trans (b2.mono b1.size)
      go_wp2_with fail
      refine (play_bad b A n c _ hv2).mono ?_
      rintro e w3 ⟨rfl, b3⟩
      have b3' := b2'.trans (b3.mono b2'.size)
      go_wp2_with fail
      go_ret
      exact ⟨rfl, b3'⟩
    · obtain ⟨L1, L2, HL1, HL2, hp, hI1, hI2⟩ : ∃ L1 L2, Hid (playL a os = L1) ∧ Hid (playL b os = L2) ∧ L1 <+: L2 ∧ (L1.length : Int) ≤ a ∧ (L2.length : Int) ≤ b :=
        ⟨_, _, rfl, rfl, play_prefix (by omega) (by omega) hok, (Inv.play (by omega) hok).len, (Inv.play (by omega) hok).len⟩
      have hl := hp.length_le
      go_enter Try.func3, Try.ntmps3
      have HN := Lib.hid hn
      have HOK := Lib.hid hok
      clear hn hok
      go_wp2_with (go_at_call 9; refine (sanity_any _).mono ?_; rintro e w1 ⟨rfl, b1⟩)
      refine (play_any a (by omega) (by omega) A n c os HN.out (by omega) HOK.out _ _ b1.size (hr.below b1)).mono ?_
      rintro e w2 ⟨bx, rfl, bm, hx2, _, _, b2⟩
      have b2' := b1.trans (b2.mono b1.size)
      have hlx := hx2.lt
      go_wp2_with fail
      refine (play_any b (by omega) (by omega) A n c os HN.out (by omega) HOK.out _ _ b2'.size (hr.below b2')).mono ?_
      rintro e w3 ⟨by_, rfl, bn, hy3, _, _, b3⟩
      have hx3 := hx2.below b3 hlx.1 hlx.2
      have b3' := b2'.trans (b3.mono b2'.size)
      clear hx2 b3 b2 b2' b1
      rw [HL1.out] at hx3
      rw [HL2.out] at hy3
      clear HL1 HL2
      obtain ⟨l1, e1⟩ : ∃ l1, L1.length = l1 := ⟨_, rfl⟩
      obtain ⟨l2, e2⟩ : ∃ l2, L2.length = l2 := ⟨_, rfl⟩
      have hp2 := prefix_take hp
      rw [e1] at hI1 hl hp2
      rw [e2] at hI2 hl
      have H1 := Lib.hid e1
      have H2 := Lib.hid e2
      have HP := Lib.hid hp
      have HP2 := Lib.hid hp2
      clear e1 e2 hp hp2
      have hlx := hx3.lt
      have hly := hy3.lt
      have hA1 := all_holds bx bm _ L1 (by rw [H1.out]; omega) _ hx3
      rw [H1.out] at hA1
      go_wp2_with fail
      refine hA1.mono ?_
      rintro e w4 ⟨A4, c4, rfl, own4, b4⟩
      have hx4 := hx3.below b4 hlx.1 hlx.2
      have hy4 := hy3.below b4 hly.1 hly.2
      have b4' := b3'.trans (b4.mono b3'.size)
      have rd4 := Rd.of_own own4
      clear hx3 hy3 b4 b3' hA1 own4
      have hlx := hx4.lt
      have hly := hy4.lt
      have hA2 := all_holds by_ bn _ L2 (by rw [H2.out]; omega) _ hy4
      rw [H2.out] at hA2
      go_wp2_with fail
      refine hA2.mono ?_
      rintro e w5 ⟨A5, c5, rfl, own5, b5⟩
      have hx5 := hx4.below b5 hlx.1 hlx.2
      have hy5 := hy4.below b5 hly.1 hly.2
      have b5' := b4'.trans (b5.mono b4'.size)
      have rd5 := Rd.of_own own5
      have hcap5 := (own_cap own5).1
      have rd4' := rd4.below b5
      clear hx4 hy4 b5 b4' hA2 own5 rd4
      have hlt : decide (l2 < l1) = false := by simp; omega
      have hsl := fun w => run_cutTo' (P := Try.prog) w entryT A5 l2 c5 l1 .i64 (by omega)
      have hl0 : (0 : Int) ≤ l1 := by omega
      have hl1c : (l1 : Int) ≤ c5 := by omega
      obtain ⟨A6, hA6⟩ : ∃ A6, (if c5 = 0 then A5 else A5.map (·.add 0)) = A6 := ⟨_, rfl⟩
      have hAA : A6 = A5 := by
        rw [← hA6]
        split
        · rfl
        · cases A5 with
          | none => rfl
          | some x => obtain ⟨bb, oo, tt⟩ := x; cases tt <;> simp [Addr.add]
      rw [hA6, hAA] at hsl
      clear hA6 hAA
      have HS1 := Lib.hid (refSame_len A4 A5 c4 c5 l1 l1 L1 (L2.take l1) w5 H1.out (by rw [HP2.out]; exact H1.out) (by unfold maxLen; omega) _ _ rd4' (evs_prefix rd5 (by omega)) true (by rw [HP2.out]; simp))
      clear rd4' rd5
      go_wp2_with (go_at_call 12; refine HS1.out.mono ?_; rintro e w6 ⟨rfl, n6, hw6⟩; have HW6 := Lib.hid hw6; clear hw6)
      have hx6 : HoldsIx w6 bx bm a L1 := hx5.below (B := w5.heap.size) (by rw [HW6.out]; exact below_of_drewN _ _ _) hx5.lt.1 hx5.lt.2
      have hy6 : HoldsIx w6 by_ bn b L2 := hy5.below (B := w5.heap.size) (by rw [HW6.out]; exact below_of_drewN _ _ _) hy5.lt.1 hy5.lt.2
      have b6 : Below w.heap.size w w6 := by rw [HW6.out]; exact below_drewN b5' _
      clear hx5 hy5 HW6 HS1 hsl b5' hl0 hl1c hlt hlx hly
      go_loopw [14] (fun u wr => ∃ k : Nat, k ≤ n ∧ u = .int .i64 k ∧ HoldsIx wr bx bm a L1 ∧ HoldsIx wr by_ bn b L2 ∧ Below w.heap.size w wr) (fun u _ => n - (intOf u).toNat)
      case atStart => exact ⟨0, by omega, rfl, hx6, hy6, b6⟩
      case round =>
        clear hx6 hy6 b6
        obtain ⟨k, hk, rfl, hx, hy, hbel⟩ := hrel
        by_cases hlt : k < n
        · obtain ⟨bb, off, rfl, hb, _, hc1, _⟩ := ov_cells (hr.below hbel) (k := k) (by rw [HN.out]; exact hlt) hlt
          obtain ⟨o, ho⟩ : ∃ o, os[k]'(by rw [HN.out]; exact hlt) = o := ⟨_, rfl⟩
          rw [ho] at hc1
          clear ho
          obtain ⟨d, p, ch⟩ := o
          simp only at hc1
          have hk0 : (0 : Int) ≤ k := by omega
          have hk1 : (k : Int) < n := by omega
          have hpf : findL p L1 <+: findL p L2 := (HP.out.filter _).map _
          have hf1 := findL_le p L1
          have hf2 := findL_le p L2
          rw [H1.out] at hf1
          rw [H2.out] at hf2
          have hfl := hpf.length_le
          have hF1 := find_holds p bx bm _ L1 (by rw [H1.out]; omega) _ hx
          generalize findL p L1 = F1 at *
          have hlx := hx.lt
          have hly := hy.lt
          obtain ⟨f1, e1⟩ : ∃ f1, F1.length = f1 := ⟨_, rfl⟩
          rw [e1] at hF1 hf1 hfl
          go_wp2_with fail
          refine hF1.mono ?_
          rintro e w7 ⟨A7, c7, rfl, own7, b7⟩
          have hx7 := hx.below b7 hlx.1 hlx.2
          have hy7 := hy.below b7 hly.1 hly.2
          have b7' := hbel.trans (b7.mono hbel.size)
          have rd7 := Rd.of_own own7
          have hlx := hx7.lt
          have hly := hy7.lt
          have hc7 : w7.cell? ⟨bb, off + k * 3 + 1, none⟩ = some (.int .u32 p) := (b7.cell (p := ⟨bb, off + k * 3 + 1, none⟩) (Nat.lt_of_lt_of_le hb hbel.size)).trans hc1
          clear hx hy b7 hbel own7 hc1 hF1
          have hF2 := find_holds p by_ bn _ L2 (by rw [H2.out]; omega) _ hy7
          generalize findL p L2 = F2 at *
          obtain ⟨f2, e2⟩ : ∃ f2, F2.length = f2 := ⟨_, rfl⟩
          rw [e2] at hF2 hf2 hfl
          have hpt := prefix_take hpf
          rw [e1] at hpt
          have HF1 := Lib.hid e1
          have HF2 := Lib.hid e2
          have HPT := Lib.hid hpt
          clear e1 e2 hpt hpf
          go_wp2_with fail
          refine hF2.mono ?_
          rintro e w8 ⟨A8, c8, rfl, own8, b8⟩
          have hx8 := hx7.below b8 hlx.1 hlx.2
          have hy8 := hy7.below b8 hly.1 hly.2
          have b8' := b7'.trans (b8.mono b7'.size)
          have rd8 := Rd.of_own own8
          have hcap8 := (own_cap own8).1
          have rd7' := rd7.below b8
          clear hx7 hy7 b8 b7' own8 rd7 hc7 hF2
          have hltf : ¬ (f2 : Int) < f1 := by omega
          have hsl := fun w => run_cutTo' (P := Try.prog) w intT A8 f2 c8 f1 .i64 (by omega)
          have hl0 : (0 : Int) ≤ f1 := by omega
          have hl1c : (f1 : Int) ≤ c8 := by omega
          obtain ⟨A9, hA9⟩ : ∃ A9, (if c8 = 0 then A8 else A8.map (·.add 0)) = A9 := ⟨_, rfl⟩
          have hAA : A9 = A8 := by
            rw [← hA9]
            split
            · rfl
            · cases A8 with
              | none => rfl
              | some x => obtain ⟨bb, oo, tt⟩ := x; cases tt <;> simp [Addr.add]
          rw [hA9, hAA] at hsl
          clear hA9 hAA
          have HS1 := Lib.hid (sameInts_len A7 A8 c7 c8 f1 f1 F1 (F2.take f1) w8 HF1.out (by rw [HPT.out]; exact HF1.out) (by unfold maxLen; omega) _ _ rd7' (ivs_prefix rd8 (by omega)) true (by rw [HPT.out]; simp))
          clear rd7' rd8
          go_wp2_with (go_at_call 14; refine HS1.out.mono ?_; rintro e w9 ⟨rfl, n9, hw9⟩; have HW9 := Lib.hid hw9; clear hw9)
          have hx9 : HoldsIx w9 bx bm a L1 := hx8.below (B := w8.heap.size) (by rw [HW9.out]; exact below_of_drewN _ _ _) hx8.lt.1 hx8.lt.2
          have hy9 : HoldsIx w9 by_ bn b L2 := hy8.below (B := w8.heap.size) (by rw [HW9.out]; exact below_of_drewN _ _ _) hy8.lt.1 hy8.lt.2
          have b9 : Below w.heap.size w w9 := by rw [HW9.out]; exact below_drewN b8' _
          clear HW9 HS1 hsl
          go_roundw
          case rel => exact ⟨k + 1, by omega, by go_num, hx9, hy9, b9⟩
          case measure => simp [intOf]; omega
        · have hk1 : ¬ (k : Int) < n := by omega
          go_wp2
          go_ret
          exact ⟨rfl, hbel⟩
set_option maxHeartbeats 3200000 in
theorem lawInc2 (a b : Int) (hab : b < a) (A : Option Addr) (n c : Nat) (os : List IOp) (hn : os.length = n) (hnc : n ≤ c) (hc : c ≤ 140737488355328) (hok : OpsOk os) (w : World) (hr : Rd w w.heap.size 3 A n (ovs os)) :
    Calls Try.prog 3 #[.int .i64 a, .int .i64 b, .slice A n c] w fun e w' => e = .returned (.bool true) ∧ Below w.heap.size w w' := by
  by_cases hv1 : (b < 1 ∨ 4096 < b) ∨ 80 < n
  · by_cases hv2 : (a < 1 ∨ 4096 < a) ∨ 80 < n
    · go_enter Try.func3, Try.ntmps3
      go_wp2_with (go_at_call 9; refine (sanity_any _).mono ?_; rintro e w1 ⟨rfl, b1⟩)
      refine (play_bad b A n c _ hv1).mono ?_
      rintro e w2 ⟨rfl, b2⟩
      have b2' := b1.trans (b2.mono b1.size)
      go_wp2_with fail
      refine (play_bad a A n c _ hv2).mono ?_
      rintro e w3 ⟨rfl, b3⟩
      have b3' := b2'.trans (b3.mono b2'.size)
      go_wp2_with fail
      go_ret
      exact ⟨rfl, b3'⟩
    · go_enter Try.func3, Try.ntmps3
      go_wp2_with (go_at_call 9; refine (sanity_any _).mono ?_; rintro e w1 ⟨rfl, b1⟩)
      refine (play_bad b A n c _ hv1).mono ?_
      rintro e w2 ⟨rfl, b2⟩
      have b2' := b1.trans (b2.mono b1.size)
      go_wp2_with fail
      refine (play_any a (by omega) (by omega) A n c os hn (by omega) hok _ _ (b2'.size) (hr.below b2')).mono ?_
      rintro e w3 ⟨by_, rfl, bn, hI3, _, _, b3⟩
      have b3' := b2'.trans (b3.mono b2'.size)
      go_wp2_with fail
      go_ret
      exact ⟨rfl, b3'⟩
  · by_cases hv2 : (a < 1 ∨ 4096 < a) ∨ 80 < n
    · go_enter Try.func3, Try.ntmps3
      go_wp2_with (go_at_call 9; refine (sanity_any _).mono ?_; rintro e w1 ⟨rfl, b1⟩)
      refine (play_any b (by omega) (by omega) A n c os hn (by omega) hok _ _ b1.size (hr.below b1)).mono ?_
      rintro e w2 ⟨bx, rfl, bm, hI2, _, _, b2⟩
      have b2' := b1.trans (b2.mono b1.size)
      go_wp2_with fail
      refine (play_bad a A n c _ hv2).mono ?_
      rintro e w3 ⟨rfl, b3⟩
      have b3' := b2'.trans (b3.mono b2'.size)
      go_wp2_with fail
      go_ret
      exact ⟨rfl, b3'⟩
    · obtain ⟨L1, L2, HL1, HL2, hp, hI1, hI2⟩ : ∃ L1 L2, Hid (playL b os = L1) ∧ Hid (playL a os = L2) ∧ L1 <+: L2 ∧ (L1.length : Int) ≤ b ∧ (L2.length : Int) ≤ a :=
        ⟨_, _, rfl, rfl, play_prefix (by omega) (by omega) hok, (Inv.play (by omega) hok).len, (Inv.play (by omega) hok).len⟩
      have hl := hp.length_le
      go_enter Try.func3, Try.ntmps3
      have HN := Lib.hid hn
      have HOK := Lib.hid hok
      clear hn hok
      go_wp2_with (go_at_call 9; refine (sanity_any _).mono ?_; rintro e w1 ⟨rfl, b1⟩)
      refine (play_any b (by omega) (by omega) A n c os HN.out (by omega) HOK.out _ _ b1.size (hr.below b1)).mono ?_
      rintro e w2 ⟨bx, rfl, bm, hx2, _, _, b2⟩
      have b2' := b1.trans (b2.mono b1.size)
      have hlx := hx2.lt
      go_wp2_with fail
      refine (play_any a (by omega) (by omega) A n c os HN.out (by omega) HOK.out _ _ b2'.size (hr.below b2')).mono ?_
      rintro e w3 ⟨by_, rfl, bn, hy3, _, _, b3⟩
      have hx3 := hx2.below b3 hlx.1 hlx.2
      have b3' := b2'.trans (b3.mono b2'.size)
      clear hx2 b3 b2 b2' b1
      rw [HL1.out] at hx3
      rw [HL2.out] at hy3
      clear HL1 HL2
      obtain ⟨l1, e1⟩ : ∃ l1, L1.length = l1 := ⟨_, rfl⟩
      obtain ⟨l2, e2⟩ : ∃ l2, L2.length = l2 := ⟨_, rfl⟩
      have hp2 := prefix_take hp
      rw [e1] at hI1 hl hp2
      rw [e2] at hI2 hl
      have H1 := Lib.hid e1
      have H2 := Lib.hid e2
      have HP := Lib.hid hp
      have HP2 := Lib.hid hp2
      clear e1 e2 hp hp2
      have hlx := hx3.lt
      have hly := hy3.lt
      have hA1 := all_holds bx bm _ L1 (by rw [H1.out]; omega) _ hx3
      rw [H1.out] at hA1
      go_wp2_with fail
      refine hA1.mono ?_
      rintro e w4 ⟨A4, c4, rfl, own4, b4⟩
      have hx4 := hx3.below b4 hlx.1 hlx.2
      have hy4 := hy3.below b4 hly.1 hly.2
      have b4' := b3'.trans (b4.mono b3'.size)
      have rd4 := Rd.of_own own4
      clear hx3 hy3 b4 b3' hA1 own4
      have hlx := hx4.lt
      have hly := hy4.lt
      have hA2 := all_holds by_ bn _ L2 (by rw [H2.out]; omega) _ hy4
      rw [H2.out] at hA2
      go_wp2_with fail
      refine hA2.mono ?_
      rintro e w5 ⟨A5, c5, rfl, own5, b5⟩
      have hx5 := hx4.below b5 hlx.1 hlx.2
      have hy5 := hy4.below b5 hly.1 hly.2
      have b5' := b4'.trans (b5.mono b4'.size)
      have rd5 := Rd.of_own own5
      have hcap5 := (own_cap own5).1
      have rd4' := rd4.below b5
      clear hx4 hy4 b5 b4' hA2 own5 rd4
      have hlt : decide (l2 < l1) = false := by simp; omega
      have hsl := fun w => run_cutTo' (P := Try.prog) w entryT A5 l2 c5 l1 .i64 (by omega)
      have hl0 : (0 : Int) ≤ l1 := by omega
      have hl1c : (l1 : Int) ≤ c5 := by omega
      obtain ⟨A6, hA6⟩ : ∃ A6, (if c5 = 0 then A5 else A5.map (·.add 0)) = A6 := ⟨_, rfl⟩
      have hAA : A6 = A5 := by
        rw [← hA6]
        split
        · rfl
        · cases A5 with
          | none => rfl
          | some x => obtain ⟨bb, oo, tt⟩ := x; cases tt <;> simp [Addr.add]
      rw [hA6, hAA] at hsl
      clear hA6 hAA
      have HS1 := Lib.hid (refSame_len A4 A5 c4 c5 l1 l1 L1 (L2.take l1) w5 H1.out (by rw [HP2.out]; exact H1.out) (by unfold maxLen; omega) _ _ rd4' (evs_prefix rd5 (by omega)) true (by rw [HP2.out]; simp))
      clear rd4' rd5
      go_wp2_with (go_at_call 12; refine HS1.out.mono ?_; rintro e w6 ⟨rfl, n6, hw6⟩; have HW6 := Lib.hid hw6; clear hw6)
      have hx6 : HoldsIx w6 bx bm b L1 := hx5.below (B := w5.heap.size) (by rw [HW6.out]; exact below_of_drewN _ _ _) hx5.lt.1 hx5.lt.2
      have hy6 : HoldsIx w6 by_ bn a L2 := hy5.below (B := w5.heap.size) (by rw [HW6.out]; exact below_of_drewN _ _ _) hy5.lt.1 hy5.lt.2
      have b6 : Below w.heap.size w w6 := by rw [HW6.out]; exact below_drewN b5' _
      clear hx5 hy5 HW6 HS1 hsl b5' hl0 hl1c hlt hlx hly
      go_loopw [14] (fun u wr => ∃ k : Nat, k ≤ n ∧ u = .int .i64 k ∧ HoldsIx wr bx bm b L1 ∧ HoldsIx wr by_ bn a L2 ∧ Below w.heap.size w wr) (fun u _ => n - (intOf u).toNat)
      case atStart => exact ⟨0, by omega, rfl, hx6, hy6, b6⟩
      case round =>
        clear hx6 hy6 b6
        obtain ⟨k, hk, rfl, hx, hy, hbel⟩ := hrel
        by_cases hlt : k < n
        · obtain ⟨bb, off, rfl, hb, _, hc1, _⟩ := ov_cells (hr.below hbel) (k := k) (by rw [HN.out]; exact hlt) hlt
          obtain ⟨o, ho⟩ : ∃ o, os[k]'(by rw [HN.out]; exact hlt) = o := ⟨_, rfl⟩
          rw [ho] at hc1
          clear ho
          obtain ⟨d, p, ch⟩ := o
          simp only at hc1
          have hk0 : (0 : Int) ≤ k := by omega
          have hk1 : (k : Int) < n := by omega
          have hpf : findL p L1 <+: findL p L2 := (HP.out.filter _).map _
          have hf1 := findL_le p L1
          have hf2 := findL_le p L2
          rw [H1.out] at hf1
          rw [H2.out] at hf2
          have hfl := hpf.length_le
          have hF1 := find_holds p bx bm _ L1 (by rw [H1.out]; omega) _ hx
          generalize findL p L1 = F1 at *
          have hlx := hx.lt
          have hly := hy.lt
          obtain ⟨f1, e1⟩ : ∃ f1, F1.length = f1 := ⟨_, rfl⟩
          rw [e1] at hF1 hf1 hfl
          go_wp2_with fail
          refine hF1.mono ?_
          rintro e w7 ⟨A7, c7, rfl, own7, b7⟩
          have hx7 := hx.below b7 hlx.1 hlx.2
          have hy7 := hy.below b7 hly.1 hly.2
          have b7' := hbel.trans (b7.mono hbel.size)
          have rd7 := Rd.of_own own7
          have hlx := hx7.lt
          have hly := hy7.lt
          have hc7 : w7.cell? ⟨bb, off + k * 3 + 1, none⟩ = some (.int .u32 p) := (b7.cell (p := ⟨bb, off + k * 3 + 1, none⟩) (Nat.lt_of_lt_of_le hb hbel.size)).trans hc1
          clear hx hy b7 hbel own7 hc1 hF1
          have hF2 := find_holds p by_ bn _ L2 (by rw [H2.out]; omega) _ hy7
          generalize findL p L2 = F2 at *
          obtain ⟨f2, e2⟩ : ∃ f2, F2.length = f2 := ⟨_, rfl⟩
          rw [e2] at hF2 hf2 hfl
          have hpt := prefix_take hpf
          rw [e1] at hpt
          have HF1 := Lib.hid e1
          have HF2 := Lib.hid e2
          have HPT := Lib.hid hpt
          clear e1 e2 hpt hpf
          go_wp2_with fail
          refine hF2.mono ?_
          rintro e w8 ⟨A8, c8, rfl, own8, b8⟩
          have hx8 := hx7.below b8 hlx.1 hlx.2
          have hy8 := hy7.below b8 hly.1 hly.2
          have b8' := b7'.trans (b8.mono b7'.size)
          have rd8 := Rd.of_own own8
          have hcap8 := (own_cap own8).1
          have rd7' := rd7.below b8
          clear hx7 hy7 b8 b7' own8 rd7 hc7 hF2
          have hltf : ¬ (f2 : Int) < f1 := by omega
          have hsl := fun w => run_cutTo' (P := Try.prog) w intT A8 f2 c8 f1 .i64 (by omega)
          have hl0 : (0 : Int) ≤ f1 := by omega
          have hl1c : (f1 : Int) ≤ c8 := by omega
          obtain ⟨A9, hA9⟩ : ∃ A9, (if c8 = 0 then A8 else A8.map (·.add 0)) = A9 := ⟨_, rfl⟩
          have hAA : A9 = A8 := by
            rw [← hA9]
            split
            · rfl
            · cases A8 with
              | none => rfl
              | some x => obtain ⟨bb, oo, tt⟩ := x; cases tt <;> simp [Addr.add]
          rw [hA9, hAA] at hsl
          clear hA9 hAA
          have HS1 := Lib.hid (sameInts_len A7 A8 c7 c8 f1 f1 F1 (F2.take f1) w8 HF1.out (by rw [HPT.out]; exact HF1.out) (by unfold maxLen; omega) _ _ rd7' (ivs_prefix rd8 (by omega)) true (by rw [HPT.out]; simp))
          clear rd7' rd8
          go_wp2_with (go_at_call 14; refine HS1.out.mono ?_; rintro e w9 ⟨rfl, n9, hw9⟩; have HW9 := Lib.hid hw9; clear hw9)
          have hx9 : HoldsIx w9 bx bm b L1 := hx8.below (B := w8.heap.size) (by rw [HW9.out]; exact below_of_drewN _ _ _) hx8.lt.1 hx8.lt.2
          have hy9 : HoldsIx w9 by_ bn a L2 := hy8.below (B := w8.heap.size) (by rw [HW9.out]; exact below_of_drewN _ _ _) hy8.lt.1 hy8.lt.2
          have b9 : Below w.heap.size w w9 := by rw [HW9.out]; exact below_drewN b8' _
          clear HW9 HS1 hsl
          go_roundw
          case rel => exact ⟨k + 1, by omega, by go_num, hx9, hy9, b9⟩
          case measure => simp [intOf]; omega
        · have hk1 : ¬ (k : Int) < n := by omega
          go_wp2
          go_ret
          exact ⟨rfl, hbel⟩
set_option maxHeartbeats 3200000 in
theorem lawInc3 (a : Int) (A : Option Addr) (n c : Nat) (os : List IOp) (hn : os.length = n) (hnc : n ≤ c) (hc : c ≤ 140737488355328) (hok : OpsOk os) (w : World) (hr : Rd w w.heap.size 3 A n (ovs os)) :
    Calls Try.prog 3 #[.int .i64 a, .int .i64 a, .slice A n c] w fun e w' => e = .returned (.bool true) ∧ Below w.heap.size w w' := by
  by_cases hv1 : (a < 1 ∨ 4096 < a) ∨ 80 < n
  · by_cases hv2 : (a < 1 ∨ 4096 < a) ∨ 80 < n
    · go_enter Try.func3, Try.ntmps3
      go_wp2_with (go_at_call 9; refine (sanity_any _).mono ?_; rintro e w1 ⟨rfl, b1⟩)
      refine (play_bad a A n c _ hv1).mono ?_
      rintro e w2 ⟨rfl, b2⟩
      have b2' := b1.trans (b2.mono b1.size)
      go_wp2_with fail
      refine (play_bad a A n c _ hv2).mono ?_
      rintro e w3 ⟨rfl, b3⟩
      have b3' := b2'.trans (b3.mono b2'.size)
      go_wp2_with fail
      go_ret
      exact ⟨rfl, b3'⟩
    · go_enter Try.func3, Try.ntmps3
      go_wp2_with (go_at_call 9; refine (sanity_any _).mono ?_; rintro e w1 ⟨rfl, b1⟩)
      refine (play_bad a A n c _ hv1).mono ?_
      rintro e w2 ⟨rfl, b2⟩
      have b2' := b1.trans (b2.mono b1.size)
      go_wp2_with fail
      refine (play_any a (by omega) (by omega) A n c os hn (by omega) hok _ _ (b2'.size) (hr.below b2')).mono ?_
      rintro e w3 ⟨by_, rfl, bn, hI3, _, _, b3⟩
      have b3' := b2'.trans (b3.mono b2'.size)
      go_wp2_with fail
      go_ret
      exact ⟨rfl, b3'⟩
  · by_cases hv2 : (a < 1 ∨ 4096 < a) ∨ 80 < n
    · go_enter Try.func3, Try.ntmps3
      go_wp2_with (go_at_call 9; refine (sanity_any _).mono ?_; rintro e w1 ⟨rfl, b1⟩)
      refine (play_any a (by omega) (by omega) A n c os hn (by omega) hok _ _ b1.size (hr.below b1)).mono ?_
      rintro e w2 ⟨bx, rfl, bm, hI2, _, _, b2⟩
      have b2' := b1.trans (b2.mono b1.size)
      go_wp2_with fail
      refine (play_bad a A n c _ hv2).mono ?_
      rintro e w3 ⟨rfl, b3⟩
      have b3' := b2'.trans (b3.mono b2'.size)
      go_wp2_with fail
      go_ret
      exact ⟨rfl, b3'⟩
    · obtain ⟨L1, L2, HL1, HL2, hp, hI1, hI2⟩ : ∃ L1 L2, Hid (playL a os = L1) ∧ Hid (playL a os = L2) ∧ L1 <+: L2 ∧ (L1.length : Int) ≤ a ∧ (L2.length : Int) ≤ a :=
        ⟨_, _, rfl, rfl, play_prefix (by omega) (by omega) hok, (Inv.play (by omega) hok).len, (Inv.play (by omega) hok).len⟩
      have hl := hp.length_le
      go_enter Try.func3, Try.ntmps3
      have HN := Lib.hid hn
      have HOK := Lib.hid hok
      clear hn hok
      go_wp2_with (go_at_call 9; refine (sanity_any _).mono ?_; rintro e w1 ⟨rfl, b1⟩)
      refine (play_any a (by omega) (by omega) A n c os HN.out (by omega) HOK.out _ _ b1.size (hr.below b1)).mono ?_
      rintro e w2 ⟨bx, rfl, bm, hx2, _, _, b2⟩
      have b2' := b1.trans (b2.mono b1.size)
      have hlx := hx2.lt
      go_wp2_with fail
      refine (play_any a (by omega) (by omega) A n c os HN.out (by omega) HOK.out _ _ b2'.size (hr.below b2')).mono ?_
      rintro e w3 ⟨by_, rfl, bn, hy3, _, _, b3⟩
      have hx3 := hx2.below b3 hlx.1 hlx.2
      have b3' := b2'.trans (b3.mono b2'.size)
      clear hx2 b3 b2 b2' b1
      rw [HL1.out] at hx3
      rw [HL2.out] at hy3
      clear HL1 HL2
      obtain ⟨l1, e1⟩ : ∃ l1, L1.length = l1 := ⟨_, rfl⟩
      obtain ⟨l2, e2⟩ : ∃ l2, L2.length = l2 := ⟨_, rfl⟩
      have hp2 := prefix_take hp
      rw [e1] at hI1 hl hp2
      rw [e2] at hI2 hl
      have H1 := Lib.hid e1
      have H2 := Lib.hid e2
      have HP := Lib.hid hp
      have HP2 := Lib.hid hp2
      clear e1 e2 hp hp2
      have hlx := hx3.lt
      have hly := hy3.lt
      have hA1 := all_holds bx bm _ L1 (by rw [H1.out]; omega) _ hx3
      rw [H1.out] at hA1
      go_wp2_with fail
      refine hA1.mono ?_
      rintro e w4 ⟨A4, c4, rfl, own4, b4⟩
      have hx4 := hx3.below b4 hlx.1 hlx.2
      have hy4 := hy3.below b4 hly.1 hly.2
      have b4' := b3'.trans (b4.mono b3'.size)
      have rd4 := Rd.of_own own4
      clear hx3 hy3 b4 b3' hA1 own4
      have hlx := hx4.lt
      have hly := hy4.lt
      have hA2 := all_holds by_ bn _ L2 (by rw [H2.out]; omega) _ hy4
      rw [H2.out] at hA2
      go_wp2_with fail
      refine hA2.mono ?_
      rintro e w5 ⟨A5, c5, rfl, own5, b5⟩
      have hx5 := hx4.below b5 hlx.1 hlx.2
      have hy5 := hy4.below b5 hly.1 hly.2
      have b5' := b4'.trans (b5.mono b4'.size)
      have rd5 := Rd.of_own own5
      have hcap5 := (own_cap own5).1
      have rd4' := rd4.below b5
      clear hx4 hy4 b5 b4' hA2 own5 rd4
      have hlt : decide (l2 < l1) = false := by simp; omega
      have hsl := fun w => run_cutTo' (P := Try.prog) w entryT A5 l2 c5 l1 .i64 (by omega)
      have hl0 : (0 : Int) ≤ l1 := by omega
      have hl1c : (l1 : Int) ≤ c5 := by omega
      obtain ⟨A6, hA6⟩ : ∃ A6, (if c5 = 0 then A5 else A5.map (·.add 0)) = A6 := ⟨_, rfl⟩
      have hAA : A6 = A5 := by
        rw [← hA6]
        split
        · rfl
        · cases A5 with
          | none => rfl
          | some x => obtain ⟨bb, oo, tt⟩ := x; cases tt <;> simp [Addr.add]
      rw [hA6, hAA] at hsl
      clear hA6 hAA
      have HS1 := Lib.hid (refSame_len A4 A5 c4 c5 l1 l1 L1 (L2.take l1) w5 H1.out (by rw [HP2.out]; exact H1.out) (by unfold maxLen; omega) _ _ rd4' (evs_prefix rd5 (by omega)) true (by rw [HP2.out]; simp))
      clear rd4' rd5
      go_wp2_with (go_at_call 12; refine HS1.out.mono ?_; rintro e w6 ⟨rfl, n6, hw6⟩; have HW6 := Lib.hid hw6; clear hw6)
      have hx6 : HoldsIx w6 bx bm a L1 := hx5.below (B := w5.heap.size) (by rw [HW6.out]; exact below_of_drewN _ _ _) hx5.lt.1 hx5.lt.2
      have hy6 : HoldsIx w6 by_ bn a L2 := hy5.below (B := w5.heap.size) (by rw [HW6.out]; exact below_of_drewN _ _ _) hy5.lt.1 hy5.lt.2
      have b6 : Below w.heap.size w w6 := by rw [HW6.out]; exact below_drewN b5' _
      clear hx5 hy5 HW6 HS1 hsl b5' hl0 hl1c hlt hlx hly
      go_loopw [14] (fun u wr => ∃ k : Nat, k ≤ n ∧ u = .int .i64 k ∧ HoldsIx wr bx bm a L1 ∧ HoldsIx wr by_ bn a L2 ∧ Below w.heap.size w wr) (fun u _ => n - (intOf u).toNat)
      case atStart => exact ⟨0, by omega, rfl, hx6, hy6, b6⟩
      case round =>
        clear hx6 hy6 b6
        obtain ⟨k, hk, rfl, hx, hy, hbel⟩ := hrel
        by_cases hlt : k < n
        · obtain ⟨bb, off, rfl, hb, _, hc1, _⟩ := ov_cells (hr.below hbel) (k := k) (by rw [HN.out]; exact hlt) hlt
          obtain ⟨o, ho⟩ : ∃ o, os[k]'(by rw [HN.out]; exact hlt) = o := ⟨_, rfl⟩
          rw [ho] at hc1
          clear ho
          obtain ⟨d, p, ch⟩ := o
          simp only at hc1
          have hk0 : (0 : Int) ≤ k := by omega
          have hk1 : (k : Int) < n := by omega
          have hpf : findL p L1 <+: findL p L2 := (HP.out.filter _).map _
          have hf1 := findL_le p L1
          have hf2 := findL_le p L2
          rw [H1.out] at hf1
          rw [H2.out] at hf2
          have hfl := hpf.length_le
          have hF1 := find_holds p bx bm _ L1 (by rw [H1.out]; omega) _ hx
          generalize findL p L1 = F1 at *
          have hlx := hx.lt
          have hly := hy.lt
          obtain ⟨f1, e1⟩ : ∃ f1, F1.length = f1 := ⟨_, rfl⟩
          rw [e1] at hF1 hf1 hfl
          go_wp2_with fail
          refine hF1.mono ?_
          rintro e w7 ⟨A7, c7, rfl, own7, b7⟩
          have hx7 := hx.below b7 hlx.1 hlx.2
          have hy7 := hy.below b7 hly.1 hly.2
          have b7' := hbel.trans (b7.mono hbel.size)
          have rd7 := Rd.of_own own7
          have hlx := hx7.lt
          have hly := hy7.lt
          have hc7 : w7.cell? ⟨bb, off + k * 3 + 1, none⟩ = some (.int .u32 p) := (b7.cell (p := ⟨bb, off + k * 3 + 1, none⟩) (Nat.lt_of_lt_of_le hb hbel.size)).trans hc1
          clear hx hy b7 hbel own7 hc1 hF1
          have hF2 := find_holds p by_ bn _ L2 (by rw [H2.out]; omega) _ hy7
          generalize findL p L2 = F2 at *
          obtain ⟨f2, e2⟩ : ∃ f2, F2.length = f2 := ⟨_, rfl⟩
          rw [e2] at hF2 hf2 hfl
          have hpt := prefix_take hpf
          rw [e1] at hpt
          have HF1 := Lib.hid e1
          have HF2 := Lib.hid e2
          have HPT := Lib.hid hpt
          clear e1 e2 hpt hpf
          go_wp2_with fail
          refine hF2.mono ?_
          rintro e w8 ⟨A8, c8, rfl, own8, b8⟩
          have hx8 := hx7.below b8 hlx.1 hlx.2
          have hy8 := hy7.below b8 hly.1 hly.2
          have b8' := b7'.trans (b8.mono b7'.size)
          have rd8 := Rd.of_own own8
          have hcap8 := (own_cap own8).1
          have rd7' := rd7.below b8
          clear hx7 hy7 b8 b7' own8 rd7 hc7 hF2
          have hltf : ¬ (f2 : Int) < f1 := by omega
          have hsl := fun w => run_cutTo' (P := Try.prog) w intT A8 f2 c8 f1 .i64 (by omega)
          have hl0 : (0 : Int) ≤ f1 := by omega
          have hl1c : (f1 : Int) ≤ c8 := by omega
          obtain ⟨A9, hA9⟩ : ∃ A9, (if c8 = 0 then A8 else A8.map (·.add 0)) = A9 := ⟨_, rfl⟩
          have hAA : A9 = A8 := by
            rw [← hA9]
            split
            · rfl
            · cases A8 with
              | none => rfl
              | some x => obtain ⟨bb, oo, tt⟩ := x; cases tt <;> simp [Addr.add]
          rw [hA9, hAA] at hsl
          clear hA9 hAA
          have HS1 := Lib.hid (sameInts_len A7 A8 c7 c8 f1 f1 F1 (F2.take f1) w8 HF1.out (by rw [HPT.out]; exact HF1.out) (by unfold maxLen; omega) _ _ rd7' (ivs_prefix rd8 (by omega)) true (by rw [HPT.out]; simp))
          clear rd7' rd8
          go_wp2_with (go_at_call 14; refine HS1.out.mono ?_; rintro e w9 ⟨rfl, n9, hw9⟩; have HW9 := Lib.hid hw9; clear hw9)
          have hx9 : HoldsIx w9 bx bm a L1 := hx8.below (B := w8.heap.size) (by rw [HW9.out]; exact below_of_drewN _ _ _) hx8.lt.1 hx8.lt.2
          have hy9 : HoldsIx w9 by_ bn a L2 := hy8.below (B := w8.heap.size) (by rw [HW9.out]; exact below_of_drewN _ _ _) hy8.lt.1 hy8.lt.2
          have b9 : Below w.heap.size w w9 := by rw [HW9.out]; exact below_drewN b8' _
          clear HW9 HS1 hsl
          go_roundw
          case rel => exact ⟨k + 1, by omega, by go_num, hx9, hy9, b9⟩
          case measure => simp [intOf]; omega
        · have hk1 : ¬ (k : Int) < n := by omega
          go_wp2
          go_ret
          exact ⟨rfl, hbel⟩
theorem lawIncludes (a b : Int) (A : Option Addr) (n c : Nat) (os : List IOp) (hn : os.length = n) (hnc : n ≤ c) (hc : c ≤ 140737488355328) (hok : OpsOk os) (w : World) (hr : Rd w w.heap.size 3 A n (ovs os)) :
    Calls Try.prog 3 #[.int .i64 a, .int .i64 b, .slice A n c] w fun e w' => e = .returned (.bool true) ∧ Below w.heap.size w w' := by
  rcases Int.lt_trichotomy a b with h | h | h
  · exact lawInc1 a b h A n c os hn hnc hc hok w hr
  · subst h; exact lawInc3 a A n c os hn hnc hc hok w hr
  · exact lawInc2 a b h A n c os hn hnc hc hok w hr
end Go.Proofs.Ytnehbcopbioenaa
