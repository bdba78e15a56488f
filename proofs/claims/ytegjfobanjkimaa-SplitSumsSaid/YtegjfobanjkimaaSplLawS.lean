/- The law SplitSums: it returns true. Conditions: none beyond what each argument's type says. -/
import Derived.Test.YtegjfobanjkimaaSplF
namespace Go.Proofs.Ytegjfobanjkimaa
set_option linter.unusedVariables false
set_option linter.unusedSimpArgs false
open Go.RowKit
theorem sum_list (f : Nat → Int) (n : Nat) : ((List.range n).map f).sum = Spl.sumTo f n := by
  induction n with
  | zero => rfl
  | succ n ih => rw [List.range_succ, List.map_append, List.sum_append, ih]; simp [Spl.sumTo]
theorem sum_getD (l : List Int) : l.sum = Spl.sumTo (fun t => l.getD t 0) l.length := by
  have h : l = (List.range l.length).map (fun t => l.getD t 0) := by
    apply List.ext_getElem (by simp)
    intro i h1 h2
    simp [List.getD, h1]
  rw [← sum_list]
  exact congrArg List.sum h
/-- the shares of Weighted add up -/
theorem sh_sum {T : Int} {ws : List Int} {n : Nat} {p : Nat → Nat} {k : Nat} (O : Spl.Ordr (fun t => T * ws.getD t 0 % Spl.sumTo (wOf ws) n) n p) (hk : (k : Int) = T - Spl.sumTo (baseOf T (Spl.sumTo (wOf ws) n) ws) n) (hkn : k ≤ n) : Spl.sumTo (shOf T ws n p k) n = T := by
  have hl : (baseL T (Spl.sumTo (wOf ws) n) ws n).length = n := by simp [baseL]
  have h1 := Spl.bump_sum (p := p) (baseL T (Spl.sumTo (wOf ws) n) ws n) (k := k) fun t ht => by rw [hl]; exact O.lt t (by omega)
  have h2 := sum_getD (Spl.bump p (baseL T (Spl.sumTo (wOf ws) n) ws n) k)
  rw [Spl.bump_len, hl] at h2
  have h3 : (baseL T (Spl.sumTo (wOf ws) n) ws n).sum = Spl.sumTo (baseOf T (Spl.sumTo (wOf ws) n) ws) n := sum_list _ _
  have h4 : Spl.sumTo (shOf T ws n p k) n = Spl.sumTo (fun t => (Spl.bump p (baseL T (Spl.sumTo (wOf ws) n) ws n) k).getD t 0) n := rfl
  rw [h4, ← h2, h1, h3]; omega
/-- the shares of Even add up -/
theorem even_sum (T : Int) (n : Nat) (h0 : 0 < n) (t0 : 0 ≤ T) : Spl.sumTo (evenOf T n) n = T := by
  have hr0 := Int.emod_nonneg T (show (n : Int) ≠ 0 by omega)
  have hr1 := Int.emod_lt_of_pos T (show (0 : Int) < (n : Int) by omega)
  have h : ∀ k, k ≤ n → Spl.sumTo (evenOf T n) k = (k : Int) * (T / (n : Int)) + if (k : Int) < T % (n : Int) then (k : Int) else T % (n : Int) := by
    intro k
    induction k with
    | zero => intro _; simp [Spl.sumTo]; omega
    | succ k ih =>
      intro hk
      show Spl.sumTo (evenOf T n) k + evenOf T n k = _
      rw [ih (by omega), Int.natCast_add, Int.add_mul]
      unfold evenOf
      split <;> split <;> (try split) <;> omega
  rw [h n (Nat.le_refl _), if_neg (by omega)]
  have := Int.mul_ediv_add_emod T (n : Int)
  omega
theorem sum_part {f : Nat → Int} {n : Nat} {b : Int} (h : ∀ t, t < n → 0 ≤ f t ∧ f t ≤ b) (hb : (n : Int) * b ≤ 4611686018427387904) (h0 : 0 ≤ b) : ∀ k, k ≤ n → 0 ≤ Spl.sumTo f k ∧ Spl.sumTo f k ≤ 4611686018427387904 := fun k hk => by
  have h1 := Spl.sum_bound (f := f) (n := k) (b := b) fun t ht => h t (by omega)
  have h2 : (k : Int) * b ≤ (n : Int) * b := Int.mul_le_mul_of_nonneg_right (by omega) h0
  omega
theorem even_range {T : Int} {n t : Nat} (h0 : 0 < n) (t0 : 0 ≤ T) : 0 ≤ evenOf T n t ∧ evenOf T n t ≤ T + 1 := by
  have h1 := Int.ediv_nonneg t0 (show (0 : Int) ≤ (n : Int) by omega)
  have h2 : T / (n : Int) ≤ T := Int.ediv_le_self _ t0
  unfold evenOf; split <;> omega
theorem bound300 {T : Int} {n : Nat} (hn : n ≤ 300) (t0 : 0 ≤ T) (t1 : T ≤ 2147483647) : (n : Int) * (T + 1) ≤ 4611686018427387904 := by
  have h1 : (n : Int) * (T + 1) ≤ 300 * (T + 1) := Int.mul_le_mul_of_nonneg_right (by omega) (by omega)
  omega
set_option maxRecDepth 100000 in
set_option maxHeartbeats 4000000 in
theorem lawSums (T : Int) (l_T : -9223372036854775808 ≤ T) (u_T : T ≤ 9223372036854775807) (m : Int) (l_m : -9223372036854775808 ≤ m) (u_m : m ≤ 9223372036854775807) (A : Option Addr) (n c : Nat) (ws : List Int) (hl : ws.length = n) (nc : n ≤ c) (cc : c ≤ 140737488355328) (xr : ∀ x ∈ ws, -9223372036854775808 ≤ x ∧ x ≤ 9223372036854775807) (w : World) (rd : Rd w w.heap.size 1 A n (ivs ws)) :
    Calls Try.prog 4 #[.int .i64 T, .int .i64 m, .slice A n c] w fun e w' => e = .returned (.bool true) ∧ Below w.heap.size w w' := by
  clear xr
  by_cases hm : m ≤ 300
  case neg =>
    have hm1 : (300 : Int) < m := by omega
    clear rd hl
    go_enter Try.func4, Try.ntmps4
    go_wp2_with (go_at_call 8; refine (sanity_any _).mono ?_; rintro e ws_ ⟨rfl, bs_⟩)
    go_ret
    exact ⟨rfl, bs_⟩
  case pos =>
  by_cases h3 : n ≤ 300
  case neg =>
    have h31 : (300 : Int) < (n : Int) := by omega
    clear rd hl
    go_enter Try.func4, Try.ntmps4
    go_wp2_with (go_at_call 8; refine (sanity_any _).mono ?_; rintro e ws_ ⟨rfl, bs_⟩)
    go_ret
    exact ⟨rfl, bs_⟩
  case pos =>
  have h31 : (n : Int) ≤ 300 := by omega
  by_cases hev : 0 ≤ T ∧ T ≤ 2147483647 ∧ 1 ≤ m
  · by_cases hv : 0 ≤ T ∧ T ≤ 2147483647 ∧ OkTo ws n ∧ Spl.sumTo (wOf ws) n ≠ 0
    · obtain ⟨mn, rfl⟩ : ∃ mn : Nat, m = mn := ⟨m.toNat, by omega⟩
      have HE := Lib.hid (fun W => even_ok T mn (by omega) (by omega) hev.1 hev.2.1 W)
      have HFB0 := sum_part (n := mn) (fun t _ => even_range (T := T) (n := mn) (t := t) (by omega) hev.1) (bound300 (by omega) hev.1 hev.2.1) (by omega)
      have HES := Lib.hid (even_sum T mn (by omega) hev.1)
      have HW := Lib.hid (fun (W : World) (hW : Below w.heap.size w W) => weighted_ok T A n c ws hl (by omega) w.heap.size W (rd.below hW) hW.size hv.1 hv.2.1 hv.2.2.1 hv.2.2.2)
      have HV := Lib.hid hv
      have HL := Lib.hid hl
      clear rd hl hv hev
      have HF1B := Lib.hid HFB0
      clear HFB0
      go_enter Try.func4, Try.ntmps4
      go_wp2_with fail
      refine (HE.out _).mono ?_
      rintro e w1 ⟨g1, rfl, F1, _, b1⟩
      go_wp2_with fail
      refine (HW.out w1 b1).mono ?_
      rintro e w2 ⟨g2, c2, p, k, rfl, hc2, F2, O, hk, hkn, _, b2⟩
      have HB := Lib.hid (b1.trans (b2.mono b1.size))
      have HF1 := Lib.hid (F1.below b2)
      have HF2 := Lib.hid (show FRow w2 g2 n (shOf T ws n p k) from F2)
      have HSS := Lib.hid (sh_sum O hk hkn)
      have HF2B := Lib.hid (sum_part (n := n) (f := shOf T ws n p k) (fun t ht => sh_range HL.out HV.out O hkn ht) (bound300 h3 HV.out.1 HV.out.2.1) (by have := HV.out.1; omega))
      obtain ⟨sh, hsh⟩ : ∃ f, shOf T ws n p k = f := ⟨_, rfl⟩
      rw [hsh] at HF2 HSS HF2B
      have c20 : (n : Int) ≤ (c2 : Int) := by omega
      clear O hk hkn F2 hsh
      obtain ⟨ev, hev⟩ : ∃ f, evenOf T mn = f := ⟨_, rfl⟩
      rw [hev] at HF1 HES HF1B
      clear hev F1
      clear b1 b2
      go_wp2_with fail
      go_loop [11, 12] (fun us ui => ∃ i : Nat, i ≤ mn ∧ us = .int .i64 (Spl.sumTo ev i) ∧ ui = .int .i64 i) (fun _ ui => mn - (intOf ui).toNat)
      case atStart => exact ⟨0, Nat.zero_le _, rfl, rfl⟩
      case round =>
        obtain ⟨i, hi, rfl, rfl⟩ := hrel
        by_cases hlt : i < mn
        · have c1 := HF1.out.cell i hlt
          have i0 : (0 : Int) ≤ (i : Int) := by omega
          have i1 : (i : Int) < (mn : Int) := by omega
          have hsu : Spl.sumTo ev (i + 1) = Spl.sumTo ev i + ev i := rfl
          have hb0 := HF1B.out i (by omega)
          have hb1 := HF1B.out (i + 1) (by omega)
          rw [hsu] at hb1
          have m1 : IntKind.i64.wrap (Spl.sumTo ev i + ev i) = Spl.sumTo ev i + ev i := IntWalk.i64_in _ (by omega)
          have HSU := Lib.hid hsu
          obtain ⟨xv, hx⟩ : ∃ v, ev i = v := ⟨_, rfl⟩
          obtain ⟨sv, hs⟩ : ∃ v, Spl.sumTo ev i = v := ⟨_, rfl⟩
          rw [hx] at c1 m1 HSU
          rw [hs] at m1 HSU ⊢
          clear hsu hb0 hb1 hx hs
          go_wp2_with fail
          go_round
          case rel => exact ⟨i + 1, by omega, by rw [HSU.out], by go_num⟩
          case measure => simp [intOf]; omega
        · obtain rfl : i = mn := by omega
          rw [HES.out]
          go_wp2_with fail
          go_loop [13, 14] (fun us ui => ∃ i : Nat, i ≤ n ∧ us = .int .i64 (Spl.sumTo sh i) ∧ ui = .int .i64 i) (fun _ ui => n - (intOf ui).toNat)
          case atStart => exact ⟨0, Nat.zero_le _, rfl, rfl⟩
          case round =>
            obtain ⟨i, hi, rfl, rfl⟩ := hrel
            by_cases hlt : i < n
            · have c1 := HF2.out.cell i hlt
              have i0 : (0 : Int) ≤ (i : Int) := by omega
              have i1 : (i : Int) < (n : Int) := by omega
              have hsu : Spl.sumTo sh (i + 1) = Spl.sumTo sh i + sh i := rfl
              have hb0 := HF2B.out i (by omega)
              have hb1 := HF2B.out (i + 1) (by omega)
              rw [hsu] at hb1
              have m1 : IntKind.i64.wrap (Spl.sumTo sh i + sh i) = Spl.sumTo sh i + sh i := IntWalk.i64_in _ (by omega)
              have HSU := Lib.hid hsu
              obtain ⟨xv, hx⟩ : ∃ v, sh i = v := ⟨_, rfl⟩
              obtain ⟨sv, hs⟩ : ∃ v, Spl.sumTo sh i = v := ⟨_, rfl⟩
              rw [hx] at c1 m1 HSU
              rw [hs] at m1 HSU ⊢
              clear hsu hb0 hb1 hx hs
              go_wp2_with fail
              go_round
              case rel => exact ⟨i + 1, by omega, by rw [HSU.out], by go_num⟩
              case measure => simp [intOf]; omega
            · obtain rfl : i = n := by omega
              rw [HSS.out]
              go_wp2_with (go_at_call 8; refine (sanity_any _).mono ?_; rintro e ws_ ⟨rfl, bs_⟩)
              go_ret
              exact ⟨rfl, HB.out.trans (bs_.mono HB.out.size)⟩
    · obtain ⟨mn, rfl⟩ : ∃ mn : Nat, m = mn := ⟨m.toNat, by omega⟩
      have HE := Lib.hid (fun W => even_ok T mn (by omega) (by omega) hev.1 hev.2.1 W)
      have HFB0 := sum_part (n := mn) (fun t _ => even_range (T := T) (n := mn) (t := t) (by omega) hev.1) (bound300 (by omega) hev.1 hev.2.1) (by omega)
      have HES := Lib.hid (even_sum T mn (by omega) hev.1)
      have HW := Lib.hid (fun (W : World) (hW : Below w.heap.size w W) => weighted_bad T A n c ws hl (by omega) w.heap.size W (rd.below hW) hW.size (not_val hv))
      clear rd hl hv hev
      have HF1B := Lib.hid HFB0
      clear HFB0
      go_enter Try.func4, Try.ntmps4
      go_wp2_with fail
      refine (HE.out _).mono ?_
      rintro e w1 ⟨g1, rfl, F1, _, b1⟩
      go_wp2_with fail
      refine (HW.out w1 b1).mono ?_
      rintro e w2 ⟨rfl, b2⟩
      have HB := Lib.hid (b1.trans (b2.mono b1.size))
      have HF1 := Lib.hid (F1.below b2)
      obtain ⟨ev, hev⟩ : ∃ f, evenOf T mn = f := ⟨_, rfl⟩
      rw [hev] at HF1 HES HF1B
      clear hev F1
      clear b1 b2
      go_wp2_with fail
      go_loop [11, 12] (fun us ui => ∃ i : Nat, i ≤ mn ∧ us = .int .i64 (Spl.sumTo ev i) ∧ ui = .int .i64 i) (fun _ ui => mn - (intOf ui).toNat)
      case atStart => exact ⟨0, Nat.zero_le _, rfl, rfl⟩
      case round =>
        obtain ⟨i, hi, rfl, rfl⟩ := hrel
        by_cases hlt : i < mn
        · have c1 := HF1.out.cell i hlt
          have i0 : (0 : Int) ≤ (i : Int) := by omega
          have i1 : (i : Int) < (mn : Int) := by omega
          have hsu : Spl.sumTo ev (i + 1) = Spl.sumTo ev i + ev i := rfl
          have hb0 := HF1B.out i (by omega)
          have hb1 := HF1B.out (i + 1) (by omega)
          rw [hsu] at hb1
          have m1 : IntKind.i64.wrap (Spl.sumTo ev i + ev i) = Spl.sumTo ev i + ev i := IntWalk.i64_in _ (by omega)
          have HSU := Lib.hid hsu
          obtain ⟨xv, hx⟩ : ∃ v, ev i = v := ⟨_, rfl⟩
          obtain ⟨sv, hs⟩ : ∃ v, Spl.sumTo ev i = v := ⟨_, rfl⟩
          rw [hx] at c1 m1 HSU
          rw [hs] at m1 HSU ⊢
          clear hsu hb0 hb1 hx hs
          go_wp2_with fail
          go_round
          case rel => exact ⟨i + 1, by omega, by rw [HSU.out], by go_num⟩
          case measure => simp [intOf]; omega
        · obtain rfl : i = mn := by omega
          rw [HES.out]
          go_wp2_with fail
          refine wp_loop_rounds 1 ?_
          rw [rounds_succ]
          go_wp2_with (go_at_call 8; refine (sanity_any _).mono ?_; rintro e ws_ ⟨rfl, bs_⟩)
          go_ret
          exact ⟨rfl, HB.out.trans (bs_.mono HB.out.size)⟩
  · by_cases hv : 0 ≤ T ∧ T ≤ 2147483647 ∧ OkTo ws n ∧ Spl.sumTo (wOf ws) n ≠ 0
    · have HE := Lib.hid (fun W => even_bad T m (by omega) (by omega) W)
      have HW := Lib.hid (fun (W : World) (hW : Below w.heap.size w W) => weighted_ok T A n c ws hl (by omega) w.heap.size W (rd.below hW) hW.size hv.1 hv.2.1 hv.2.2.1 hv.2.2.2)
      have HV := Lib.hid hv
      have HL := Lib.hid hl
      clear rd hl hv hev
      go_enter Try.func4, Try.ntmps4
      go_wp2_with fail
      refine (HE.out _).mono ?_
      rintro e w1 ⟨rfl, b1⟩
      go_wp2_with fail
      refine (HW.out w1 b1).mono ?_
      rintro e w2 ⟨g2, c2, p, k, rfl, hc2, F2, O, hk, hkn, _, b2⟩
      have HB := Lib.hid (b1.trans (b2.mono b1.size))
      have HF2 := Lib.hid (show FRow w2 g2 n (shOf T ws n p k) from F2)
      have HSS := Lib.hid (sh_sum O hk hkn)
      have HF2B := Lib.hid (sum_part (n := n) (f := shOf T ws n p k) (fun t ht => sh_range HL.out HV.out O hkn ht) (bound300 h3 HV.out.1 HV.out.2.1) (by have := HV.out.1; omega))
      obtain ⟨sh, hsh⟩ : ∃ f, shOf T ws n p k = f := ⟨_, rfl⟩
      rw [hsh] at HF2 HSS HF2B
      have c20 : (n : Int) ≤ (c2 : Int) := by omega
      clear O hk hkn F2 hsh
      clear b1 b2
      go_wp2_with fail
      refine wp_loop_rounds 1 ?_
      rw [rounds_succ]
      go_wp2_with fail
      go_loop [13, 14] (fun us ui => ∃ i : Nat, i ≤ n ∧ us = .int .i64 (Spl.sumTo sh i) ∧ ui = .int .i64 i) (fun _ ui => n - (intOf ui).toNat)
      case atStart => exact ⟨0, Nat.zero_le _, rfl, rfl⟩
      case round =>
        obtain ⟨i, hi, rfl, rfl⟩ := hrel
        by_cases hlt : i < n
        · have c1 := HF2.out.cell i hlt
          have i0 : (0 : Int) ≤ (i : Int) := by omega
          have i1 : (i : Int) < (n : Int) := by omega
          have hsu : Spl.sumTo sh (i + 1) = Spl.sumTo sh i + sh i := rfl
          have hb0 := HF2B.out i (by omega)
          have hb1 := HF2B.out (i + 1) (by omega)
          rw [hsu] at hb1
          have m1 : IntKind.i64.wrap (Spl.sumTo sh i + sh i) = Spl.sumTo sh i + sh i := IntWalk.i64_in _ (by omega)
          have HSU := Lib.hid hsu
          obtain ⟨xv, hx⟩ : ∃ v, sh i = v := ⟨_, rfl⟩
          obtain ⟨sv, hs⟩ : ∃ v, Spl.sumTo sh i = v := ⟨_, rfl⟩
          rw [hx] at c1 m1 HSU
          rw [hs] at m1 HSU ⊢
          clear hsu hb0 hb1 hx hs
          go_wp2_with fail
          go_round
          case rel => exact ⟨i + 1, by omega, by rw [HSU.out], by go_num⟩
          case measure => simp [intOf]; omega
        · obtain rfl : i = n := by omega
          rw [HSS.out]
          go_wp2_with (go_at_call 8; refine (sanity_any _).mono ?_; rintro e ws_ ⟨rfl, bs_⟩)
          go_ret
          exact ⟨rfl, HB.out.trans (bs_.mono HB.out.size)⟩
    · have HE := Lib.hid (fun W => even_bad T m (by omega) (by omega) W)
      have HW := Lib.hid (fun (W : World) (hW : Below w.heap.size w W) => weighted_bad T A n c ws hl (by omega) w.heap.size W (rd.below hW) hW.size (not_val hv))
      clear rd hl hv hev
      go_enter Try.func4, Try.ntmps4
      go_wp2_with fail
      refine (HE.out _).mono ?_
      rintro e w1 ⟨rfl, b1⟩
      go_wp2_with fail
      refine (HW.out w1 b1).mono ?_
      rintro e w2 ⟨rfl, b2⟩
      have HB := Lib.hid (b1.trans (b2.mono b1.size))
      clear b1 b2
      go_wp2_with fail
      refine wp_loop_rounds 1 ?_
      rw [rounds_succ]
      go_wp2_with fail
      refine wp_loop_rounds 1 ?_
      rw [rounds_succ]
      go_wp2_with (go_at_call 8; refine (sanity_any _).mono ?_; rintro e ws_ ⟨rfl, bs_⟩)
      go_ret
      exact ⟨rfl, HB.out.trans (bs_.mono HB.out.size)⟩
end Go.Proofs.Ytegjfobanjkimaa
