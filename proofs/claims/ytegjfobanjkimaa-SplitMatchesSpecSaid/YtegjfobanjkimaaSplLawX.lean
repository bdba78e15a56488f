/- The law SplitMatchesSpec: it returns true. Conditions: none beyond what each argument's type says. -/
import Derived.Test.YtegjfobanjkimaaSpl6
namespace Go.Proofs.Ytegjfobanjkimaa
set_option linter.unusedVariables false
set_option linter.unusedSimpArgs false
open Go.RowKit
set_option maxRecDepth 100000 in
set_option maxHeartbeats 4000000 in
theorem lawMatch (T : Int) (l_T : -9223372036854775808 ≤ T) (u_T : T ≤ 9223372036854775807) (m : Int) (l_m : -9223372036854775808 ≤ m) (u_m : m ≤ 9223372036854775807) (A : Option Addr) (n c : Nat) (ws : List Int) (hl : ws.length = n) (nc : n ≤ c) (cc : c ≤ 140737488355328) (xr : ∀ x ∈ ws, -9223372036854775808 ≤ x ∧ x ≤ 9223372036854775807) (w : World) (rd : Rd w w.heap.size 1 A n (ivs ws)) :
    Calls Try.prog 3 #[.int .i64 T, .int .i64 m, .slice A n c] w fun e w' => e = .returned (.bool true) ∧ Below w.heap.size w w' := by
  clear xr
  by_cases hm : m ≤ 300
  case neg =>
    have hm1 : (300 : Int) < m := by omega
    clear rd hl
    go_enter Try.func3, Try.ntmps3
    go_wp2_with (go_at_call 8; refine (sanity_any _).mono ?_; rintro e ws_ ⟨rfl, bs_⟩)
    go_ret
    exact ⟨rfl, bs_⟩
  case pos =>
  by_cases h3 : n ≤ 300
  case neg =>
    have h31 : (300 : Int) < (n : Int) := by omega
    clear rd hl
    go_enter Try.func3, Try.ntmps3
    go_wp2_with (go_at_call 8; refine (sanity_any _).mono ?_; rintro e ws_ ⟨rfl, bs_⟩)
    go_ret
    exact ⟨rfl, bs_⟩
  case pos =>
  have h31 : (n : Int) ≤ 300 := by omega
  by_cases hev : 0 ≤ T ∧ T ≤ 2147483647 ∧ 1 ≤ m
  · by_cases hv : 0 ≤ T ∧ T ≤ 2147483647 ∧ OkTo ws n ∧ Spl.sumTo (wOf ws) n ≠ 0
    · obtain ⟨mn, rfl⟩ : ∃ mn : Nat, m = mn := ⟨m.toNat, by omega⟩
      have hmn : mn ≤ 300 := by omega
      have HE := Lib.hid (fun W => even_ok T mn (by omega) (by omega) hev.1 hev.2.1 W)
      have HE2 := Lib.hid (fun W => refEven_ok T mn (by omega) (by omega) hev.1 hev.2.1 W)
      have HW := Lib.hid (fun (W : World) (hW : Below w.heap.size w W) => weighted_ok T A n c ws hl (by omega) w.heap.size W (rd.below hW) hW.size hv.1 hv.2.1 hv.2.2.1 hv.2.2.2)
      have HW2 := Lib.hid (fun (W : World) (hW : Below w.heap.size w W) p k O hk hkn => refWeighted_ok T A n c ws hl (by omega) w.heap.size W (rd.below hW) hW.size hv p k O hk hkn)
      clear rd hl hv hev
      go_enter Try.func3, Try.ntmps3
      go_wp2_with fail
      refine (HE.out _).mono ?_
      rintro e w1 ⟨g1, rfl, F1, _, b1⟩
      have r1 := F1.rdL
      clear F1
      go_wp2_with fail
      refine (HE2.out _).mono ?_
      rintro e w2 ⟨P2, c2, rfl, r2, b2⟩
      have r1 := r1.below b2
      have z12 := b2.size
      have hb2 := b1.trans (b2.mono b1.size)
      go_wp2_with fail
      refine (HW.out w2 hb2).mono ?_
      rintro e w3 ⟨g3, c3, p, k, rfl, _, F3, O, hk, hkn, _, b3⟩
      have r3 := (show FRow w3 g3 n (shOf T ws n p k) from F3).rdL
      clear F3
      have z23 := b3.size
      have hb3 := hb2.trans (b3.mono hb2.size)
      have r1 := r1.below (b3.mono (by omega))
      have r2 := r2.below b3
      clear b1 b2 b3 hb2
      go_wp2_with fail
      refine (HW2.out w3 hb3 p k O hk hkn).mono ?_
      rintro e w4 ⟨P4, c4, rfl, r4, b4⟩
      have r3 := r3.below b4
      clear O hk hkn
      have z34 := b4.size
      have hb4 := hb3.trans (b4.mono hb3.size)
      have r1 := r1.below (b4.mono (by omega))
      have r2 := r2.below (b4.mono (by omega))
      clear b4 hb3
      go_wp2_with fail
      refine (sanity_any _).mono ?_
      rintro e w5 ⟨rfl, b5⟩
      have z45 := b5.size
      have hb5 := hb4.trans (b5.mono hb4.size)
      have r1 := r1.below (b5.mono (by omega))
      have r2 := r2.below (b5.mono (by omega))
      have r3 := r3.below (b5.mono (by omega))
      have r4 := r4.below b5
      have HS1 := Lib.hid (same33_b (some ⟨g1, 0, none⟩) P2 mn c2 mn mn (rowL mn (evenOf T mn)) (rowL mn (evenOf T mn)) w5 (rowL_len _ _) (rowL_len _ _) (by unfold maxLen; omega) _ _ r1 r2 true (decide_eq_true rfl))
      have HS2 := Lib.hid (fun (W : World) (hW : Below w5.heap.size w5 W) => same33_b (some ⟨g3, 0, none⟩) P4 c3 c4 n n (rowL n (shOf T ws n p k)) (rowL n (shOf T ws n p k)) W (rowL_len _ _) (rowL_len _ _) (by unfold maxLen; omega) _ _ (r3.below (hW.mono (by omega))) (r4.below (hW.mono (by omega))) true (decide_eq_true rfl))
      have HB := Lib.hid hb5
      clear hb4 hb5 b5 z12 z23 z34 z45 r1 r2 r3 r4
      go_wp2_with fail
      refine HS1.out.mono ?_
      rintro e w6 ⟨rfl, b6⟩
      go_wp2_with fail
      refine (HS2.out w6 b6).mono ?_
      rintro e w7 ⟨rfl, b7⟩
      go_wp2_with fail
      go_ret
      exact ⟨rfl, HB.out.trans ((b6.trans (b7.mono b6.size)).mono HB.out.size)⟩
    · obtain ⟨mn, rfl⟩ : ∃ mn : Nat, m = mn := ⟨m.toNat, by omega⟩
      have hmn : mn ≤ 300 := by omega
      have HE := Lib.hid (fun W => even_ok T mn (by omega) (by omega) hev.1 hev.2.1 W)
      have HE2 := Lib.hid (fun W => refEven_ok T mn (by omega) (by omega) hev.1 hev.2.1 W)
      have HW := Lib.hid (fun (W : World) (hW : Below w.heap.size w W) => weighted_bad T A n c ws hl (by omega) w.heap.size W (rd.below hW) hW.size (not_val hv))
      have HW2 := Lib.hid (fun (W : World) (hW : Below w.heap.size w W) => refWeighted_bad T A n c ws hl (by omega) w.heap.size W (rd.below hW) (not_val hv))
      clear rd hl hv hev
      go_enter Try.func3, Try.ntmps3
      go_wp2_with fail
      refine (HE.out _).mono ?_
      rintro e w1 ⟨g1, rfl, F1, _, b1⟩
      have r1 := F1.rdL
      clear F1
      go_wp2_with fail
      refine (HE2.out _).mono ?_
      rintro e w2 ⟨P2, c2, rfl, r2, b2⟩
      have r1 := r1.below b2
      have z12 := b2.size
      have hb2 := b1.trans (b2.mono b1.size)
      go_wp2_with fail
      refine (HW.out w2 hb2).mono ?_
      rintro e w3 ⟨rfl, b3⟩
      have z23 := b3.size
      have hb3 := hb2.trans (b3.mono hb2.size)
      have r1 := r1.below (b3.mono (by omega))
      have r2 := r2.below b3
      clear b1 b2 b3 hb2
      go_wp2_with fail
      refine (HW2.out w3 hb3).mono ?_
      rintro e w4 ⟨rfl, b4⟩
      have z34 := b4.size
      have hb4 := hb3.trans (b4.mono hb3.size)
      have r1 := r1.below (b4.mono (by omega))
      have r2 := r2.below (b4.mono (by omega))
      clear b4 hb3
      go_wp2_with fail
      refine (sanity_any _).mono ?_
      rintro e w5 ⟨rfl, b5⟩
      have z45 := b5.size
      have hb5 := hb4.trans (b5.mono hb4.size)
      have r1 := r1.below (b5.mono (by omega))
      have r2 := r2.below (b5.mono (by omega))
      have HS1 := Lib.hid (same33_b (some ⟨g1, 0, none⟩) P2 mn c2 mn mn (rowL mn (evenOf T mn)) (rowL mn (evenOf T mn)) w5 (rowL_len _ _) (rowL_len _ _) (by unfold maxLen; omega) _ _ r1 r2 true (decide_eq_true rfl))
      have HS2 := Lib.hid (fun (W : World) (hW : Below w5.heap.size w5 W) => same33_b none none 0 0 0 0 [] [] W rfl rfl (by unfold maxLen; omega) 0 0 (Rd.nil_ _ _ _ _) (Rd.nil_ _ _ _ _) true (decide_eq_true rfl))
      have HB := Lib.hid hb5
      clear hb4 hb5 b5 z12 z23 z34 z45 r1 r2
      go_wp2_with fail
      refine HS1.out.mono ?_
      rintro e w6 ⟨rfl, b6⟩
      go_wp2_with fail
      refine (HS2.out w6 b6).mono ?_
      rintro e w7 ⟨rfl, b7⟩
      go_wp2_with fail
      go_ret
      exact ⟨rfl, HB.out.trans ((b6.trans (b7.mono b6.size)).mono HB.out.size)⟩
  · by_cases hv : 0 ≤ T ∧ T ≤ 2147483647 ∧ OkTo ws n ∧ Spl.sumTo (wOf ws) n ≠ 0
    · have HE := Lib.hid (fun W => even_bad T m (by omega) (by omega) W)
      have HE2 := Lib.hid (fun W => refEven_bad T m (by omega) (by omega) W)
      have HW := Lib.hid (fun (W : World) (hW : Below w.heap.size w W) => weighted_ok T A n c ws hl (by omega) w.heap.size W (rd.below hW) hW.size hv.1 hv.2.1 hv.2.2.1 hv.2.2.2)
      have HW2 := Lib.hid (fun (W : World) (hW : Below w.heap.size w W) p k O hk hkn => refWeighted_ok T A n c ws hl (by omega) w.heap.size W (rd.below hW) hW.size hv p k O hk hkn)
      clear rd hl hv hev
      go_enter Try.func3, Try.ntmps3
      go_wp2_with fail
      refine (HE.out _).mono ?_
      rintro e w1 ⟨rfl, b1⟩
      go_wp2_with fail
      refine (HE2.out _).mono ?_
      rintro e w2 ⟨rfl, b2⟩
      have z12 := b2.size
      have hb2 := b1.trans (b2.mono b1.size)
      go_wp2_with fail
      refine (HW.out w2 hb2).mono ?_
      rintro e w3 ⟨g3, c3, p, k, rfl, _, F3, O, hk, hkn, _, b3⟩
      have r3 := (show FRow w3 g3 n (shOf T ws n p k) from F3).rdL
      clear F3
      have z23 := b3.size
      have hb3 := hb2.trans (b3.mono hb2.size)
      clear b1 b2 b3 hb2
      go_wp2_with fail
      refine (HW2.out w3 hb3 p k O hk hkn).mono ?_
      rintro e w4 ⟨P4, c4, rfl, r4, b4⟩
      have r3 := r3.below b4
      clear O hk hkn
      have z34 := b4.size
      have hb4 := hb3.trans (b4.mono hb3.size)
      clear b4 hb3
      go_wp2_with fail
      refine (sanity_any _).mono ?_
      rintro e w5 ⟨rfl, b5⟩
      have z45 := b5.size
      have hb5 := hb4.trans (b5.mono hb4.size)
      have r3 := r3.below (b5.mono (by omega))
      have r4 := r4.below b5
      have HS1 := Lib.hid (same33_b none none 0 0 0 0 [] [] w5 rfl rfl (by unfold maxLen; omega) 0 0 (Rd.nil_ _ _ _ _) (Rd.nil_ _ _ _ _) true (decide_eq_true rfl))
      have HS2 := Lib.hid (fun (W : World) (hW : Below w5.heap.size w5 W) => same33_b (some ⟨g3, 0, none⟩) P4 c3 c4 n n (rowL n (shOf T ws n p k)) (rowL n (shOf T ws n p k)) W (rowL_len _ _) (rowL_len _ _) (by unfold maxLen; omega) _ _ (r3.below (hW.mono (by omega))) (r4.below (hW.mono (by omega))) true (decide_eq_true rfl))
      have HB := Lib.hid hb5
      clear hb4 hb5 b5 z12 z23 z34 z45 r3 r4
      go_wp2_with fail
      refine HS1.out.mono ?_
      rintro e w6 ⟨rfl, b6⟩
      go_wp2_with fail
      refine (HS2.out w6 b6).mono ?_
      rintro e w7 ⟨rfl, b7⟩
      go_wp2_with fail
      go_ret
      exact ⟨rfl, HB.out.trans ((b6.trans (b7.mono b6.size)).mono HB.out.size)⟩
    · have HE := Lib.hid (fun W => even_bad T m (by omega) (by omega) W)
      have HE2 := Lib.hid (fun W => refEven_bad T m (by omega) (by omega) W)
      have HW := Lib.hid (fun (W : World) (hW : Below w.heap.size w W) => weighted_bad T A n c ws hl (by omega) w.heap.size W (rd.below hW) hW.size (not_val hv))
      have HW2 := Lib.hid (fun (W : World) (hW : Below w.heap.size w W) => refWeighted_bad T A n c ws hl (by omega) w.heap.size W (rd.below hW) (not_val hv))
      clear rd hl hv hev
      go_enter Try.func3, Try.ntmps3
      go_wp2_with fail
      refine (HE.out _).mono ?_
      rintro e w1 ⟨rfl, b1⟩
      go_wp2_with fail
      refine (HE2.out _).mono ?_
      rintro e w2 ⟨rfl, b2⟩
      have z12 := b2.size
      have hb2 := b1.trans (b2.mono b1.size)
      go_wp2_with fail
      refine (HW.out w2 hb2).mono ?_
      rintro e w3 ⟨rfl, b3⟩
      have z23 := b3.size
      have hb3 := hb2.trans (b3.mono hb2.size)
      clear b1 b2 b3 hb2
      go_wp2_with fail
      refine (HW2.out w3 hb3).mono ?_
      rintro e w4 ⟨rfl, b4⟩
      have z34 := b4.size
      have hb4 := hb3.trans (b4.mono hb3.size)
      clear b4 hb3
      go_wp2_with fail
      refine (sanity_any _).mono ?_
      rintro e w5 ⟨rfl, b5⟩
      have z45 := b5.size
      have hb5 := hb4.trans (b5.mono hb4.size)
      have HS1 := Lib.hid (same33_b none none 0 0 0 0 [] [] w5 rfl rfl (by unfold maxLen; omega) 0 0 (Rd.nil_ _ _ _ _) (Rd.nil_ _ _ _ _) true (decide_eq_true rfl))
      have HS2 := Lib.hid (fun (W : World) (hW : Below w5.heap.size w5 W) => same33_b none none 0 0 0 0 [] [] W rfl rfl (by unfold maxLen; omega) 0 0 (Rd.nil_ _ _ _ _) (Rd.nil_ _ _ _ _) true (decide_eq_true rfl))
      have HB := Lib.hid hb5
      clear hb4 hb5 b5 z12 z23 z34 z45
      go_wp2_with fail
      refine HS1.out.mono ?_
      rintro e w6 ⟨rfl, b6⟩
      go_wp2_with fail
      refine (HS2.out w6 b6).mono ?_
      rintro e w7 ⟨rfl, b7⟩
      go_wp2_with fail
      go_ret
      exact ⟨rfl, HB.out.trans ((b6.trans (b7.mono b6.size)).mono HB.out.size)⟩
end Go.Proofs.Ytegjfobanjkimaa
