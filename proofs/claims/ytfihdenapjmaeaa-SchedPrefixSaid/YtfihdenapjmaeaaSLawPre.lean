/- The law SchedPrefix: it returns true. Conditions: none beyond what each argument's type says. -/
import Derived.Test.YtfihdenapjmaeaaSch17
import Derived.Test.YtfihdenapjmaeaaSLawKit
namespace Go.Proofs.Ytfihdenapjmaeaa
set_option linter.unusedVariables false
set_option linter.unusedSimpArgs false
open Go.RowKit
set_option maxRecDepth 100000 in
set_option maxHeartbeats 4000000 in
theorem lawPrefix (A0 : Option Addr) (n0 c0 : Nat) (cr : List Int) (hl0 : cr.length = n0) (nc0 : n0 ≤ c0) (cc0 : c0 ≤ 140737488355328) (xr0 : ∀ x ∈ cr, -9223372036854775808 ≤ x ∧ x ≤ 9223372036854775807)
    (A : Option Addr) (n c : Nat) (L : List Sc.Tk) (hL : L.length = n) (nc : n ≤ c) (cc : c ≤ 140737488355328) (xr1 : ∀ t ∈ L, TkOk t) (s : Int) (ls : 0 ≤ s) (us : s ≤ 255) (g : Int) (lg : 0 ≤ g) (ug : g ≤ 255) (w : World) (rd0 : Rd w w.heap.size 1 A0 n0 (ivs cr)) (rd1 : Rd w w.heap.size 5 A n (L.flatMap tcs)) :
    Calls Try.prog 6 #[.slice A0 n0 c0, .slice A n c, .int .u8 s, .int .u8 g] w fun e w' => e = .returned (.bool true) ∧ Below w.heap.size w w' := by
  obtain ⟨sn, rfl⟩ : ∃ sn : Nat, s = sn := ⟨s.toNat, by omega⟩
  obtain ⟨gn, rfl⟩ : ∃ gn : Nat, g = gn := ⟨g.toNat, by omega⟩
  clear xr0 xr1
  by_cases h60 : n ≤ 60
  case neg =>
    have h61 : (60 : Int) < (n : Int) := by omega
    clear rd0 rd1 hl0 hL
    go_enter Try.func6, Try.ntmps6
    go_wp2_with (go_at_call 10; refine (sanity_any _).mono ?_; rintro e w1 ⟨rfl, b1⟩)
    go_ret
    exact ⟨rfl, b1⟩
  case pos =>
  have h61 : (n : Int) ≤ 60 := by omega
  have HV := Lib.hid (refValid_any A0 n0 c0 cr hl0 w.heap.size w rd0)
  cases hv : vldB cr with
  | false =>
    rw [hv] at HV
    clear rd0 rd1 hl0 hL hv
    go_enter Try.func6, Try.ntmps6
    go_wp2_with (first
      | (go_at_call 15; refine HV.out.mono ?_; rintro e w' ⟨rfl, rfl⟩)
      | (go_at_call 10; refine (sanity_any _).mono ?_; rintro e w1 ⟨rfl, b1⟩))
    go_ret
    exact ⟨rfl, b1⟩
  | true =>
    rw [hv] at HV
    have h5 : n0 = 5 := by rw [← hl0]; exact ((vldB_iff cr).1 hv).1
    subst h5
    by_cases hsg : sn ≤ gn
    case neg =>
      have hsg' : (gn : Int) < (sn : Int) := by omega
      clear rd0 rd1 hl0 hL hv hsg
      go_enter Try.func6, Try.ntmps6
      go_wp2_with (first
        | (go_at_call 15; refine HV.out.mono ?_; rintro e w' ⟨rfl, rfl⟩)
        | (go_at_call 10; refine (sanity_any _).mono ?_; rintro e w1 ⟨rfl, b1⟩))
      go_ret
      exact ⟨rfl, b1⟩
    case pos =>
    have hsg' : (sn : Int) ≤ (gn : Int) := by omega
    have HOWN := Lib.hid (fun (W : World) (hW : Below w.heap.size w W) => own_any A n c L hL (by omega) w.heap.size W (rd1.below hW) hW.size)
    have HRUN := Lib.hid (fun (W : World) (hW : Below w.heap.size w W) (A' : Option Addr) (c' base : Nat) (h : W.ownsRow base 58 5 (.slice A' n c') n (L.flatMap tcs)) (b : Nat) (hb : (b : Int) ≤ 9223372036854775807) => Run_ok A0 c0 cr hl0 w.heap.size b hb A' n c' L hL (by omega) W.heap.size W (Rd.of_own h) (Nat.le_refl _) (rd0.below hW) hW.size hv)
    have htk := Sc.run_take L sn gn cr (List.range n) hsg
    clear rd0 rd1 hl0 hL hv
    go_enter Try.func6, Try.ntmps6
    go_wp2_with (go_at_call 15; refine HV.out.mono ?_; rintro e w' ⟨rfl, rfl⟩)
    refine (HOWN.out _ (Below.refl _ _)).mono ?_
    rintro e w1 ⟨A1, c1, rfl, own1, b1⟩
    go_wp2_with fail
    refine (HRUN.out w1 b1 A1 c1 _ own1 sn (by omega)).mono ?_
    rintro e w2 ⟨g2, c2, P1, np1, cp1, rfl, C2, hg2, hn1, rP1, hcp1, b2⟩
    have hb2 := b1.trans (b2.mono b1.size)
    clear C2 hg2 own1
    go_wp2_with fail
    obtain ⟨w3, hw3⟩ : ∃ x, w2.alloc (.cells #[.slice (some ⟨g2, 0, none⟩) 5 c2] 26) = x := ⟨_, rfl⟩
    rw [hw3]
    obtain ⟨_, _, b3, _⟩ := new_st hw3
    clear hw3
    have hb3 := hb2.trans (b3.mono hb2.size)
    refine (HOWN.out _ hb3).mono ?_
    rintro e w4 ⟨A4, c4, rfl, own4, b4⟩
    have hb4 := hb3.trans (b4.mono hb3.size)
    go_wp2_with fail
    refine (HRUN.out w4 hb4 A4 c4 _ own4 gn (by omega)).mono ?_
    rintro e w5 ⟨g5, c5, P2, np2, cp2, rfl, C5, hg5, hn2, rP2, hcp2, b5⟩
    have hb5 := hb4.trans (b5.mono hb4.size)
    have rP1 := rP1.below (b3.trans ((b4.mono b3.size).trans (b5.mono (Nat.le_trans b3.size b4.size))))
    clear C5 hg5 own4
    go_wp2_with fail
    obtain ⟨w6, hw6⟩ : ∃ x, w5.alloc (.cells #[.slice (some ⟨g5, 0, none⟩) 5 c5] 26) = x := ⟨_, rfl⟩
    rw [hw6]
    obtain ⟨_, _, b6, _⟩ := new_st hw6
    clear hw6
    have hb6 := hb5.trans (b6.mono hb5.size)
    have hz25 : w2.heap.size ≤ w5.heap.size := Nat.le_trans b3.size (Nat.le_trans b4.size b5.size)
    have rP1 := rP1.below (b6.mono hz25)
    have rP2 := rP2.below b6
    refine (sanity_any _).mono ?_
    rintro e w7 ⟨rfl, b7⟩
    have hb7 := hb6.trans (b7.mono hb6.size)
    have rP1 := rP1.below (b7.mono (Nat.le_trans hz25 b6.size))
    have rP2 := rP2.below (b7.mono b6.size)
    generalize (Sc.run L sn cr (List.range n)).2 = k1 at *
    generalize (Sc.run L gn cr (List.range n)).2 = k2 at *
    have hmin : np1 = min sn np2 := by rw [← hn1, ← hn2, htk, List.length_take]
    have hle : np1 ≤ np2 := by omega
    have hn1' : np1 ≤ 255 := by omega
    have hle' : (np1 : Int) ≤ (np2 : Int) := by omega
    have hp0 : (0 : Int) ≤ (np1 : Int) := by omega
    have hp2 : (np1 : Int) ≤ (cp2 : Int) := by omega
    have hS := fun (W : World) (hW : Below w7.heap.size w7 W) => same37_b P1 P2 cp1 cp2 np1 np1 (k1.map fun k : Nat => (k : Int)) ((k2.take np1).map fun k : Nat => (k : Int)) W (by simp [hn1]) (by simp [hn2, hle]) (by unfold maxLen; omega) w2.heap.size w5.heap.size ((by rw [← nvs_ivs]; exact rP1 : Rd w7 w2.heap.size 1 P1 np1 (ivs (k1.map fun k : Nat => (k : Int)))).below (hW.mono (Nat.le_trans hz25 (Nat.le_trans b6.size b7.size)))) ((by rw [← nvs_ivs]; have := rP2.take hle; rw [Nat.mul_one] at this; rw [show nvs (k2.take np1) = (nvs k2).take np1 from List.map_take]; exact this : Rd w7 w5.heap.size 1 P2 np1 (ivs ((k2.take np1).map fun k : Nat => (k : Int)))).below (hW.mono (Nat.le_trans b6.size b7.size))) true (decide_eq_true (by rw [htk, ← hn1, htk, List.length_take, List.take_eq_take_iff.2]; rw [hn2]; omega))
    have HS := Lib.hid hS
    have HB7 := Lib.hid hb7
    clear hS htk hn1 hn2 rP1 rP2 hb2 hb3 hb4 hb5 hb6 hb7 b1 b2 b3 b4 b5 b6
    rcases Nat.lt_trichotomy sn np2 with hc | hc | hc
    · obtain rfl : np1 = sn := by omega
      have hc' : (np1 : Int) < (np2 : Int) := by omega
      clear hmin
      go_wp2_with (go_at_call 20; refine (HS.out _ (Below.refl _ _)).mono ?_; rintro e w8 ⟨rfl, b8⟩)
      go_ret
      exact ⟨rfl, HB7.out.trans (b8.mono HB7.out.size)⟩
    · obtain rfl : np1 = sn := by omega
      subst hc
      clear hmin
      go_wp2_with (go_at_call 20; refine (HS.out _ (Below.refl _ _)).mono ?_; rintro e w8 ⟨rfl, b8⟩)
      go_ret
      exact ⟨rfl, HB7.out.trans (b8.mono HB7.out.size)⟩
    · obtain rfl : np1 = np2 := by omega
      have hc' : (np1 : Int) < (sn : Int) := by omega
      clear hmin
      go_wp2_with (go_at_call 20; refine (HS.out _ (Below.refl _ _)).mono ?_; rintro e w8 ⟨rfl, b8⟩)
      go_ret
      exact ⟨rfl, HB7.out.trans (b8.mono HB7.out.size)⟩
end Go.Proofs.Ytfihdenapjmaeaa
