/- The law SchedUrgent: it returns true. Conditions: none beyond what each argument's type says. -/
import Derived.Test.YtfihdenapjmaeaaSch17
import Derived.Test.YtfihdenapjmaeaaSLawKit
namespace Go.Proofs.Ytfihdenapjmaeaa
set_option linter.unusedVariables false
set_option linter.unusedSimpArgs false
open Go.RowKit
/-- whether the choice ahead of the k-th was urgent, and its units that are not good -/
def urgSt (L : List Sc.Tk) (ks : List Nat) : Nat → Bool × Int
  | 0 => (true, 0)
  | k + 1 => (Sc.urg (Sc.atK L (ks.getD k 0)), (Sc.atK L (ks.getD k 0)).bad)
theorem urgSt_succ {L : List Sc.Tk} {ks : List Nat} {k q : Nat} {t : Sc.Tk} (hk : k < ks.length) (hq : ks[k] = q) (ht : Sc.atK L q = t) : urgSt L ks (k + 1) = (Sc.urg t, t.bad) := by
  subst hq ht; simp [urgSt, List.getD, hk]
theorem urgSt_step {L : List Sc.Tk} {n : Nat} {cr : List Int} {ks0 : List Nat} {k q : Nat} {t : Sc.Tk} (hk : k < (Sc.run L n cr ks0).2.length) (hq : (Sc.run L n cr ks0).2[k] = q) (ht : Sc.atK L q = t) (hu : Sc.urg t = true) :
    (urgSt L (Sc.run L n cr ks0).2 k).1 = true ∧ (k = 0 ∨ t.bad ≤ (urgSt L (Sc.run L n cr ks0).2 k).2) := by
  cases k with
  | zero => exact ⟨rfl, Or.inl rfl⟩
  | succ k =>
    have hk' : k < (Sc.run L n cr ks0).2.length := by omega
    subst hq ht
    have := Sc.run_urgent L n cr ks0 k _ _ (List.getElem?_eq_getElem hk') (List.getElem?_eq_getElem hk) hu
    rw [urgSt_succ hk' rfl rfl]
    exact ⟨this.1, Or.inr this.2⟩
set_option maxRecDepth 100000 in
set_option maxHeartbeats 4000000 in
theorem lawUrgent (A0 : Option Addr) (n0 c0 : Nat) (cr : List Int) (hl0 : cr.length = n0) (nc0 : n0 ≤ c0) (cc0 : c0 ≤ 140737488355328) (xr0 : ∀ x ∈ cr, -9223372036854775808 ≤ x ∧ x ≤ 9223372036854775807)
    (A : Option Addr) (n c : Nat) (L : List Sc.Tk) (hL : L.length = n) (nc : n ≤ c) (cc : c ≤ 140737488355328) (xr1 : ∀ t ∈ L, TkOk t) (w : World) (rd0 : Rd w w.heap.size 1 A0 n0 (ivs cr)) (rd1 : Rd w w.heap.size 5 A n (L.flatMap tcs)) :
    Calls Try.prog 7 #[.slice A0 n0 c0, .slice A n c] w fun e w' => e = .returned (.bool true) ∧ Below w.heap.size w w' := by
  clear xr0 xr1
  by_cases h60 : n ≤ 60
  case neg =>
    have h61 : (60 : Int) < (n : Int) := by omega
    clear rd0 rd1 hl0 hL
    go_enter Try.func7, Try.ntmps7
    go_wp2_with (go_at_call 10; refine (sanity_any _).mono ?_; rintro e w1 ⟨rfl, b1⟩)
    go_ret
    exact ⟨rfl, b1⟩
  case pos =>
  have h61 : (n : Int) ≤ 60 := by omega
  have HV := Lib.hid (refValid_any A0 n0 c0 cr hl0 w.heap.size w rd0)
  cases hv : vldB cr with
  | false =>
    rw [hv] at HV
    clear rd0 rd1 hl0 hL hv
    go_enter Try.func7, Try.ntmps7
    go_wp2_with (first
      | (go_at_call 15; refine HV.out.mono ?_; rintro e w' ⟨rfl, rfl⟩)
      | (go_at_call 10; refine (sanity_any _).mono ?_; rintro e w1 ⟨rfl, b1⟩))
    go_ret
    exact ⟨rfl, b1⟩
  | true =>
    rw [hv] at HV
    have h5 : n0 = 5 := by rw [← hl0]; exact ((vldB_iff cr).1 hv).1
    subst h5
    have HL := Lib.hid hL
    have HRD := Lib.hid rd1
    have HOWN := Lib.hid (fun (W : World) (hW : Below w.heap.size w W) => own_any A n c L hL (by omega) w.heap.size W (rd1.below hW) hW.size)
    have HRUN := Lib.hid (fun (W : World) (hW : Below w.heap.size w W) (A' : Option Addr) (c' base : Nat) (h : W.ownsRow base 58 5 (.slice A' n c') n (L.flatMap tcs)) (b : Nat) (hb : (b : Int) ≤ 9223372036854775807) => Run_ok A0 c0 cr hl0 w.heap.size b hb A' n c' L hL (by omega) W.heap.size W (Rd.of_own h) (Nat.le_refl _) (rd0.below hW) hW.size hv)
    have HMEM := Lib.hid (Sc.run_mem L n cr (List.range n))
    have HRL := Lib.hid (Sc.run_len L n cr (List.range n))
    have HSTEP := Lib.hid (fun (k q : Nat) (t : Sc.Tk) => @urgSt_step L n cr (List.range n) k q t)
    clear rd0 rd1 hl0 hL hv
    go_enter Try.func7, Try.ntmps7
    go_wp2_with (go_at_call 15; refine HV.out.mono ?_; rintro e w' ⟨rfl, rfl⟩)
    refine (HOWN.out _ (Below.refl _ _)).mono ?_
    rintro e w1 ⟨A1, c1, rfl, own1, b1⟩
    go_wp2_with fail
    refine (HRUN.out w1 b1 A1 c1 _ own1 n (by omega)).mono ?_
    rintro e w2 ⟨g2, c2, P1, np1, cp1, rfl, C2, hg2, hn1, rP1, hcp1, b2⟩
    have hb2 := b1.trans (b2.mono b1.size)
    clear C2 hg2 own1
    generalize (Sc.run L n cr (List.range n)).2 = ks at *
    go_wp2_with fail
    obtain ⟨w3, hw3⟩ : ∃ x, w2.alloc (.cells #[.slice (some ⟨g2, 0, none⟩) 5 c2] 26) = x := ⟨_, rfl⟩
    rw [hw3]
    obtain ⟨_, _, b3, _⟩ := new_st hw3
    clear hw3
    have HB3 := Lib.hid (hb2.trans (b3.mono hb2.size))
    have HRP := Lib.hid (rP1.below b3)
    have HZ := Lib.hid (And.intro hb2.size b3.size)
    have HN := Lib.hid hn1
    have hcp : (np1 : Int) ≤ 60 := by have := HRL.out; rw [hn1] at this; omega
    clear rP1 hb2 b3 b1 b2 hn1
    go_loopw [8, 9, 35] (fun u8 u9 u35 wx => ∃ (wr : World) (k : Nat), wr = wx ∧ k ≤ np1 ∧ u8 = .bool (urgSt L ks k).1 ∧ u9 = .int .i64 (urgSt L ks k).2 ∧ u35 = .int .i64 k ∧ Below w3.heap.size w3 wr) (fun _ _ u35 _ => np1 - (intOf u35).toNat)
    case atStart => exact ⟨w3, 0, rfl, Nat.zero_le _, rfl, rfl, rfl, Below.refl _ _⟩
    case round =>
      obtain ⟨wr, k, rfl, hk, rfl, rfl, rfl, hbr⟩ := hrel
      by_cases hlt : k < np1
      · have hkl : k < ks.length := by rw [HN.out]; exact hlt
        obtain ⟨bp, op, rfl, _, h1⟩ := (HRP.out.below (hbr.mono HZ.out.2)).get hkl
        have hmm := HMEM.out ks[k] (List.getElem_mem hkl)
        have hqn : ks[k] < n := by have := hmm.1; simpa using this
        obtain ⟨b, off, rfl, hb0, hc⟩ := (HRD.out.below (HB3.out.trans (hbr.mono HB3.out.size))).tk HL.out (by omega)
        have hst := fun t => HSTEP.out k ks[k] t hkl rfl
        have hnx := fun t => @urgSt_succ L ks k ks[k] t hkl rfl
        obtain ⟨q, hq⟩ : ∃ q, ks[k] = q := ⟨_, rfl⟩
        rw [hq] at h1 hmm hqn hst hnx
        have hck := hc q hqn
        obtain ⟨t, ht⟩ : ∃ t, Sc.atK L q = t := ⟨_, rfl⟩
        rw [ht] at hck hmm
        have hst := hst t ht
        have HNX := Lib.hid (hnx t ht)
        obtain ⟨U, hU⟩ : ∃ U, (urgSt L ks k).1 = U := ⟨_, rfl⟩
        obtain ⟨Bd, hBd⟩ : ∃ U, (urgSt L ks k).2 = U := ⟨_, rfl⟩
        rw [hU, hBd] at hst ⊢
        have hcan := hmm.2
        obtain ⟨kind, row, grp, left, bad⟩ := t
        simp only [] at hck
        obtain ⟨C0, _, _, C3, C4⟩ := hck
        have q0 : ¬ ((q : Int) < 0) := by omega
        have q0' : (0 : Int) ≤ (q : Int) := by omega
        have q1 : (q : Int) < (n : Int) := by omega
        have k1 : (k : Int) < (np1 : Int) := by omega
        have HK := Lib.hid hk
        have HBR := Lib.hid hbr
        clear hc hnx hU hBd hq hmm ht hkl hbr hb0
        by_cases hkd : kind = 1
        · subst hkd
          by_cases hlf : left = 0
          · subst hlf
            have hu : Sc.urg ⟨1, row, grp, 0, bad⟩ = true := by simp [Sc.can] at hcan; simp [Sc.urg]; omega
            have HU := Lib.hid hu
            obtain ⟨hU1, h0⟩ := hst hu
            subst hU1
            clear hcan hst hu
            by_cases hk0 : k = 0
            · have d1 : decide ((0 : Int) < (k : Int)) = false := decide_eq_false (by omega)
              have d1n : decide (0 < k) = false := decide_eq_false (by omega)
              have d1p : ¬ (0 < k) := by omega
              clear h0 hk0
              go_wp2
              go_quiet (fail)
              go_wp2
              go_roundw
              case rel => exact ⟨_, k + 1, rfl, by omega, by rw [HNX.out]; simp [HU.out], by rw [HNX.out], by go_num, HBR.out.trans ((below_of_drewN _ _ _).mono HBR.out.size)⟩
              case measure => simp [intOf]; omega
            · have d1 : decide ((0 : Int) < (k : Int)) = true := decide_eq_true (by omega)
              have d1n : decide (0 < k) = true := decide_eq_true (by omega)
              have d1p : 0 < k := by omega
              have d2 : decide (Bd < bad) = false := decide_eq_false (by rcases h0 with h | h <;> simp at * <;> omega)
              clear h0 hk0
              go_wp2
              go_quiet (fail)
              go_wp2
              go_roundw
              case rel => exact ⟨_, k + 1, rfl, by omega, by rw [HNX.out]; simp [HU.out], by rw [HNX.out], by go_num, HBR.out.trans ((below_of_drewN _ _ _).mono HBR.out.size)⟩
              case measure => simp [intOf]; omega
          · have e2 : (left == 0) = false := by simpa using hlf
            have hu : Sc.urg ⟨1, row, grp, left, bad⟩ = false := by simp [Sc.urg, hlf]
            have HU := Lib.hid hu
            clear hcan hst hu hlf
            go_wp2
            go_quiet (fail)
            go_wp2
            go_roundw
            case rel => exact ⟨_, k + 1, rfl, by omega, by rw [HNX.out]; simp [HU.out], by rw [HNX.out], by go_num, HBR.out.trans ((below_of_drewN _ _ _).mono HBR.out.size)⟩
            case measure => simp [intOf]; omega
        · have e1 : (kind == 1) = false := by simpa using hkd
          have hu : Sc.urg ⟨kind, row, grp, left, bad⟩ = false := by simp [Sc.urg, hkd]
          have HU := Lib.hid hu
          clear hcan hst hu hkd
          go_wp2
          go_quiet (fail)
          go_wp2
          go_roundw
          case rel => exact ⟨_, k + 1, rfl, by omega, by rw [HNX.out]; simp [HU.out], by rw [HNX.out], by go_num, HBR.out.trans ((below_of_drewN _ _ _).mono HBR.out.size)⟩
          case measure => simp [intOf]; omega
      · have k1 : (np1 : Int) ≤ (k : Int) := by omega
        have HBR := Lib.hid hbr
        clear hbr
        go_wp2_with (go_at_call 10; refine (sanity_any _).mono ?_; rintro e w4 ⟨rfl, b4⟩)
        go_ret
        exact ⟨rfl, HB3.out.trans ((HBR.out.mono HB3.out.size).trans (b4.mono (Nat.le_trans HB3.out.size HBR.out.size)))⟩
end Go.Proofs.Ytfihdenapjmaeaa
