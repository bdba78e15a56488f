/- The specification's right: whether a row is valid. Conditions: the row is kept. -/
import Derived.Test.YtihhkcndcgljbaaGreatStrT
namespace Go.Proofs.YtihhkcndcgljbaaGreat.S
set_option linter.unusedVariables false
set_option linter.unusedSimpArgs false
open Go.RowKit
set_option maxRecDepth 100000 in
set_option maxHeartbeats 6400000 in
theorem right_yes (cf : Str.Cfg) (x : RR) (B : Nat) (w : World) (hc : x.r.code ≠ -1) (hx : x.In w B) (hB : B ≤ w.heap.size) (hn : Str.codeB x.r = true) :
    Calls Tryz.prog 25 #[cfV cf, .agg (rwL x).toArray] w fun e w' => e = .returned (.bool (Str.right cf x.r)) ∧ Below w.heap.size w w' := by
  have hz : Str.right cf x.r = Str.ascB (Str.grp cf x.r.width) 0 x.r.used := by
    unfold Str.right
    rw [if_neg hc, hn, Bool.true_and]
  unfold Str.codeB at hn
  simp only [Bool.and_eq_true, decide_eq_true_iff] at hn
  obtain ⟨⟨⟨⟨h1, h2⟩, h3⟩, h4⟩, h5⟩ := hn
  rw [hz]
  have HX := Lib.hid hx
  have hle := hx.le
  have hmx := hx.mx
  have HG := Lib.hid (fun W => rgroups_any cf x.r.width W)
  have HCV : Hid (cfV cf = .agg (cfL cf).toArray) := Lib.hid rfl
  have HCL : Hid ((cfL cf).length = 6) := Lib.hid rfl
  rw [HCV.out] at HG ⊢
  obtain ⟨cl, hcl⟩ : ∃ y, cfL cf = y := ⟨_, rfl⟩
  rw [hcl] at HG HCL ⊢
  obtain ⟨G, hG⟩ : ∃ y, Str.grp cf x.r.width = y := ⟨_, rfl⟩
  rw [hG] at HG ⊢
  obtain ⟨xc, hxc⟩ : ∃ y, x.r.code = y := ⟨_, rfl⟩
  obtain ⟨xw, hxw⟩ : ∃ y, x.r.width = y := ⟨_, rfl⟩
  obtain ⟨n, hn'⟩ : ∃ y, x.r.used.length = y := ⟨_, rfl⟩
  have HRL : Hid (rwL x = [.int .i64 xc, .int .i64 xw, .slice x.A n x.k]) := Lib.hid (by rw [← hxw, ← hn', ← hxc]; rfl)
  have HN := Lib.hid hn'
  rw [HRL.out]
  rw [hxc] at hc h1 h2
  rw [hxw] at h3 h4 HG
  rw [hn'] at h5 hle hmx
  have hb : (xc == -1) = false := by simpa using hc
  have d1 : ¬ xc < 0 := by omega
  have d2 : ¬ xc ≥ 8 := by omega
  have d3 : ¬ xw < 1 := by omega
  have d4 : ¬ xw > 32 := by omega
  have d5 : ¬ n = 0 := by omega
  obtain ⟨Z, hZ⟩ : ∃ Z, Str.ascB G 0 x.r.used = Z := ⟨_, rfl⟩
  rw [hZ]
  have HZ := Lib.hid hZ
  have HHB := Lib.hid hB
  clear hz hcl hc hxw hn' hxc hx hG hZ hB HRL HCV h1 h2 h3 h4 h5
  obtain ⟨A, hA⟩ : ∃ A, x.A = A := ⟨_, rfl⟩
  obtain ⟨q, hq⟩ : ∃ q, x.k = q := ⟨_, rfl⟩
  have HA := Lib.hid hA
  rw [hq] at hle
  rw [hA, hq]
  clear hA hq
  go_enter Tryz.func25, Tryz.ntmps25
  go_upto_region 1 with (first
    | (refine wpList_boxRow rfl _ (.tmp 0) rfl cl rfl rfl ?_; intro w1 r1 b1 z1; clear z1; simp only [put_some, List.setIfInBounds_toArray, List.set_cons_succ, List.set_cons_zero])
    | (refine wpList_boxRow rfl _ (.tmp 1) rfl [.int .i64 xc, .int .i64 xw, .slice A n q] rfl rfl ?_; intro w2 r2 b2 z2; clear z2; simp only [put_some, List.setIfInBounds_toArray, List.set_cons_succ, List.set_cons_zero]))
  have k0 := r2.cell 0
  have k1 := r2.cell 1
  have k2 := r2.cell 2
  dsimp only [List.getElem?_cons_zero, List.getElem?_cons_succ] at k0 k1 k2
  have HB2 := Lib.hid (b1.trans (b2.mono b1.size))
  have rc2 := r1.below' b2
  have hrg : w2.rangeAt w.heap.size 0 cl := fun j v hv => by rw [Nat.zero_add, rc2.cell]; exact hv
  have HR2 := Lib.hid r2
  clear b1 b2 r1 rc2 r2
  go_upto_region 6 with (first
    | (refine wpList_load_rg rfl _ (.tmp 2) rfl w.heap.size 0 rfl cl _ hrg Tryz.underlying23 rfl (by rw [HCL.out]; exact sizeCf) ?_)
    | (go_at_call 9; refine (HG.out _).mono ?_; rintro e w3 ⟨rfl, b3⟩; have HB3 := Lib.hid b3; have k2' := (HR2.out.below' b3).cell 2; dsimp only [List.getElem?_cons_zero, List.getElem?_cons_succ] at k2'; clear b3))
  clear k0 k1 k2 hrg
  go_upto_region 7 with fail
  have HK := Lib.hid (fun (V : World) (hV : Below w3.heap.size w3 V) => (show V.cell? ⟨w1.heap.size, 2, none⟩ = some (.slice A n q) from ((HR2.out.below' HB3.out).below' hV).cell 2))
  go_loopw [6] (fun u wr => ∃ (j : Nat) (lo : Int), j ≤ n ∧ u = .int .i64 (j : Int) ∧ Hid (Str.ascB G lo (x.r.used.drop j) = Z) ∧ Hid (0 ≤ lo) ∧ Hid ((j = 0 ∧ lo = 0) ∨ (∃ (h : j - 1 < x.r.used.length), 0 < j ∧ lo = x.r.used[j - 1].g + 1)) ∧ Hid (Below w3.heap.size w3 wr)) (fun u _ => n - (intOf u).toNat)
  case atStart => exact ⟨0, 0, Nat.zero_le _, rfl, Lib.hid HZ.out, Lib.hid (Int.le_refl 0), Lib.hid (.inl ⟨rfl, rfl⟩), Lib.hid (Below.refl _ _)⟩
  case round =>
    obtain ⟨j, lo, hj, rfl, HAS, HL0, HLO, HB⟩ := hrel
    have kc := HK.out wr HB.out
    by_cases hlt : j < n
    · have hju : j < x.r.used.length := by rw [HN.out]; exact hlt
      obtain ⟨b, off, hA, hbb, -, cu⟩ := ((HX.out.below ((HB2.out.trans (HB3.out.mono HB2.out.size)).mono HHB.out)).below (HB.out.mono (by have h1 := HHB.out; have h2 := HB2.out.size; have h3 := HB3.out.size; omega))).at hju
      obtain rfl : A = some ⟨b, off, none⟩ := HA.out.symm.trans hA
      have hpv : 0 < j → ∃ pg : Int, lo = pg + 1 ∧ wr.cell? ⟨b, off + (j - 1) * 3, none⟩ = some (.int .i64 pg) := fun h0 => by
        rcases HLO.out with ⟨h, _⟩ | ⟨h, _, e⟩
        · omega
        · obtain ⟨b', off', hA', -, -, cu'⟩ := ((HX.out.below ((HB2.out.trans (HB3.out.mono HB2.out.size)).mono HHB.out)).below (HB.out.mono (by have h1 := HHB.out; have h2 := HB2.out.size; have h3 := HB3.out.size; omega))).at h
          have e2 := HA.out.symm.trans hA'
          injection e2 with e2
          injection e2 with e3 e4
          subst e3 e4
          exact ⟨_, e, cu'⟩
      have hstep : Str.ascB G lo (x.r.used.drop j) = (decide (lo ≤ x.r.used[j].g) && decide (x.r.used[j].g < G) && Str.ascB G (x.r.used[j].g + 1) (x.r.used.drop (j + 1))) := by rw [List.drop_eq_getElem_cons hju]; rfl
      rw [HAS.out] at hstep
      have hl0 := HL0.out
      have hnx : ∀ h : j + 1 - 1 < x.r.used.length, (x.r.used[j + 1 - 1]'h).g = x.r.used[j].g := fun h => by congr
      obtain ⟨ug, hug⟩ : ∃ g, x.r.used[j].g = g := ⟨_, rfl⟩
      rw [hug] at cu hstep
      have HUG := Lib.hid hug
      have HNX : Hid (∃ h : j + 1 - 1 < x.r.used.length, 0 < j + 1 ∧ ug + 1 = x.r.used[j + 1 - 1].g + 1) := Lib.hid ⟨by omega, by omega, by rw [hnx (by omega), hug]⟩
      have e1 : (0 : Int) ≤ (j : Int) := by omega
      have e2 : (j : Int) < (n : Int) := by omega
      have HS := Lib.hid hstep
      clear hA hug hnx hstep
      by_cases c1 : ug < 0
      · have HZF : Hid (Z = false) := Lib.hid (by rw [HS.out, decide_eq_false (by omega : ¬ lo ≤ ug)]; rfl)
        have d1 : decide (ug < 0) = true := decide_eq_true c1
        clear hpv c1 hl0
        go_wp2_with fail
        go_quiet (fail)
        go_wp2_with fail
        go_ret
        exact ⟨by have h := HZF.out; subst h; rfl, HB2.out.trans ((HB3.out.trans ((below_drewN HB.out _).mono HB3.out.size)).mono HB2.out.size)⟩
      · have d1 : decide (ug < 0) = false := decide_eq_false c1
        by_cases c2 : ug ≥ G
        · have HZF : Hid (Z = false) := Lib.hid (by rw [HS.out, decide_eq_false (by omega : ¬ ug < G), Bool.and_false]; rfl)
          have d2 : decide (G ≤ ug) = true := decide_eq_true c2
          clear hpv c1 c2 hl0
          go_wp2_with fail
          go_quiet (fail)
          go_wp2_with fail
          go_ret
          exact ⟨by have h := HZF.out; subst h; rfl, HB2.out.trans ((HB3.out.trans ((below_drewN HB.out _).mono HB3.out.size)).mono HB2.out.size)⟩
        · have d2 : decide (G ≤ ug) = false := decide_eq_false c2
          by_cases c3 : 0 < j
          · obtain ⟨pg, hlo, cp⟩ := hpv c3
            obtain ⟨p, hp⟩ : ∃ p, j - 1 = p := ⟨_, rfl⟩
            rw [hp] at cp
            have d3 : decide ((0 : Int) < (j : Int)) = true := decide_eq_true (by omega)
            have d3' : decide (0 < j) = true := decide_eq_true c3
            have s1 : IntKind.i64.wrap ((j : Int) - 1) = (p : Int) := by rw [show (j : Int) - 1 = (p : Int) by omega]; exact IntWalk.i64_in _ (by omega)
            have s2 : (0 : Int) ≤ (p : Int) := by omega
            have s3 : (p : Int) < (n : Int) := by omega
            clear hp
            by_cases c4 : ug ≤ pg
            · have HZF : Hid (Z = false) := Lib.hid (by rw [HS.out, decide_eq_false (by omega : ¬ lo ≤ ug)]; rfl)
              have d4 : decide (ug ≤ pg) = true := decide_eq_true c4
              clear hpv c1 c2 c3 c4 hl0 hlo
              go_wp2_with fail
              go_quiet (fail)
              go_wp2_with fail
              go_ret
              exact ⟨by have h := HZF.out; subst h; rfl, HB2.out.trans ((HB3.out.trans ((below_drewN HB.out _).mono HB3.out.size)).mono HB2.out.size)⟩
            · have d4 : decide (ug ≤ pg) = false := decide_eq_false c4
              have HZN : Hid (Str.ascB G (ug + 1) (x.r.used.drop (j + 1)) = Z) := Lib.hid (by rw [HS.out, decide_eq_true (by omega : lo ≤ ug), decide_eq_true (by omega : ug < G)]; rfl)
              have HU0 : Hid (0 ≤ ug + 1) := Lib.hid (by omega)
              clear hpv c1 c2 c3 c4 hl0 hlo
              go_wp2_with fail
              go_quiet (fail)
              go_wp2_with fail
              go_roundw
              case rel => exact ⟨j + 1, ug + 1, by omega, by go_num, HZN, HU0, Lib.hid (.inr HNX.out), Lib.hid (below_drewN HB.out _)⟩
              case measure => simp [intOf]; omega
          · have d3 : decide ((0 : Int) < (j : Int)) = false := decide_eq_false (by omega)
            have d3' : decide (0 < j) = false := decide_eq_false c3
            have HZN : Hid (Str.ascB G (ug + 1) (x.r.used.drop (j + 1)) = Z) := Lib.hid (by
              rcases HLO.out with ⟨_, h⟩ | ⟨_, h, _⟩
              · rw [HS.out, decide_eq_true (by omega : lo ≤ ug), decide_eq_true (by omega : ug < G)]; rfl
              · exact absurd h c3)
            have HU0 : Hid (0 ≤ ug + 1) := Lib.hid (by omega)
            clear hpv c1 c2 c3 hl0
            go_wp2_with fail
            go_quiet (fail)
            go_wp2_with fail
            go_roundw
            case rel => exact ⟨j + 1, ug + 1, by omega, by go_num, HZN, HU0, Lib.hid (.inr HNX.out), Lib.hid (below_drewN HB.out _)⟩
            case measure => simp [intOf]; omega
    · obtain rfl : j = n := by omega
      have hZt : Z = true := by have := HAS.out; rw [List.drop_of_length_le (by rw [HN.out]; exact Nat.le_refl _)] at this; exact this.symm
      have HZT := Lib.hid hZt
      clear hZt
      go_wp2_with fail
      go_ret
      exact ⟨by have h := HZT.out; subst h; rfl, HB2.out.trans ((HB3.out.trans (HB.out.mono HB3.out.size)).mono HB2.out.size)⟩
/-- the specification's right -/
theorem right_any (cf : Str.Cfg) (x : RR) (B : Nat) (w : World) (hx : x.In w B) (hB : B ≤ w.heap.size) :
    Calls Tryz.prog 25 #[cfV cf, .agg (rwL x).toArray] w fun e w' => e = .returned (.bool (Str.right cf x.r)) ∧ Below w.heap.size w w' := by
  by_cases hc : x.r.code = -1
  · exact right_free cf x w hc hx.le
  · by_cases hn : Str.codeB x.r = true
    · exact right_yes cf x B w hc hx hB hn
    · exact right_no cf x w hc hx.le hn
end Go.Proofs.YtihhkcndcgljbaaGreat.S
