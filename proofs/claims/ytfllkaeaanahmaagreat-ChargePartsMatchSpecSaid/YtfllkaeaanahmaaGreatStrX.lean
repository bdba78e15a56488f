/- Joined texts: StrT, StrU, StrX. Conditions: as each part says. -/
import Derived.Test.YtfllkaeaanahmaaGreatStrD
import Derived.Test.YtfllkaeaanahmaaGreatHeld2
namespace Go.Proofs.YtfllkaeaanahmaaGreat
set_option linter.unusedVariables false
set_option linter.unusedSimpArgs false
section
namespace S
open Go.RowKit
set_option maxRecDepth 100000 in
set_option maxHeartbeats 3200000 in
theorem right_free (cf : Str.Cfg) (x : RR) (w : World) (hc : x.r.code = -1) (hx : x.r.used.length ≤ x.k) :
  Calls Tryz.prog 79 #[cfV cf, .agg (rwL x).toArray] w fun e w' => e = .returned (.bool (Str.right cf x.r)) ∧ Below w.heap.size w w' := by
 have hz : (decide (x.r.width = 0) = false ∧ Str.right cf x.r = false) ∨ (decide (x.r.width = 0) = true ∧ decide (x.r.used.length = 0) = Str.right cf x.r) := by
  unfold Str.right
  rw [if_pos hc]
  by_cases h1 : x.r.width = 0 <;> simp [h1]
 obtain ⟨Z, hZ⟩ : ∃ Z, Str.right cf x.r = Z := ⟨_, rfl⟩
 rw [hZ] at hz ⊢
 have HCV : Hid (cfV cf = .agg (cfL cf).toArray) := Lib.hid rfl
 rw [HCV.out]
 obtain ⟨cl, hcl⟩ : ∃ y, cfL cf = y := ⟨_, rfl⟩
 rw [hcl]
 obtain ⟨xw, hxw⟩ : ∃ y, x.r.width = y := ⟨_, rfl⟩
 obtain ⟨n, hn⟩ : ∃ y, x.r.used.length = y := ⟨_, rfl⟩
 have HRL : Hid (rwL x = [.int .i64 (-1), .int .i64 xw, .slice x.A n x.k]) := Lib.hid (by rw [← hxw, ← hn, ← hc]; rfl)
 rw [HRL.out]
 rw [hxw, hn] at hz
 rw [hn] at hx
 clear hZ HCV hcl HRL hc hxw hn
 have hz2 : (xw ≠ 0 ∧ Z = false) ∨ (xw = 0 ∧ decide (n = 0) = Z) := by
  rcases hz with ⟨h1, h2⟩ | ⟨h1, h2⟩
  ·
   exact .inl ⟨of_decide_eq_false h1, h2⟩
  ·
   exact .inr ⟨of_decide_eq_true h1, h2⟩
 clear hz
 rcases hz2 with ⟨h1, rfl⟩ | ⟨rfl, h2⟩
 ·
  have hb : (xw == 0) = false := by simpa using h1
  go_enter Tryz.func79, Tryz.ntmps79
  go_upto_region 1 with (first
   | (refine wpList_boxRow rfl _ (.tmp 0) rfl cl rfl rfl ?_; intro w1 r1 b1 z1; clear z1; simp only [put_some, List.setIfInBounds_toArray, List.set_cons_succ, List.set_cons_zero])
   | (refine wpList_boxRow rfl _ (.tmp 1) rfl [.int .i64 (-1), .int .i64 xw, .slice x.A n x.k] rfl rfl ?_; intro w2 r2 b2 z2; clear z2; simp only [put_some, List.setIfInBounds_toArray, List.set_cons_succ, List.set_cons_zero]))
  have k0 := r2.cell 0
  have k1 := r2.cell 1
  dsimp only [List.getElem?_cons_zero, List.getElem?_cons_succ] at k0 k1
  go_wp2_with fail
  go_ret
  exact ⟨rfl, b1.trans (b2.mono b1.size)⟩
 ·
  have hb : ((n : Int) == 0) = Z := by rw [← h2]; by_cases h : n = 0 <;> simp [h]
  clear h2
  go_enter Tryz.func79, Tryz.ntmps79
  go_upto_region 1 with (first
   | (refine wpList_boxRow rfl _ (.tmp 0) rfl cl rfl rfl ?_; intro w1 r1 b1 z1; clear z1; simp only [put_some, List.setIfInBounds_toArray, List.set_cons_succ, List.set_cons_zero])
   | (refine wpList_boxRow rfl _ (.tmp 1) rfl [.int .i64 (-1), .int .i64 0, .slice x.A n x.k] rfl rfl ?_; intro w2 r2 b2 z2; clear z2; simp only [put_some, List.setIfInBounds_toArray, List.set_cons_succ, List.set_cons_zero]))
  have k0 := r2.cell 0
  have k1 := r2.cell 1
  have k2 := r2.cell 2
  dsimp only [List.getElem?_cons_zero, List.getElem?_cons_succ] at k0 k1 k2
  go_wp2_with fail
  go_ret
  exact ⟨by first | rfl | (congr 2) | simpa using hb, b1.trans (b2.mono b1.size)⟩
theorem Str.code_cases {r : Str.Rw} (h : ¬ Str.codeB r = true) : r.code < 0 ∨ (¬ r.code < 0 ∧ r.code ≥ 8) ∨ (¬ r.code < 0 ∧ ¬ r.code ≥ 8 ∧ r.width < 1) ∨ (¬ r.code < 0 ∧ ¬ r.code ≥ 8 ∧ ¬ r.width < 1 ∧ r.width > 32) ∨ (¬ r.code < 0 ∧ ¬ r.code ≥ 8 ∧ ¬ r.width < 1 ∧ ¬ r.width > 32 ∧ r.used.length = 0) := by
 unfold Str.codeB at h
 by_cases h1 : r.code < 0
 ·
  exact .inl h1
 by_cases h2 : r.code ≥ 8
 ·
  exact .inr (.inl ⟨h1, h2⟩)
 by_cases h3 : r.width < 1
 ·
  exact .inr (.inr (.inl ⟨h1, h2, h3⟩))
 by_cases h4 : r.width > 32
 ·
  exact .inr (.inr (.inr (.inl ⟨h1, h2, h3, h4⟩)))
 by_cases h5 : r.used.length = 0
 ·
  exact .inr (.inr (.inr (.inr ⟨h1, h2, h3, h4, h5⟩)))
 ·
  refine absurd ?_ h
  simp only [Bool.and_eq_true, decide_eq_true_iff]
  omega
set_option maxRecDepth 100000 in
set_option maxHeartbeats 3200000 in
theorem right_no (cf : Str.Cfg) (x : RR) (w : World) (hc : x.r.code ≠ -1) (hx : x.r.used.length ≤ x.k) (hn : ¬ Str.codeB x.r = true) :
  Calls Tryz.prog 79 #[cfV cf, .agg (rwL x).toArray] w fun e w' => e = .returned (.bool (Str.right cf x.r)) ∧ Below w.heap.size w w' := by
 have hz : Str.right cf x.r = false := by
  unfold Str.right
  rw [if_neg hc]
  cases h : Str.codeB x.r with
  | false => rfl
  | true => exact absurd h hn
 rw [hz]
 have hcs := Str.code_cases hn
 have HCV : Hid (cfV cf = .agg (cfL cf).toArray) := Lib.hid rfl
 rw [HCV.out]
 obtain ⟨cl, hcl⟩ : ∃ y, cfL cf = y := ⟨_, rfl⟩
 rw [hcl]
 obtain ⟨xc, hxc⟩ : ∃ y, x.r.code = y := ⟨_, rfl⟩
 obtain ⟨xw, hxw⟩ : ∃ y, x.r.width = y := ⟨_, rfl⟩
 obtain ⟨n, hn'⟩ : ∃ y, x.r.used.length = y := ⟨_, rfl⟩
 have HRL : Hid (rwL x = [.int .i64 xc, .int .i64 xw, .slice x.A n x.k]) := Lib.hid (by rw [← hxw, ← hn', ← hxc]; rfl)
 rw [HRL.out]
 rw [hxc, hxw, hn'] at hcs
 rw [hn'] at hx
 rw [hxc] at hc
 have hb : (xc == -1) = false := by simpa using hc
 clear hz HCV hcl HRL hc hxw hn' hxc hn
 rcases hcs with h | ⟨h1, h⟩ | ⟨h1, h2, h⟩ | ⟨h1, h2, h3, h⟩ | ⟨h1, h2, h3, h4, rfl⟩
 all_goals
  go_enter Tryz.func79, Tryz.ntmps79
  go_upto_region 1 with (first
   | (refine wpList_boxRow rfl _ (.tmp 0) rfl cl rfl rfl ?_; intro w1 r1 b1 z1; clear z1; simp only [put_some, List.setIfInBounds_toArray, List.set_cons_succ, List.set_cons_zero])
   | (refine wpList_boxRow rfl _ (.tmp 1) rfl [.int .i64 xc, .int .i64 xw, .slice x.A _ x.k] rfl rfl ?_; intro w2 r2 b2 z2; clear z2; simp only [put_some, List.setIfInBounds_toArray, List.set_cons_succ, List.set_cons_zero]))
  have k0 := r2.cell 0
  have k1 := r2.cell 1
  have k2 := r2.cell 2
  dsimp only [List.getElem?_cons_zero, List.getElem?_cons_succ] at k0 k1 k2
  go_wp2_with fail
  go_ret
  exact ⟨rfl, b1.trans (b2.mono b1.size)⟩
end S
end
section
namespace S
open Go.RowKit
set_option maxRecDepth 100000 in
set_option maxHeartbeats 6400000 in
theorem right_yes (cf : Str.Cfg) (x : RR) (B : Nat) (w : World) (hc : x.r.code ≠ -1) (hx : x.In w B) (hB : B ≤ w.heap.size) (hn : Str.codeB x.r = true) :
  Calls Tryz.prog 79 #[cfV cf, .agg (rwL x).toArray] w fun e w' => e = .returned (.bool (Str.right cf x.r)) ∧ Below w.heap.size w w' := by
 have hz : Str.right cf x.r = Str.ascB (Str.grp cf x.r.width) 0 x.r.used := by
  unfold Str.right
  rw [if_neg hc, hn, Bool.true_and]
 unfold Str.codeB at hn
 simp only [Bool.and_eq_true, decide_eq_true_iff] at hn
 obtain ⟨⟨⟨⟨h1, h2⟩, h3⟩, h4⟩, h5⟩ := hn
 rw [hz]
 have HX := Lib.hid hx
 have hle := hx.le
 have hmx := hx.mx
 have HG := Lib.hid (fun W => rgroups_any cf x.r.width W)
 have HCV : Hid (cfV cf = .agg (cfL cf).toArray) := Lib.hid rfl
 have HCL : Hid ((cfL cf).length = 6) := Lib.hid rfl
 rw [HCV.out] at HG ⊢
 obtain ⟨cl, hcl⟩ : ∃ y, cfL cf = y := ⟨_, rfl⟩
 rw [hcl] at HG HCL ⊢
 obtain ⟨G, hG⟩ : ∃ y, Str.grp cf x.r.width = y := ⟨_, rfl⟩
 rw [hG] at HG ⊢
 obtain ⟨xc, hxc⟩ : ∃ y, x.r.code = y := ⟨_, rfl⟩
 obtain ⟨xw, hxw⟩ : ∃ y, x.r.width = y := ⟨_, rfl⟩
 obtain ⟨n, hn'⟩ : ∃ y, x.r.used.length = y := ⟨_, rfl⟩
 have HRL : Hid (rwL x = [.int .i64 xc, .int .i64 xw, .slice x.A n x.k]) := Lib.hid (by rw [← hxw, ← hn', ← hxc]; rfl)
 have HN := Lib.hid hn'
 rw [HRL.out]
 rw [hxc] at hc h1 h2
 rw [hxw] at h3 h4 HG
 rw [hn'] at h5 hle hmx
 have hb : (xc == -1) = false := by simpa using hc
 have d1 : ¬ xc < 0 := by omega
 have d2 : ¬ xc ≥ 8 := by omega
 have d3 : ¬ xw < 1 := by omega
 have d4 : ¬ xw > 32 := by omega
 have d5 : ¬ n = 0 := by omega
 obtain ⟨Z, hZ⟩ : ∃ Z, Str.ascB G 0 x.r.used = Z := ⟨_, rfl⟩
 rw [hZ]
 have HZ := Lib.hid hZ
 have HHB := Lib.hid hB
 clear hz hcl hc hxw hn' hxc hx hG hZ hB HRL HCV h1 h2 h3 h4 h5
 obtain ⟨A, hA⟩ : ∃ A, x.A = A := ⟨_, rfl⟩
 obtain ⟨q, hq⟩ : ∃ q, x.k = q := ⟨_, rfl⟩
 have HA := Lib.hid hA
 rw [hq] at hle
 rw [hA, hq]
 clear hA hq
 go_enter Tryz.func79, Tryz.ntmps79
 go_upto_region 1 with (first
  | (refine wpList_boxRow rfl _ (.tmp 0) rfl cl rfl rfl ?_; intro w1 r1 b1 z1; clear z1; simp only [put_some, List.setIfInBounds_toArray, List.set_cons_succ, List.set_cons_zero])
  | (refine wpList_boxRow rfl _ (.tmp 1) rfl [.int .i64 xc, .int .i64 xw, .slice A n q] rfl rfl ?_; intro w2 r2 b2 z2; clear z2; simp only [put_some, List.setIfInBounds_toArray, List.set_cons_succ, List.set_cons_zero]))
 have k0 := r2.cell 0
 have k1 := r2.cell 1
 have k2 := r2.cell 2
 dsimp only [List.getElem?_cons_zero, List.getElem?_cons_succ] at k0 k1 k2
 have HB2 := Lib.hid (b1.trans (b2.mono b1.size))
 have rc2 := r1.below' b2
 have hrg : w2.rangeAt w.heap.size 0 cl := fun j v hv => by rw [Nat.zero_add, rc2.cell]; exact hv
 have HR2 := Lib.hid r2
 clear b1 b2 r1 rc2 r2
 go_upto_region 6 with (first
  | (refine wpList_load_rg rfl _ (.tmp 2) rfl w.heap.size 0 rfl cl _ hrg Tryz.underlying23 rfl (by rw [HCL.out]; exact sizeCf) ?_)
  | (go_at_call 109; refine (HG.out _).mono ?_; rintro e w3 ⟨rfl, b3⟩; have HB3 := Lib.hid b3; have k2' := (HR2.out.below' b3).cell 2; dsimp only [List.getElem?_cons_zero, List.getElem?_cons_succ] at k2'; clear b3))
 clear k0 k1 k2 hrg
 go_upto_region 7 with fail
 have HK := Lib.hid (fun (V : World) (hV : Below w3.heap.size w3 V) => (show V.cell? ⟨w1.heap.size, 2, none⟩ = some (.slice A n q) from ((HR2.out.below' HB3.out).below' hV).cell 2))
 go_loopw [6] (fun u wr => ∃ (j : Nat) (lo : Int), j ≤ n ∧ u = .int .i64 (j : Int) ∧ Hid (Str.ascB G lo (x.r.used.drop j) = Z) ∧ Hid (0 ≤ lo) ∧ Hid ((j = 0 ∧ lo = 0) ∨ (∃ (h : j - 1 < x.r.used.length), 0 < j ∧ lo = x.r.used[j - 1].g + 1)) ∧ Hid (Below w3.heap.size w3 wr)) (fun u _ => n - (intOf u).toNat)
 case atStart => exact ⟨0, 0, Nat.zero_le _, rfl, Lib.hid HZ.out, Lib.hid (Int.le_refl 0), Lib.hid (.inl ⟨rfl, rfl⟩), Lib.hid (Below.refl _ _)⟩
 case round =>
  obtain ⟨j, lo, hj, rfl, HAS, HL0, HLO, HB⟩ := hrel
  have kc := HK.out wr HB.out
  by_cases hlt : j < n
  ·
   have hju : j < x.r.used.length := by rw [HN.out]; exact hlt
   obtain ⟨b, off, hA, hbb, -, cu⟩ := ((HX.out.below ((HB2.out.trans (HB3.out.mono HB2.out.size)).mono HHB.out)).below (HB.out.mono (by have h1 := HHB.out; have h2 := HB2.out.size; have h3 := HB3.out.size; omega))).at hju
   obtain rfl : A = some ⟨b, off, none⟩ := HA.out.symm.trans hA
   have hpv : 0 < j → ∃ pg : Int, lo = pg + 1 ∧ wr.cell? ⟨b, off + (j - 1) * 3, none⟩ = some (.int .i64 pg) := fun h0 => by
    rcases HLO.out with ⟨h, _⟩ | ⟨h, _, e⟩
    ·
     omega
    ·
     obtain ⟨b', off', hA', -, -, cu'⟩ := ((HX.out.below ((HB2.out.trans (HB3.out.mono HB2.out.size)).mono HHB.out)).below (HB.out.mono (by have h1 := HHB.out; have h2 := HB2.out.size; have h3 := HB3.out.size; omega))).at h
     have e2 := HA.out.symm.trans hA'
     injection e2 with e2
     injection e2 with e3 e4
     subst e3 e4
     exact ⟨_, e, cu'⟩
   have hstep : Str.ascB G lo (x.r.used.drop j) = (decide (lo ≤ x.r.used[j].g) && decide (x.r.used[j].g < G) && Str.ascB G (x.r.used[j].g + 1) (x.r.used.drop (j + 1))) := by rw [List.drop_eq_getElem_cons hju]; rfl
   rw [HAS.out] at hstep
   have hl0 := HL0.out
   have hnx : ∀ h : j + 1 - 1 < x.r.used.length, (x.r.used[j + 1 - 1]'h).g = x.r.used[j].g := fun h => by congr
   obtain ⟨ug, hug⟩ : ∃ g, x.r.used[j].g = g := ⟨_, rfl⟩
   rw [hug] at cu hstep
   have HUG := Lib.hid hug
   have HNX : Hid (∃ h : j + 1 - 1 < x.r.used.length, 0 < j + 1 ∧ ug + 1 = x.r.used[j + 1 - 1].g + 1) := Lib.hid ⟨by omega, by omega, by rw [hnx (by omega), hug]⟩
   have e1 : (0 : Int) ≤ (j : Int) := by omega
   have e2 : (j : Int) < (n : Int) := by omega
   have HS := Lib.hid hstep
   clear hA hug hnx hstep
   by_cases c1 : ug < 0
   ·
    have HZF : Hid (Z = false) := Lib.hid (by rw [HS.out, decide_eq_false (by omega : ¬ lo ≤ ug)]; rfl)
    have d1 : decide (ug < 0) = true := decide_eq_true c1
    clear hpv c1 hl0
    go_wp2_with fail
    go_quiet (fail)
    go_wp2_with fail
    go_ret
    exact ⟨by have h := HZF.out; subst h; rfl, HB2.out.trans ((HB3.out.trans ((below_drewN HB.out _).mono HB3.out.size)).mono HB2.out.size)⟩
   ·
    have d1 : decide (ug < 0) = false := decide_eq_false c1
    by_cases c2 : ug ≥ G
    ·
     have HZF : Hid (Z = false) := Lib.hid (by rw [HS.out, decide_eq_false (by omega : ¬ ug < G), Bool.and_false]; rfl)
     have d2 : decide (G ≤ ug) = true := decide_eq_true c2
     clear hpv c1 c2 hl0
     go_wp2_with fail
     go_quiet (fail)
     go_wp2_with fail
     go_ret
     exact ⟨by have h := HZF.out; subst h; rfl, HB2.out.trans ((HB3.out.trans ((below_drewN HB.out _).mono HB3.out.size)).mono HB2.out.size)⟩
    ·
     have d2 : decide (G ≤ ug) = false := decide_eq_false c2
     by_cases c3 : 0 < j
     ·
      obtain ⟨pg, hlo, cp⟩ := hpv c3
      obtain ⟨p, hp⟩ : ∃ p, j - 1 = p := ⟨_, rfl⟩
      rw [hp] at cp
      have d3 : decide ((0 : Int) < (j : Int)) = true := decide_eq_true (by omega)
      have d3' : decide (0 < j) = true := decide_eq_true c3
      have s1 : IntKind.i64.wrap ((j : Int) - 1) = (p : Int) := by rw [show (j : Int) - 1 = (p : Int) by omega]; exact IntWalk.i64_in _ (by omega)
      have s2 : (0 : Int) ≤ (p : Int) := by omega
      have s3 : (p : Int) < (n : Int) := by omega
      clear hp
      by_cases c4 : ug ≤ pg
      ·
       have HZF : Hid (Z = false) := Lib.hid (by rw [HS.out, decide_eq_false (by omega : ¬ lo ≤ ug)]; rfl)
       have d4 : decide (ug ≤ pg) = true := decide_eq_true c4
       clear hpv c1 c2 c3 c4 hl0 hlo
       go_wp2_with fail
       go_quiet (fail)
       go_wp2_with fail
       go_ret
       exact ⟨by have h := HZF.out; subst h; rfl, HB2.out.trans ((HB3.out.trans ((below_drewN HB.out _).mono HB3.out.size)).mono HB2.out.size)⟩
      ·
       have d4 : decide (ug ≤ pg) = false := decide_eq_false c4
       have HZN : Hid (Str.ascB G (ug + 1) (x.r.used.drop (j + 1)) = Z) := Lib.hid (by rw [HS.out, decide_eq_true (by omega : lo ≤ ug), decide_eq_true (by omega : ug < G)]; rfl)
       have HU0 : Hid (0 ≤ ug + 1) := Lib.hid (by omega)
       clear hpv c1 c2 c3 c4 hl0 hlo
       go_wp2_with fail
       go_quiet (fail)
       go_wp2_with fail
       go_roundw
       case rel => exact ⟨j + 1, ug + 1, by omega, by go_num, HZN, HU0, Lib.hid (.inr HNX.out), Lib.hid (below_drewN HB.out _)⟩
       case measure => simp [intOf]; omega
     ·
      have d3 : decide ((0 : Int) < (j : Int)) = false := decide_eq_false (by omega)
      have d3' : decide (0 < j) = false := decide_eq_false c3
      have HZN : Hid (Str.ascB G (ug + 1) (x.r.used.drop (j + 1)) = Z) := Lib.hid (by
       rcases HLO.out with ⟨_, h⟩ | ⟨_, h, _⟩
       ·
        rw [HS.out, decide_eq_true (by omega : lo ≤ ug), decide_eq_true (by omega : ug < G)]; rfl
       ·
        exact absurd h c3)
      have HU0 : Hid (0 ≤ ug + 1) := Lib.hid (by omega)
      clear hpv c1 c2 c3 hl0
      go_wp2_with fail
      go_quiet (fail)
      go_wp2_with fail
      go_roundw
      case rel => exact ⟨j + 1, ug + 1, by omega, by go_num, HZN, HU0, Lib.hid (.inr HNX.out), Lib.hid (below_drewN HB.out _)⟩
      case measure => simp [intOf]; omega
  ·
   obtain rfl : j = n := by omega
   have hZt : Z = true := by have := HAS.out; rw [List.drop_of_length_le (by rw [HN.out]; exact Nat.le_refl _)] at this; exact this.symm
   have HZT := Lib.hid hZt
   clear hZt
   go_wp2_with fail
   go_ret
   exact ⟨by have h := HZT.out; subst h; rfl, HB2.out.trans ((HB3.out.trans (HB.out.mono HB3.out.size)).mono HB2.out.size)⟩
theorem right_any (cf : Str.Cfg) (x : RR) (B : Nat) (w : World) (hx : x.In w B) (hB : B ≤ w.heap.size) :
  Calls Tryz.prog 79 #[cfV cf, .agg (rwL x).toArray] w fun e w' => e = .returned (.bool (Str.right cf x.r)) ∧ Below w.heap.size w w' := by
 by_cases hc : x.r.code = -1
 ·
  exact right_free cf x w hc hx.le
 ·
  by_cases hn : Str.codeB x.r = true
  ·
   exact right_yes cf x B w hc hx hB hn
  ·
   exact right_no cf x w hc hx.le hn
end S
end
section
namespace S
open Go.RowKit
section
end
namespace Str
def okAt (cf : Cfg) (l : List Rw) (i : Nat) : Bool := right cf (l.getD i free) && (List.range i).all fun k => !decide ((l.getD k free).code = (l.getD i free).code) || decide ((l.getD k free).width = (l.getD i free).width)
def validB (cf : Cfg) (l : List Rw) : Bool := cf.ok && decide ((l.length : Int) = cf.rows) && (List.range l.length).all (okAt cf l)
theorem validB_iff {cf : Cfg} {l : List Rw} : validB cf l = true ↔ Valid cf l := by
 unfold validB
 simp only [Bool.and_eq_true, decide_eq_true_iff, List.all_eq_true, List.mem_range]
 constructor
 ·
  rintro ⟨⟨h1, h2⟩, h3⟩
  refine ⟨h1, h2, fun r hr => ?_, fun r hr s hs e => ?_⟩
  ·
   obtain ⟨i, hi, rfl⟩ := List.getElem_of_mem hr
   have := h3 i hi
   unfold okAt at this
   rw [Bool.and_eq_true, getD_of (List.getElem?_eq_getElem hi)] at this
   exact right_iff.1 this.1
  ·
   obtain ⟨i, hi, rfl⟩ := List.getElem_of_mem hr
   obtain ⟨k, hk, rfl⟩ := List.getElem_of_mem hs
   have key : ∀ (i k : Nat) (hi : i < l.length) (hk : k < l.length), k < i → l[k].code = l[i].code → l[k].width = l[i].width := fun i k hi hk hki e => by
    have := h3 i hi
    unfold okAt at this
    rw [Bool.and_eq_true, List.all_eq_true] at this
    have := this.2 k (List.mem_range.2 hki)
    rw [getD_of (List.getElem?_eq_getElem hi), getD_of (List.getElem?_eq_getElem hk)] at this
    simpa [e] using this
   rcases Nat.lt_trichotomy i k with h | h | h
   ·
    exact key k i hk hi h e
   ·
    subst h; rfl
   ·
    exact (key i k hi hk h e.symm).symm
 ·
  rintro ⟨h1, h2, h3, h4⟩
  refine ⟨⟨h1, h2⟩, fun i hi => ?_⟩
  unfold okAt
  rw [Bool.and_eq_true, List.all_eq_true, getD_of (List.getElem?_eq_getElem hi)]
  refine ⟨right_iff.2 (h3 _ (List.getElem_mem hi)), fun k hk => ?_⟩
  have hk := List.mem_range.1 hk
  have hkl : k < l.length := by omega
  rw [getD_of (List.getElem?_eq_getElem hkl)]
  by_cases e : l[k].code = l[i].code
  ·
   simp [e, h4 _ (List.getElem_mem hkl) _ (List.getElem_mem hi) e]
  ·
   simp [e]
theorem validB_len {cf : Cfg} {l : List Rw} (h : ¬ (cf.ok = true ∧ (l.length : Int) = cf.rows)) : validB cf l = false := by
 unfold validB
 by_cases h1 : cf.ok = true
 ·
  have : ¬ (l.length : Int) = cf.rows := fun e => h ⟨h1, e⟩
  simp [this]
 ·
  simp [h1]
theorem validB_eq {cf : Cfg} {l : List Rw} (h1 : cf.ok = true) (h2 : (l.length : Int) = cf.rows) : validB cf l = (List.range l.length).all (okAt cf l) := by
 unfold validB; simp [h1, h2]
theorem all_no {f : Nat → Bool} {n i : Nat} (hi : i < n) (h : f i = false) : (List.range n).all f = false := by
 cases hc : (List.range n).all f with
 | false => rfl
 | true =>
  rw [List.all_eq_true] at hc
  rw [hc i (List.mem_range.2 hi)] at h; cases h
theorem all_yes {f : Nat → Bool} {n : Nat} (h : ∀ i, i < n → f i = true) : (List.range n).all f = true := by
 rw [List.all_eq_true]; exact fun i hi => h i (List.mem_range.1 hi)
end Str
namespace Str
theorem okAt_of {cf : Cfg} {l : List Rw} {i : Nat} {r : Rw} (h : l[i]? = some r) (h1 : right cf r = true) (h2 : ∀ k, k < i → ∀ s, l[k]? = some s → s.code = r.code → s.width = r.width) : okAt cf l i = true := by
 unfold okAt
 rw [getD_of h, h1, Bool.true_and]
 refine all_yes fun k hk => ?_
 have hk' : k < l.length := by have := (List.getElem?_eq_some_iff.1 h).1; omega
 rw [getD_of (List.getElem?_eq_getElem hk')]
 by_cases e : l[k].code = r.code
 ·
  simp [e, h2 k hk _ (List.getElem?_eq_getElem hk') e]
 ·
  simp [e]
theorem okAt_right {cf : Cfg} {l : List Rw} {i : Nat} {r : Rw} (h : l[i]? = some r) (h1 : right cf r = false) : okAt cf l i = false := by
 unfold okAt
 rw [getD_of h, h1, Bool.false_and]
theorem okAt_pair {cf : Cfg} {l : List Rw} {i k : Nat} {r s : Rw} (h : l[i]? = some r) (hk : k < i) (hs : l[k]? = some s) (e : s.code = r.code) (hw : s.width ≠ r.width) : okAt cf l i = false := by
 unfold okAt
 rw [getD_of h, all_no hk (by rw [getD_of hs]; simp [e, hw]), Bool.and_false]
end Str
set_option maxRecDepth 100000 in
set_option maxHeartbeats 6400000 in
theorem rvalid_any (cf : Str.Cfg) {w : World} {B n c : Nat} {A : Option Addr} {D : List RR} {l : List Str.Rw} (h : RowsIn w B A n D l) (hB : B ≤ w.heap.size) (hnc : n ≤ c) :
  Calls Tryz.prog 41 #[cfV cf, .slice A n c] w fun e w' => e = .returned (.bool (Str.validB cf l)) ∧ Below w.heap.size w w' := by
 have hmx := h.mx
 have HLN := Lib.hid h.len
 have HR := Lib.hid (h.more hB)
 have HCK := Lib.hid (fun W => rcheck_any cf W)
 have HRC := Lib.hid (fun (x : RR) (W : World) (hx : x.In W W.heap.size) => right_any cf x W.heap.size W hx (Nat.le_refl _))
 have HCV : Hid (cfV cf = .agg (cfL cf).toArray) := Lib.hid rfl
 have HCL : Hid ((cfL cf).length = 6 ∧ (cfL cf)[2]? = some (.int .i64 cf.rows)) := Lib.hid ⟨rfl, rfl⟩
 obtain ⟨f, hf⟩ : ∃ f, Str.okAt cf l = f := ⟨_, rfl⟩
 have HF := Lib.hid hf
 have HV1 := Lib.hid (fun h => Str.validB_len (cf := cf) (l := l) h)
 have HV2 := Lib.hid (fun h1 h2 => (Str.validB_eq (cf := cf) (l := l) h1 h2).trans (by rw [hf]))
 obtain ⟨Z, hZ⟩ : ∃ Z, Str.validB cf l = Z := ⟨_, rfl⟩
 rw [hZ] at HV1 HV2 ⊢
 obtain ⟨O, hO⟩ : ∃ O, cf.ok = O := ⟨_, rfl⟩
 rw [hO] at HV1 HV2 HCK
 obtain ⟨q, hq⟩ : ∃ q : Int, (if O = true then 0 else 1) = q := ⟨_, rfl⟩
 have HQ : Hid ((O = false ∧ q = 1) ∨ (O = true ∧ q = 0)) := Lib.hid (by rw [← hq]; cases O <;> simp)
 rw [hq] at HCK
 obtain ⟨R, hR⟩ : ∃ R, cf.rows = R := ⟨_, rfl⟩
 rw [hR] at HV1 HV2 HCL
 rw [HCV.out] at HCK HRC ⊢
 obtain ⟨cl, hcl⟩ : ∃ y, cfL cf = y := ⟨_, rfl⟩
 rw [hcl] at HCK HRC HCL ⊢
 have HHB := Lib.hid hB
 clear h hB hf hZ hO hcl hR hq
 go_enter Tryz.func41, Tryz.ntmps41
 go_upto_region 1 with (refine wpList_boxRow rfl _ (.tmp 0) rfl cl rfl rfl ?_; intro w1 r1 b1 z1; clear z1; simp only [put_some, List.setIfInBounds_toArray, List.set_cons_succ, List.set_cons_zero])
 have hrg : w1.rangeAt w.heap.size 0 cl := fun j v hv => by rw [Nat.zero_add, r1.cell]; exact hv
 have HCF := Lib.hid r1
 have HB1 := Lib.hid b1
 clear r1 b1
 go_upto_region 2 with (first
  | (refine wpList_load_rg rfl _ (.tmp 2) rfl w.heap.size 0 rfl cl _ hrg Tryz.underlying23 rfl (by rw [HCL.out.1]; exact sizeCf) ?_)
  | (go_at_call 52; refine (HCK.out _).mono ?_; rintro e w2 ⟨rfl, b2⟩))
 have HB2 := Lib.hid (HB1.out.trans (b2.mono HB1.out.size))
 have HB21 := Lib.hid b2
 have k2 : w2.cell? ⟨w.heap.size, 2, none⟩ = some (.int .i64 R) := ((HCF.out.below' b2).cell 2).trans HCL.out.2
 clear hrg b2
 have hq := HQ.out
 rcases hq with ⟨rfl, rfl⟩ | ⟨rfl, rfl⟩
 ·
  have HZ : Hid (Z = false) := Lib.hid (HV1.out (by rintro ⟨h, _⟩; cases h))
  go_wp2_with fail
  go_ret
  exact ⟨by have h := HZ.out; subst h; rfl, HB2.out⟩
 ·
  by_cases hln : (n : Int) = R
  ·
   have HV : Hid (Z = (List.range n).all f) := Lib.hid (by
    have := HV2.out rfl (by rw [HLN.out.2]; exact hln)
    rw [HLN.out.2] at this; exact this)
   have hlb : ((n : Int) != R) = false := by simp [hln]
   clear hln
   go_upto_region 5 with fail
   go_loopw [6, 7, 8] (fun u6 u7 u8 wr => ∃ i : Nat, i ≤ n ∧ u6 = .int .i64 (i : Int) ∧ Hid (∀ j, j < i → f j = true) ∧ Hid (Below w1.heap.size w1 wr)) (fun u6 _ _ _ => n - (intOf u6).toNat)
   case atStart => exact ⟨0, Nat.zero_le _, rfl, Lib.hid (fun j hj => absurd hj (Nat.not_lt_zero j)), HB21⟩
   case round =>
    obtain ⟨i, hi, rfl, HI, HB⟩ := hrel
    by_cases hlt : i < n
    ·
     obtain ⟨b, off, x, rfl, hbb, hxD, hxl, hxi, hrg, c0, c1, -⟩ := (HR.out.below (HB1.out.trans (HB.out.mono HB1.out.size))).at hlt
     have hbw : b < wr.heap.size := Nat.lt_of_lt_of_le hbb (HB1.out.trans (HB.out.mono HB1.out.size)).size
     have HRG : Hid (∀ V, Below wr.heap.size wr V → V.rangeAt b (off + i * 3) (rwL x)) := Lib.hid fun V hV j v hv => (hV.cell (p := ⟨b, off + i * 3 + j, none⟩) hbw).trans (hrg j v hv)
     have HX := Lib.hid (And.intro hxl (hxi.more (Nat.le_trans (Nat.le_refl _) (HB1.out.trans (HB.out.mono HB1.out.size)).size)))
     have HRX : Hid (∀ W, Below wr.heap.size wr W → Calls Tryz.prog 79 #[.agg cl.toArray, .agg (rwL x).toArray] W fun e w' => e = .returned (.bool (Str.right cf x.r)) ∧ Below W.heap.size W w') := Lib.hid fun W hW => HRC.out x W ((HX.out.2.below hW).more hW.size)
     obtain ⟨S1, hS1⟩ : ∃ S, Str.right cf x.r = S := ⟨_, rfl⟩
     rw [hS1] at HRX
     have HS1 := Lib.hid hS1
     have HCC := Lib.hid (fun (V : World) (hV : Below wr.heap.size wr V) => And.intro ((hV.cell (p := ⟨b, off + i * 3, none⟩) hbw).trans c0) ((hV.cell (p := ⟨b, off + i * 3 + 1, none⟩) hbw).trans c1))
     have HBW := Lib.hid hbw
     obtain ⟨xr, hxr⟩ : ∃ r, x.r = r := ⟨_, rfl⟩
     have e1 : (0 : Int) ≤ (i : Int) := by omega
     have e2 : (i : Int) < (n : Int) := by omega
     obtain ⟨rl, hrl⟩ : ∃ y, rwL x = y := ⟨_, rfl⟩
     have HRL : Hid (rl.length = 3) := Lib.hid (by rw [← hrl]; rfl)
     rw [hrl] at HRG HRX
     obtain ⟨xc, hxc⟩ : ∃ y, x.r.code = y := ⟨_, rfl⟩
     obtain ⟨xw, hxw⟩ : ∃ y, x.r.width = y := ⟨_, rfl⟩
     rw [hxc, hxw] at HCC
     have HXC := Lib.hid (And.intro hxc hxw)
     clear hxD hxl hxi hrg c0 c1 hbb hS1 hrl hxr hbw k2 hxc hxw
     go_upto_region 7 with fail
     have hv0 : Below wr.heap.size wr wr.drew := (Below.refl _ _).drew
     refine wp_region_held_drew (S := fun W => Below wr.heap.size wr W) (by kernel_rfl) (hv0) (fun hHeld => ?_)
     refine wpAnyH_take (i := 0) (oi := { dst := some 26, op := Op.load 23 (Operand.tmp 2), type := 23, pos := "ref.go:47", after := #[], guard := none }) (v := .agg cl.toArray) rfl (by kernel_rfl) (by kernel_rfl) (by kernel_rfl) (fun _ _ _ h => h) (yieldsIf_load_mid (by rfl) 23 (.tmp 2) rfl w.heap.size 0 rfl cl _ (fun V hV => fun j v hv => by rw [Nat.zero_add, (HCF.out.below' (HB.out.trans (hV.mono HB.out.size))).cell]; exact hv) Tryz.underlying23 rfl (by rw [HCL.out.1]; exact sizeCf)) (by assumption) ?_
     try simp only [PT]
     refine wpAnyH_take (i := 1) (oi := { dst := some 27, op := Op.move (Operand.tmp 1), type := 25, pos := "ref.go:47", after := #[], guard := none }) (v := ?v1_72) rfl (by kernel_rfl) (by kernel_rfl) (by kernel_rfl) (fun _ _ _ h => h) (Or.inl ⟨by rfl, ?h1_72⟩) (by assumption) ?r1_72
     case h1_72 =>
      intro W hSW
      try dsimp only at hSW
      go_simp
      try with_reducible rfl
     try simp only [PT]
     refine wpAnyH_take (i := 2) (oi := { dst := some 28, op := Op.move (Operand.tmp 6), type := 3, pos := "ref.go:47", after := #[], guard := none }) (v := ?v2_73) rfl (by kernel_rfl) (by kernel_rfl) (by kernel_rfl) (fun _ _ _ h => h) (Or.inl ⟨by rfl, ?h2_73⟩) (by assumption) ?r2_73
     case h2_73 =>
      intro W hSW
      try dsimp only at hSW
      go_simp
      try with_reducible rfl
     try simp only [PT]
     refine wpAnyH_take (i := 3) (oi := { dst := some 29, op := Op.indexAddr 25 (Operand.tmp 27) (Operand.tmp 28), type := 0, pos := "ref.go:47", after := #[{ on := 1, ground := Ground.data }, { on := 2, ground := Ground.data }], guard := none }) (v := ?v3_74) rfl (by kernel_rfl) (by kernel_rfl) (by kernel_rfl) (fun _ _ _ h => h) (Or.inl ⟨by rfl, ?h3_74⟩) (by assumption) ?r3_74
     case h3_74 =>
      intro W hSW
      try dsimp only at hSW
      go_simp
      try with_reducible rfl
     try simp only [PT]
     refine wpAnyH_take (i := 4) (oi := { dst := some 30, op := Op.load 102 (Operand.tmp 29), type := 102, pos := "ref.go:47", after := #[{ on := 3, ground := Ground.data }], guard := none }) (v := .agg rl.toArray) rfl (by kernel_rfl) (by kernel_rfl) (by kernel_rfl) (fun _ _ _ h => h) (yieldsIf_load_mid (by rfl) 102 (.tmp 29) rfl b (off + i * 3) rfl rl _ (fun V hV => HRG.out V hV) Tryz.underlying102 rfl (by rw [HRL.out]; exact sizeRw)) (by assumption) ?_
     try simp only [PT]
     refine wpAnyH_ready (rs := [5]) (by kernel_rfl) (by simp) ?_
     refine AllReadyH.cons (o := { dst := some 31, op := Op.call { callee := Callee.value (Operand.func 79), args := #[Operand.tmp 26, Operand.tmp 30], argTypes := #[23, 102] }, type := 4, pos := "ref.go:47", after := #[{ on := 0, ground := Ground.data }, { on := 4, ground := Ground.data }], guard := none }) rfl (fun K hK => ?_) AllReadyH.nil
     go_simp
     go_at_call 79
     refine (HRX.out wr.drew hv0).mono ?_
     rintro e w30 ⟨rfl, b30⟩
     have hv30 : Below wr.heap.size wr w30 := hv0.trans (b30.mono hv0.size)
     clear b30
     refine hK.out _ _ (hv30) (fun hHeld => ?_)
     clear hK K
     try simp only [PT]
     refine wpAnyH_take (i := 6) (oi := { dst := some 7, op := Op.assign (Operand.tmp 31), type := 4, pos := "ref.go:47", after := #[{ on := 5, ground := Ground.data }, { on := 5, ground := Ground.chain }, { on := 0, ground := Ground.phase }, { on := 1, ground := Ground.phase }, { on := 2, ground := Ground.phase }, { on := 3, ground := Ground.phase }, { on := 4, ground := Ground.phase }, { on := 5, ground := Ground.phase }], guard := none }) (v := ?v6_76) rfl (by kernel_rfl) (by kernel_rfl) (by kernel_rfl) (fun _ _ _ h => h) (Or.inl ⟨by rfl, ?h6_76⟩) (by assumption) ?r6_76
     case h6_76 =>
      intro W hSW
      try dsimp only at hSW
      go_simp
      try with_reducible rfl
     try simp only [PT]
     refine wpAnyH_done (by kernel_rfl) ?_ _
     have HBR := Lib.hid hv30
     have HBN := Lib.hid ((HB1.out.trans (HB.out.mono HB1.out.size)).trans (hv30.mono (HB1.out.trans (HB.out.mono HB1.out.size)).size))
     obtain ⟨wn, hwn⟩ : ∃ y, w30 = y := ⟨_, rfl⟩
     rw [hwn] at HBR HBN ⊢
     clear hv30 hHeld hwn
     cases S1 with
     | false =>
      have HZ : Hid (Z = false) := Lib.hid (by rw [HV.out]; exact Str.all_no hlt (by rw [← HF.out]; exact Str.okAt_right HX.out.1 HS1.out))
      go_wp2_with fail
      go_ret
      exact ⟨by have h := HZ.out; subst h; rfl, HBN.out⟩
     | true =>
      go_upto_region 11 with fail
      obtain ⟨wo, hwo⟩ : ∃ wo, wn = wo := ⟨_, rfl⟩
      rw [hwo] at HBN HBR ⊢
      clear hwo
      go_loopw [8] (fun u8 wx => ∃ (k : Nat), k ≤ i ∧ u8 = .int .i64 (k : Int) ∧ Hid (∀ k', k' < k → ∀ s, l[k']? = some s → s.code = xc → s.width = xw) ∧ Hid (∃ wy, wy = wx ∧ Below wo.heap.size wo wy)) (fun u8 _ => i - (intOf u8).toNat)
      case atStart => exact ⟨0, Nat.zero_le _, rfl, Lib.hid (fun k' hk => absurd hk (Nat.not_lt_zero k')), Lib.hid ⟨_, rfl, Below.refl _ _⟩⟩
      case round =>
       obtain ⟨k, hk, rfl, HP, HBY⟩ := hrel
       obtain ⟨wy, hwy, hby⟩ := HBY.out
       have HBY2 := Lib.hid hby
       have HBV := Lib.hid (HBR.out.trans (hby.mono HBR.out.size))
       obtain ⟨c0, c1⟩ := HCC.out wy HBV.out
       by_cases hkl : k < i
       ·
        obtain ⟨b', off', y, hA', hbb', hyD, hyl, hyi, -, d0, d1, -⟩ := (HR.out.below ((HB1.out.trans (HB.out.mono HB1.out.size)).trans (HBV.out.mono (HB1.out.trans (HB.out.mono HB1.out.size)).size))).at (k := k) (by omega)
        injection hA' with hA'
        injection hA' with hA1 hA2
        subst hA1 hA2
        have HY := Lib.hid hyl
        obtain ⟨yc, hyc⟩ : ∃ v, y.r.code = v := ⟨_, rfl⟩
        obtain ⟨yw, hyw⟩ : ∃ v, y.r.width = v := ⟨_, rfl⟩
        rw [hyc] at d0
        rw [hyw] at d1
        have HYC := Lib.hid (And.intro hyc hyw)
        have e3 : (0 : Int) ≤ (k : Int) := by omega
        have e4 : (k : Int) < (n : Int) := by omega
        rw [hwy] at c0 c1 d0 d1 HBY2 HBV
        clear hyD hyl hyi hbb' hyc hyw hwy hby HBY
        by_cases hc : yc = xc
        ·
         have hcb : (yc == xc) = true := by simp [hc]
         by_cases hw : yw = xw
         ·
          have hwb : (yw != xw) = false := by simp [hw]
          have HN : Hid (∀ k', k' < k + 1 → ∀ s, l[k']? = some s → s.code = xc → s.width = xw) := Lib.hid fun k' hk' s hs he => by
           rcases Nat.lt_or_ge k' k with h | h
           ·
            exact HP.out k' h s hs he
           ·
            obtain rfl : k' = k := by omega
            obtain rfl : s = y.r := Option.some.inj (hs.symm.trans HY.out)
            rw [HYC.out.2]; exact hw
          clear hc hw
          go_wp2_with fail
          go_quiet (fail)
          go_wp2_with fail
          go_roundw
          case rel => exact ⟨k + 1, by omega, by go_num, HN, Lib.hid ⟨_, rfl, below_drewN HBY2.out _⟩⟩
          case measure => simp [intOf]; omega
         ·
          have hwb : (yw != xw) = true := by simp [hw]
          have HZ : Hid (Z = false) := Lib.hid (by
           rw [HV.out]; refine Str.all_no hlt ?_
           rw [← HF.out]
           exact Str.okAt_pair HX.out.1 hkl HY.out (by rw [HYC.out.1, HXC.out.1]; exact hc) (by rw [HYC.out.2, HXC.out.2]; exact hw))
          clear hc hw
          go_wp2_with fail
          go_quiet (fail)
          go_wp2_with fail
          go_ret
          exact ⟨by have h := HZ.out; subst h; rfl, below_drewN (HBN.out.trans (HBY2.out.mono HBN.out.size)) _⟩
        ·
         have hcb : (yc == xc) = false := by simp [hc]
         have HN : Hid (∀ k', k' < k + 1 → ∀ s, l[k']? = some s → s.code = xc → s.width = xw) := Lib.hid fun k' hk' s hs he => by
          rcases Nat.lt_or_ge k' k with h | h
          ·
           exact HP.out k' h s hs he
          ·
           obtain rfl : k' = k := by omega
           obtain rfl : s = y.r := Option.some.inj (hs.symm.trans HY.out)
           rw [HYC.out.1] at he; exact absurd he hc
         clear hc
         go_wp2_with fail
         go_quiet (fail)
         go_wp2_with fail
         go_roundw
         case rel => exact ⟨k + 1, by omega, by go_num, HN, Lib.hid ⟨_, rfl, below_drewN HBY2.out _⟩⟩
         case measure => simp [intOf]; omega
       ·
        obtain rfl : k = i := by omega
        have HNX : Hid (∀ j, j < k + 1 → f j = true) := Lib.hid fun j hj => by
         rcases Nat.lt_or_ge j k with h | h
         ·
          exact HI.out j h
         ·
          obtain rfl : j = k := by omega
          rw [← HF.out]
          exact Str.okAt_of HX.out.1 HS1.out (fun k' hk' s hs he => by rw [HXC.out.2]; exact HP.out k' hk' s hs (by rw [he, HXC.out.1]))
        rw [hwy] at HBV HBY2
        clear hwy hby HBY c0 c1
        go_wp2_with fail
        go_roundw
        case rel => exact ⟨k + 1, by omega, by go_num, HNX, Lib.hid (HB.out.trans (HBV.out.mono HB.out.size))⟩
        case measure => simp [intOf]; omega
    ·
     obtain rfl : i = n := by omega
     have HZ : Hid (Z = true) := Lib.hid (by rw [HV.out]; exact Str.all_yes HI.out)
     go_wp2_with fail
     go_ret
     exact ⟨by have h := HZ.out; subst h; rfl, HB1.out.trans (HB.out.mono HB1.out.size)⟩
  ·
   have HZ : Hid (Z = false) := Lib.hid (HV1.out (by rintro ⟨_, h⟩; rw [HLN.out.2] at h; exact hln h))
   have hlb : ((n : Int) != R) = true := by simp [hln]
   clear hln
   go_wp2_with fail
   go_ret
   exact ⟨by have h := HZ.out; subst h; rfl, HB2.out⟩
end S
end
end Go.Proofs.YtfllkaeaanahmaaGreat
