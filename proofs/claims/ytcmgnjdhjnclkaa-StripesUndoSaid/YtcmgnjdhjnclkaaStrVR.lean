/- stripes.validRow. Conditions: the row is kept. -/
import Derived.Test.YtcmgnjdhjnclkaaStrU
namespace Go.Proofs.Ytcmgnjdhjnclkaa.S
set_option linter.unusedVariables false
set_option linter.unusedSimpArgs false
open Go.RowKit
set_option maxRecDepth 100000 in
set_option maxHeartbeats 3200000 in
theorem vrow_free (cf : Str.Cfg) (x : RR) (w : World) (hc : x.r.code = -1) (hx : x.r.used.length ≤ x.k) :
    Calls Try.prog 33 #[cfV cf, .agg (rwL x).toArray] w fun e w' => e = .returned (.bool (Str.right cf x.r)) ∧ Below w.heap.size w w' := by
  have hz : (decide (x.r.width = 0) = false ∧ Str.right cf x.r = false) ∨ (decide (x.r.width = 0) = true ∧ decide (x.r.used.length = 0) = Str.right cf x.r) := by
    unfold Str.right
    rw [if_pos hc]
    by_cases h1 : x.r.width = 0 <;> simp [h1]
  obtain ⟨Z, hZ⟩ : ∃ Z, Str.right cf x.r = Z := ⟨_, rfl⟩
  rw [hZ] at hz ⊢
  have HCV : Hid (cfV cf = .agg (cfL cf).toArray) := Lib.hid rfl
  rw [HCV.out]
  obtain ⟨cl, hcl⟩ : ∃ y, cfL cf = y := ⟨_, rfl⟩
  rw [hcl]
  obtain ⟨xw, hxw⟩ : ∃ y, x.r.width = y := ⟨_, rfl⟩
  obtain ⟨n, hn⟩ : ∃ y, x.r.used.length = y := ⟨_, rfl⟩
  have HRL : Hid (rwL x = [.int .i64 (-1), .int .i64 xw, .slice x.A n x.k]) := Lib.hid (by rw [← hxw, ← hn, ← hc]; rfl)
  rw [HRL.out]
  rw [hxw, hn] at hz
  rw [hn] at hx
  clear hZ HCV hcl HRL hc hxw hn
  have hz2 : (xw ≠ 0 ∧ Z = false) ∨ (xw = 0 ∧ decide (n = 0) = Z) := by
    rcases hz with ⟨h1, h2⟩ | ⟨h1, h2⟩
    · exact .inl ⟨of_decide_eq_false h1, h2⟩
    · exact .inr ⟨of_decide_eq_true h1, h2⟩
  clear hz
  rcases hz2 with ⟨h1, rfl⟩ | ⟨rfl, h2⟩
  · have hb : (xw == 0) = false := by simpa using h1
    go_enter Try.func33, Try.ntmps33
    go_upto_region 1 with (first
      | (refine wpList_boxRow rfl _ (.tmp 0) rfl cl rfl rfl ?_; intro w1 r1 b1 z1; clear z1; simp only [put_some, List.setIfInBounds_toArray, List.set_cons_succ, List.set_cons_zero])
      | (refine wpList_boxRow rfl _ (.tmp 1) rfl [.int .i64 (-1), .int .i64 xw, .slice x.A n x.k] rfl rfl ?_; intro w2 r2 b2 z2; clear z2; simp only [put_some, List.setIfInBounds_toArray, List.set_cons_succ, List.set_cons_zero]))
    have k0 := r2.cell 0
    have k1 := r2.cell 1
    dsimp only [List.getElem?_cons_zero, List.getElem?_cons_succ] at k0 k1
    go_wp2_with fail
    go_ret
    exact ⟨rfl, b1.trans (b2.mono b1.size)⟩
  · have hb : ((n : Int) == 0) = Z := by rw [← h2]; by_cases h : n = 0 <;> simp [h]
    clear h2
    go_enter Try.func33, Try.ntmps33
    go_upto_region 1 with (first
      | (refine wpList_boxRow rfl _ (.tmp 0) rfl cl rfl rfl ?_; intro w1 r1 b1 z1; clear z1; simp only [put_some, List.setIfInBounds_toArray, List.set_cons_succ, List.set_cons_zero])
      | (refine wpList_boxRow rfl _ (.tmp 1) rfl [.int .i64 (-1), .int .i64 0, .slice x.A n x.k] rfl rfl ?_; intro w2 r2 b2 z2; clear z2; simp only [put_some, List.setIfInBounds_toArray, List.set_cons_succ, List.set_cons_zero]))
    have k0 := r2.cell 0
    have k1 := r2.cell 1
    have k2 := r2.cell 2
    dsimp only [List.getElem?_cons_zero, List.getElem?_cons_succ] at k0 k1 k2
    go_wp2_with fail
    go_ret
    exact ⟨by first | rfl | (congr 2) | simpa using hb, b1.trans (b2.mono b1.size)⟩
set_option maxRecDepth 100000 in
set_option maxHeartbeats 3200000 in
theorem vrow_no (cf : Str.Cfg) (x : RR) (w : World) (hc : x.r.code ≠ -1) (hx : x.r.used.length ≤ x.k) (hn : ¬ Str.codeB x.r = true) :
    Calls Try.prog 33 #[cfV cf, .agg (rwL x).toArray] w fun e w' => e = .returned (.bool (Str.right cf x.r)) ∧ Below w.heap.size w w' := by
  have hz : Str.right cf x.r = false := by
    unfold Str.right
    rw [if_neg hc]
    cases h : Str.codeB x.r with
    | false => rfl
    | true => exact absurd h hn
  rw [hz]
  have hcs := Str.code_cases hn
  have HCV : Hid (cfV cf = .agg (cfL cf).toArray) := Lib.hid rfl
  rw [HCV.out]
  obtain ⟨cl, hcl⟩ : ∃ y, cfL cf = y := ⟨_, rfl⟩
  rw [hcl]
  obtain ⟨xc, hxc⟩ : ∃ y, x.r.code = y := ⟨_, rfl⟩
  obtain ⟨xw, hxw⟩ : ∃ y, x.r.width = y := ⟨_, rfl⟩
  obtain ⟨n, hn'⟩ : ∃ y, x.r.used.length = y := ⟨_, rfl⟩
  have HRL : Hid (rwL x = [.int .i64 xc, .int .i64 xw, .slice x.A n x.k]) := Lib.hid (by rw [← hxw, ← hn', ← hxc]; rfl)
  rw [HRL.out]
  rw [hxc, hxw, hn'] at hcs
  rw [hn'] at hx
  rw [hxc] at hc
  have hb : (xc == -1) = false := by simpa using hc
  clear hz HCV hcl HRL hc hxw hn' hxc hn
  rcases hcs with h | ⟨h1, h⟩ | ⟨h1, h2, h⟩ | ⟨h1, h2, h3, h⟩ | ⟨h1, h2, h3, h4, rfl⟩
  all_goals
    go_enter Try.func33, Try.ntmps33
    go_upto_region 1 with (first
      | (refine wpList_boxRow rfl _ (.tmp 0) rfl cl rfl rfl ?_; intro w1 r1 b1 z1; clear z1; simp only [put_some, List.setIfInBounds_toArray, List.set_cons_succ, List.set_cons_zero])
      | (refine wpList_boxRow rfl _ (.tmp 1) rfl [.int .i64 xc, .int .i64 xw, .slice x.A _ x.k] rfl rfl ?_; intro w2 r2 b2 z2; clear z2; simp only [put_some, List.setIfInBounds_toArray, List.set_cons_succ, List.set_cons_zero]))
    have k0 := r2.cell 0
    have k1 := r2.cell 1
    have k2 := r2.cell 2
    dsimp only [List.getElem?_cons_zero, List.getElem?_cons_succ] at k0 k1 k2
    go_wp2_with fail
    go_ret
    exact ⟨rfl, b1.trans (b2.mono b1.size)⟩
set_option maxRecDepth 100000 in
set_option maxHeartbeats 6400000 in
theorem vrow_yes (cf : Str.Cfg) (x : RR) (B : Nat) (w : World) (hc : x.r.code ≠ -1) (hx : x.In w B) (hB : B ≤ w.heap.size) (hn : Str.codeB x.r = true) :
    Calls Try.prog 33 #[cfV cf, .agg (rwL x).toArray] w fun e w' => e = .returned (.bool (Str.right cf x.r)) ∧ Below w.heap.size w w' := by
  have hz : Str.right cf x.r = Str.ascB (Str.grp cf x.r.width) 0 x.r.used := by
    unfold Str.right
    rw [if_neg hc, hn, Bool.true_and]
  unfold Str.codeB at hn
  simp only [Bool.and_eq_true, decide_eq_true_iff] at hn
  obtain ⟨⟨⟨⟨h1, h2⟩, h3⟩, h4⟩, h5⟩ := hn
  rw [hz]
  have HX := Lib.hid hx
  have hle := hx.le
  have hmx := hx.mx
  have HG := Lib.hid (fun W => groups_any cf x.r.width W)
  have HCV : Hid (cfV cf = .agg (cfL cf).toArray) := Lib.hid rfl
  have HCL : Hid ((cfL cf).length = 6) := Lib.hid rfl
  rw [HCV.out] at HG ⊢
  obtain ⟨cl, hcl⟩ : ∃ y, cfL cf = y := ⟨_, rfl⟩
  rw [hcl] at HG HCL ⊢
  obtain ⟨G, hG⟩ : ∃ y, Str.grp cf x.r.width = y := ⟨_, rfl⟩
  rw [hG] at HG ⊢
  obtain ⟨xc, hxc⟩ : ∃ y, x.r.code = y := ⟨_, rfl⟩
  obtain ⟨xw, hxw⟩ : ∃ y, x.r.width = y := ⟨_, rfl⟩
  obtain ⟨n, hn'⟩ : ∃ y, x.r.used.length = y := ⟨_, rfl⟩
  have HRL : Hid (rwL x = [.int .i64 xc, .int .i64 xw, .slice x.A n x.k]) := Lib.hid (by rw [← hxw, ← hn', ← hxc]; rfl)
  have HN := Lib.hid hn'
  rw [HRL.out]
  rw [hxc] at hc h1 h2
  rw [hxw] at h3 h4 HG
  rw [hn'] at h5 hle hmx
  have hb : (xc == -1) = false := by simpa using hc
  have d1 : ¬ xc < 0 := by omega
  have d2 : ¬ xc ≥ 8 := by omega
  have d3 : ¬ xw < 1 := by omega
  have d4 : ¬ xw > 32 := by omega
  have d5 : ¬ n = 0 := by omega
  obtain ⟨Z, hZ⟩ : ∃ Z, Str.ascB G 0 x.r.used = Z := ⟨_, rfl⟩
  rw [hZ]
  have HZ := Lib.hid hZ
  have HHB := Lib.hid hB
  clear hz hcl hc hxw hn' hxc hx hG hZ hB HRL HCV h1 h2 h3 h4 h5
  obtain ⟨A, hA⟩ : ∃ A, x.A = A := ⟨_, rfl⟩
  obtain ⟨q, hq⟩ : ∃ q, x.k = q := ⟨_, rfl⟩
  have HA := Lib.hid hA
  rw [hq] at hle
  rw [hA, hq]
  clear hA hq
  go_enter Try.func33, Try.ntmps33
  go_upto_region 1 with (first
    | (refine wpList_boxRow rfl _ (.tmp 0) rfl cl rfl rfl ?_; intro w1 r1 b1 z1; clear z1; simp only [put_some, List.setIfInBounds_toArray, List.set_cons_succ, List.set_cons_zero])
    | (refine wpList_boxRow rfl _ (.tmp 1) rfl [.int .i64 xc, .int .i64 xw, .slice A n q] rfl rfl ?_; intro w2 r2 b2 z2; clear z2; simp only [put_some, List.setIfInBounds_toArray, List.set_cons_succ, List.set_cons_zero]))
  have k0 := r2.cell 0
  have k1 := r2.cell 1
  have k2 := r2.cell 2
  dsimp only [List.getElem?_cons_zero, List.getElem?_cons_succ] at k0 k1 k2
  have HB2 := Lib.hid (b1.trans (b2.mono b1.size))
  have rc2 := r1.below' b2
  have hrg : w2.rangeAt w.heap.size 0 cl := fun j v hv => by rw [Nat.zero_add, rc2.cell]; exact hv
  have HR2 := Lib.hid r2
  clear b1 b2 r1 rc2 r2
  go_upto_region 6 with (first
    | (refine wpList_load_rg rfl _ (.tmp 2) rfl w.heap.size 0 rfl cl _ hrg Try.underlying23 rfl (by rw [HCL.out]; exact sizeCf) ?_)
    | (go_at_call 15; refine (HG.out _).mono ?_; rintro e w3 ⟨rfl, b3⟩; have HB3 := Lib.hid b3; have k2' := (HR2.out.below' b3).cell 2; dsimp only [List.getElem?_cons_zero, List.getElem?_cons_succ] at k2'; clear b3))
  clear k0 k1 k2 hrg
  go_upto_region 7 with fail
  go_loopw [5, 8, 52] (fun u5 _ u52 wr => ∃ (j : Nat) (la : Int), j ≤ n ∧ u52 = .int .i64 (j : Int) ∧ u5 = .int .i64 la ∧ Hid (Str.ascB G (la + 1) (x.r.used.drop j) = Z) ∧ Hid (Below w3.heap.size w3 wr)) (fun _ _ u52 _ => n - (intOf u52).toNat)
  case atStart => exact ⟨0, -1, Nat.zero_le _, rfl, rfl, Lib.hid HZ.out, Lib.hid (Below.refl _ _)⟩
  case round =>
    obtain ⟨j, la, hj, rfl, rfl, HAS, HB⟩ := hrel
    by_cases hlt : j < n
    · have hju : j < x.r.used.length := by rw [HN.out]; exact hlt
      obtain ⟨b, off, hA, hbb, hrg, -⟩ := ((HX.out.below ((HB2.out.trans (HB3.out.mono HB2.out.size)).mono HHB.out)).below (HB.out.mono (by have h1 := HHB.out; have h2 := HB2.out.size; have h3 := HB3.out.size; omega))).at hju
      obtain rfl : A = some ⟨b, off, none⟩ := HA.out.symm.trans hA
      have hstep : Str.ascB G (la + 1) (x.r.used.drop j) = (decide (la + 1 ≤ x.r.used[j].g) && decide (x.r.used[j].g < G) && Str.ascB G (x.r.used[j].g + 1) (x.r.used.drop (j + 1))) := by rw [List.drop_eq_getElem_cons hju]; rfl
      rw [HAS.out] at hstep
      obtain ⟨u, hu⟩ : ∃ u, x.r.used[j] = u := ⟨_, rfl⟩
      rw [hu] at hrg hstep
      obtain ⟨ug, ue, uc⟩ := u
      dsimp only at hstep
      have HS := Lib.hid hstep
      have e1 : (0 : Int) ≤ (j : Int) := by omega
      have e2 : (j : Int) < (n : Int) := by omega
      clear hA hu hstep
      by_cases c1 : ug ≤ la
      · have HZF : Hid (Z = false) := Lib.hid (by rw [HS.out, decide_eq_false (by omega : ¬ la + 1 ≤ ug)]; rfl)
        go_wp2_with (first
          | (refine wpList_load_rg rfl _ (.tmp 54) rfl b (off + j * 3) rfl [.int .i64 ug, .int .i64 ue, .int .i64 uc] _ hrg Try.underlying37 rfl sizeUs ?_)
          | (refine wpList_allocRow rfl _ rfl _ infoUs ?_; intro w4 r4 b4 z4; clear z4)
          | (refine wpList_storeRow rfl _ (.tmp 8) (.tmp 55) rfl (l' := [.int .i64 ug, .int .i64 ue, .int .i64 uc]) r4 rfl rfl sizeUs rfl rfl ?_; intro w5 r5 g5 z5; clear z5 r4; have b5 := b4.grown g5 b4.size (fun k e => by have := Option.some.inj e; omega); clear b4 g5; have kg := r5.cell 0; dsimp only [List.getElem?_cons_zero] at kg))
        go_ret
        exact ⟨by have h := HZF.out; subst h; rfl, HB2.out.trans ((HB3.out.trans ((HB.out.trans (b5.mono HB.out.size)).mono HB3.out.size)).mono HB2.out.size)⟩
      · by_cases c2 : ug ≥ G
        · have HZF : Hid (Z = false) := Lib.hid (by rw [HS.out, decide_eq_false (by omega : ¬ ug < G), Bool.and_false]; rfl)
          go_wp2_with (first
            | (refine wpList_load_rg rfl _ (.tmp 54) rfl b (off + j * 3) rfl [.int .i64 ug, .int .i64 ue, .int .i64 uc] _ hrg Try.underlying37 rfl sizeUs ?_)
            | (refine wpList_allocRow rfl _ rfl _ infoUs ?_; intro w4 r4 b4 z4; clear z4)
            | (refine wpList_storeRow rfl _ (.tmp 8) (.tmp 55) rfl (l' := [.int .i64 ug, .int .i64 ue, .int .i64 uc]) r4 rfl rfl sizeUs rfl rfl ?_; intro w5 r5 g5 z5; clear z5 r4; have b5 := b4.grown g5 b4.size (fun k e => by have := Option.some.inj e; omega); clear b4 g5; have kg := r5.cell 0; dsimp only [List.getElem?_cons_zero] at kg))
          go_ret
          exact ⟨by have h := HZF.out; subst h; rfl, HB2.out.trans ((HB3.out.trans ((HB.out.trans (b5.mono HB.out.size)).mono HB3.out.size)).mono HB2.out.size)⟩
        · have HZN : Hid (Str.ascB G (ug + 1) (x.r.used.drop (j + 1)) = Z) := Lib.hid (by rw [HS.out, decide_eq_true (by omega : la + 1 ≤ ug), decide_eq_true (by omega : ug < G)]; rfl)
          go_wp2_with (first
            | (refine wpList_load_rg rfl _ (.tmp 54) rfl b (off + j * 3) rfl [.int .i64 ug, .int .i64 ue, .int .i64 uc] _ hrg Try.underlying37 rfl sizeUs ?_)
            | (refine wpList_allocRow rfl _ rfl _ infoUs ?_; intro w4 r4 b4 z4; clear z4)
            | (refine wpList_storeRow rfl _ (.tmp 8) (.tmp 55) rfl (l' := [.int .i64 ug, .int .i64 ue, .int .i64 uc]) r4 rfl rfl sizeUs rfl rfl ?_; intro w5 r5 g5 z5; clear z5 r4; have b5 := b4.grown g5 b4.size (fun k e => by have := Option.some.inj e; omega); clear b4 g5; have kg := r5.cell 0; dsimp only [List.getElem?_cons_zero] at kg))
          go_roundw
          case rel => exact ⟨j + 1, ug, by omega, by go_num, rfl, HZN, Lib.hid (HB.out.trans (b5.mono HB.out.size))⟩
          case measure => simp [intOf]; omega
    · obtain rfl : j = n := by omega
      have hZt : Z = true := by have := HAS.out; rw [List.drop_of_length_le (by rw [HN.out]; exact Nat.le_refl _)] at this; exact this.symm
      have HZT := Lib.hid hZt
      clear hZt
      go_wp2_with fail
      go_ret
      exact ⟨by have h := HZT.out; subst h; rfl, HB2.out.trans ((HB3.out.trans (HB.out.mono HB3.out.size)).mono HB2.out.size)⟩
/-- validRow -/
theorem vrow_any (cf : Str.Cfg) (x : RR) (B : Nat) (w : World) (hx : x.In w B) (hB : B ≤ w.heap.size) :
    Calls Try.prog 33 #[cfV cf, .agg (rwL x).toArray] w fun e w' => e = .returned (.bool (Str.right cf x.r)) ∧ Below w.heap.size w w' := by
  by_cases hc : x.r.code = -1
  · exact vrow_free cf x w hc hx.le
  · by_cases hn : Str.codeB x.r = true
    · exact vrow_yes cf x B w hc hx hB hn
    · exact vrow_no cf x w hc hx.le hn
end Go.Proofs.Ytcmgnjdhjnclkaa.S
