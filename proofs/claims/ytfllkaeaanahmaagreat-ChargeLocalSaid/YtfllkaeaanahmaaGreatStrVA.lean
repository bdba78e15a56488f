/- Joined texts: StrVR, StrVA. Conditions: as each part says. -/
import Derived.Test.YtfllkaeaanahmaaGreatStrX
import Derived.Test.YtfllkaeaanahmaaGreatStrE
import Derived.Test.YtfllkaeaanahmaaGreatMaps
import Derived.Carry
namespace Go.Proofs.YtfllkaeaanahmaaGreat
set_option linter.unusedVariables false
set_option linter.unusedSimpArgs false
section
namespace S
open Go.RowKit
set_option maxRecDepth 100000 in
set_option maxHeartbeats 3200000 in
theorem vrow_free (cf : Str.Cfg) (x : RR) (w : World) (hc : x.r.code = -1) (hx : x.r.used.length ≤ x.k) :
  Calls Tryz.prog 76 #[cfV cf, .agg (rwL x).toArray] w fun e w' => e = .returned (.bool (Str.right cf x.r)) ∧ Below w.heap.size w w' := by
 have hz : (decide (x.r.width = 0) = false ∧ Str.right cf x.r = false) ∨ (decide (x.r.width = 0) = true ∧ decide (x.r.used.length = 0) = Str.right cf x.r) := by
  unfold Str.right
  rw [if_pos hc]
  by_cases h1 : x.r.width = 0 <;> simp [h1]
 obtain ⟨Z, hZ⟩ : ∃ Z, Str.right cf x.r = Z := ⟨_, rfl⟩
 rw [hZ] at hz ⊢
 have HCV : Hid (cfV cf = .agg (cfL cf).toArray) := Lib.hid rfl
 rw [HCV.out]
 obtain ⟨cl, hcl⟩ : ∃ y, cfL cf = y := ⟨_, rfl⟩
 rw [hcl]
 obtain ⟨xw, hxw⟩ : ∃ y, x.r.width = y := ⟨_, rfl⟩
 obtain ⟨n, hn⟩ : ∃ y, x.r.used.length = y := ⟨_, rfl⟩
 have HRL : Hid (rwL x = [.int .i64 (-1), .int .i64 xw, .slice x.A n x.k]) := Lib.hid (by rw [← hxw, ← hn, ← hc]; rfl)
 rw [HRL.out]
 rw [hxw, hn] at hz
 rw [hn] at hx
 clear hZ HCV hcl HRL hc hxw hn
 have hz2 : (xw ≠ 0 ∧ Z = false) ∨ (xw = 0 ∧ decide (n = 0) = Z) := by
  rcases hz with ⟨h1, h2⟩ | ⟨h1, h2⟩
  ·
   exact .inl ⟨of_decide_eq_false h1, h2⟩
  ·
   exact .inr ⟨of_decide_eq_true h1, h2⟩
 clear hz
 rcases hz2 with ⟨h1, rfl⟩ | ⟨rfl, h2⟩
 ·
  have hb : (xw == 0) = false := by simpa using h1
  go_enter Tryz.func76, Tryz.ntmps76
  go_upto_region 1 with (first
   | (refine wpList_boxRow rfl _ (.tmp 0) rfl cl rfl rfl ?_; intro w1 r1 b1 z1; clear z1; simp only [put_some, List.setIfInBounds_toArray, List.set_cons_succ, List.set_cons_zero])
   | (refine wpList_boxRow rfl _ (.tmp 1) rfl [.int .i64 (-1), .int .i64 xw, .slice x.A n x.k] rfl rfl ?_; intro w2 r2 b2 z2; clear z2; simp only [put_some, List.setIfInBounds_toArray, List.set_cons_succ, List.set_cons_zero]))
  have k0 := r2.cell 0
  have k1 := r2.cell 1
  dsimp only [List.getElem?_cons_zero, List.getElem?_cons_succ] at k0 k1
  go_wp2_with fail
  go_ret
  exact ⟨rfl, b1.trans (b2.mono b1.size)⟩
 ·
  have hb : ((n : Int) == 0) = Z := by rw [← h2]; by_cases h : n = 0 <;> simp [h]
  clear h2
  go_enter Tryz.func76, Tryz.ntmps76
  go_upto_region 1 with (first
   | (refine wpList_boxRow rfl _ (.tmp 0) rfl cl rfl rfl ?_; intro w1 r1 b1 z1; clear z1; simp only [put_some, List.setIfInBounds_toArray, List.set_cons_succ, List.set_cons_zero])
   | (refine wpList_boxRow rfl _ (.tmp 1) rfl [.int .i64 (-1), .int .i64 0, .slice x.A n x.k] rfl rfl ?_; intro w2 r2 b2 z2; clear z2; simp only [put_some, List.setIfInBounds_toArray, List.set_cons_succ, List.set_cons_zero]))
  have k0 := r2.cell 0
  have k1 := r2.cell 1
  have k2 := r2.cell 2
  dsimp only [List.getElem?_cons_zero, List.getElem?_cons_succ] at k0 k1 k2
  go_wp2_with fail
  go_ret
  exact ⟨by first | rfl | (congr 2) | simpa using hb, b1.trans (b2.mono b1.size)⟩
set_option maxRecDepth 100000 in
set_option maxHeartbeats 3200000 in
theorem vrow_no (cf : Str.Cfg) (x : RR) (w : World) (hc : x.r.code ≠ -1) (hx : x.r.used.length ≤ x.k) (hn : ¬ Str.codeB x.r = true) :
  Calls Tryz.prog 76 #[cfV cf, .agg (rwL x).toArray] w fun e w' => e = .returned (.bool (Str.right cf x.r)) ∧ Below w.heap.size w w' := by
 have hz : Str.right cf x.r = false := by
  unfold Str.right
  rw [if_neg hc]
  cases h : Str.codeB x.r with
  | false => rfl
  | true => exact absurd h hn
 rw [hz]
 have hcs := Str.code_cases hn
 have HCV : Hid (cfV cf = .agg (cfL cf).toArray) := Lib.hid rfl
 rw [HCV.out]
 obtain ⟨cl, hcl⟩ : ∃ y, cfL cf = y := ⟨_, rfl⟩
 rw [hcl]
 obtain ⟨xc, hxc⟩ : ∃ y, x.r.code = y := ⟨_, rfl⟩
 obtain ⟨xw, hxw⟩ : ∃ y, x.r.width = y := ⟨_, rfl⟩
 obtain ⟨n, hn'⟩ : ∃ y, x.r.used.length = y := ⟨_, rfl⟩
 have HRL : Hid (rwL x = [.int .i64 xc, .int .i64 xw, .slice x.A n x.k]) := Lib.hid (by rw [← hxw, ← hn', ← hxc]; rfl)
 rw [HRL.out]
 rw [hxc, hxw, hn'] at hcs
 rw [hn'] at hx
 rw [hxc] at hc
 have hb : (xc == -1) = false := by simpa using hc
 clear hz HCV hcl HRL hc hxw hn' hxc hn
 rcases hcs with h | ⟨h1, h⟩ | ⟨h1, h2, h⟩ | ⟨h1, h2, h3, h⟩ | ⟨h1, h2, h3, h4, rfl⟩
 all_goals
  go_enter Tryz.func76, Tryz.ntmps76
  go_upto_region 1 with (first
   | (refine wpList_boxRow rfl _ (.tmp 0) rfl cl rfl rfl ?_; intro w1 r1 b1 z1; clear z1; simp only [put_some, List.setIfInBounds_toArray, List.set_cons_succ, List.set_cons_zero])
   | (refine wpList_boxRow rfl _ (.tmp 1) rfl [.int .i64 xc, .int .i64 xw, .slice x.A _ x.k] rfl rfl ?_; intro w2 r2 b2 z2; clear z2; simp only [put_some, List.setIfInBounds_toArray, List.set_cons_succ, List.set_cons_zero]))
  have k0 := r2.cell 0
  have k1 := r2.cell 1
  have k2 := r2.cell 2
  dsimp only [List.getElem?_cons_zero, List.getElem?_cons_succ] at k0 k1 k2
  go_wp2_with fail
  go_ret
  exact ⟨rfl, b1.trans (b2.mono b1.size)⟩
set_option maxRecDepth 100000 in
set_option maxHeartbeats 6400000 in
theorem vrow_yes (cf : Str.Cfg) (x : RR) (B : Nat) (w : World) (hc : x.r.code ≠ -1) (hx : x.In w B) (hB : B ≤ w.heap.size) (hn : Str.codeB x.r = true) :
  Calls Tryz.prog 76 #[cfV cf, .agg (rwL x).toArray] w fun e w' => e = .returned (.bool (Str.right cf x.r)) ∧ Below w.heap.size w w' := by
 have hz : Str.right cf x.r = Str.ascB (Str.grp cf x.r.width) 0 x.r.used := by
  unfold Str.right
  rw [if_neg hc, hn, Bool.true_and]
 unfold Str.codeB at hn
 simp only [Bool.and_eq_true, decide_eq_true_iff] at hn
 obtain ⟨⟨⟨⟨h1, h2⟩, h3⟩, h4⟩, h5⟩ := hn
 rw [hz]
 have HX := Lib.hid hx
 have hle := hx.le
 have hmx := hx.mx
 have HG := Lib.hid (fun W => groups_any cf x.r.width W)
 have HCV : Hid (cfV cf = .agg (cfL cf).toArray) := Lib.hid rfl
 have HCL : Hid ((cfL cf).length = 6) := Lib.hid rfl
 rw [HCV.out] at HG ⊢
 obtain ⟨cl, hcl⟩ : ∃ y, cfL cf = y := ⟨_, rfl⟩
 rw [hcl] at HG HCL ⊢
 obtain ⟨G, hG⟩ : ∃ y, Str.grp cf x.r.width = y := ⟨_, rfl⟩
 rw [hG] at HG ⊢
 obtain ⟨xc, hxc⟩ : ∃ y, x.r.code = y := ⟨_, rfl⟩
 obtain ⟨xw, hxw⟩ : ∃ y, x.r.width = y := ⟨_, rfl⟩
 obtain ⟨n, hn'⟩ : ∃ y, x.r.used.length = y := ⟨_, rfl⟩
 have HRL : Hid (rwL x = [.int .i64 xc, .int .i64 xw, .slice x.A n x.k]) := Lib.hid (by rw [← hxw, ← hn', ← hxc]; rfl)
 have HN := Lib.hid hn'
 rw [HRL.out]
 rw [hxc] at hc h1 h2
 rw [hxw] at h3 h4 HG
 rw [hn'] at h5 hle hmx
 have hb : (xc == -1) = false := by simpa using hc
 have d1 : ¬ xc < 0 := by omega
 have d2 : ¬ xc ≥ 8 := by omega
 have d3 : ¬ xw < 1 := by omega
 have d4 : ¬ xw > 32 := by omega
 have d5 : ¬ n = 0 := by omega
 obtain ⟨Z, hZ⟩ : ∃ Z, Str.ascB G 0 x.r.used = Z := ⟨_, rfl⟩
 rw [hZ]
 have HZ := Lib.hid hZ
 have HHB := Lib.hid hB
 clear hz hcl hc hxw hn' hxc hx hG hZ hB HRL HCV h1 h2 h3 h4 h5
 obtain ⟨A, hA⟩ : ∃ A, x.A = A := ⟨_, rfl⟩
 obtain ⟨q, hq⟩ : ∃ q, x.k = q := ⟨_, rfl⟩
 have HA := Lib.hid hA
 rw [hq] at hle
 rw [hA, hq]
 clear hA hq
 go_enter Tryz.func76, Tryz.ntmps76
 go_upto_region 1 with (first
  | (refine wpList_boxRow rfl _ (.tmp 0) rfl cl rfl rfl ?_; intro w1 r1 b1 z1; clear z1; simp only [put_some, List.setIfInBounds_toArray, List.set_cons_succ, List.set_cons_zero])
  | (refine wpList_boxRow rfl _ (.tmp 1) rfl [.int .i64 xc, .int .i64 xw, .slice A n q] rfl rfl ?_; intro w2 r2 b2 z2; clear z2; simp only [put_some, List.setIfInBounds_toArray, List.set_cons_succ, List.set_cons_zero]))
 have k0 := r2.cell 0
 have k1 := r2.cell 1
 have k2 := r2.cell 2
 dsimp only [List.getElem?_cons_zero, List.getElem?_cons_succ] at k0 k1 k2
 have HB2 := Lib.hid (b1.trans (b2.mono b1.size))
 have rc2 := r1.below' b2
 have hrg : w2.rangeAt w.heap.size 0 cl := fun j v hv => by rw [Nat.zero_add, rc2.cell]; exact hv
 have HR2 := Lib.hid r2
 clear b1 b2 r1 rc2 r2
 go_upto_region 6 with (first
  | (refine wpList_load_rg rfl _ (.tmp 2) rfl w.heap.size 0 rfl cl _ hrg Tryz.underlying23 rfl (by rw [HCL.out]; exact sizeCf) ?_)
  | (go_at_call 105; refine (HG.out _).mono ?_; rintro e w3 ⟨rfl, b3⟩; have HB3 := Lib.hid b3; have k2' := (HR2.out.below' b3).cell 2; dsimp only [List.getElem?_cons_zero, List.getElem?_cons_succ] at k2'; clear b3))
 clear k0 k1 k2 hrg
 go_upto_region 7 with fail
 go_loopw [5, 8, 52] (fun u5 _ u52 wr => ∃ (j : Nat) (la : Int), j ≤ n ∧ u52 = .int .i64 (j : Int) ∧ u5 = .int .i64 la ∧ Hid (Str.ascB G (la + 1) (x.r.used.drop j) = Z) ∧ Hid (Below w3.heap.size w3 wr)) (fun _ _ u52 _ => n - (intOf u52).toNat)
 case atStart => exact ⟨0, -1, Nat.zero_le _, rfl, rfl, Lib.hid HZ.out, Lib.hid (Below.refl _ _)⟩
 case round =>
  obtain ⟨j, la, hj, rfl, rfl, HAS, HB⟩ := hrel
  by_cases hlt : j < n
  ·
   have hju : j < x.r.used.length := by rw [HN.out]; exact hlt
   obtain ⟨b, off, hA, hbb, hrg, -⟩ := ((HX.out.below ((HB2.out.trans (HB3.out.mono HB2.out.size)).mono HHB.out)).below (HB.out.mono (by have h1 := HHB.out; have h2 := HB2.out.size; have h3 := HB3.out.size; omega))).at hju
   obtain rfl : A = some ⟨b, off, none⟩ := HA.out.symm.trans hA
   have hstep : Str.ascB G (la + 1) (x.r.used.drop j) = (decide (la + 1 ≤ x.r.used[j].g) && decide (x.r.used[j].g < G) && Str.ascB G (x.r.used[j].g + 1) (x.r.used.drop (j + 1))) := by rw [List.drop_eq_getElem_cons hju]; rfl
   rw [HAS.out] at hstep
   obtain ⟨u, hu⟩ : ∃ u, x.r.used[j] = u := ⟨_, rfl⟩
   rw [hu] at hrg hstep
   obtain ⟨ug, ue, uc⟩ := u
   dsimp only at hstep
   have HS := Lib.hid hstep
   have e1 : (0 : Int) ≤ (j : Int) := by omega
   have e2 : (j : Int) < (n : Int) := by omega
   clear hA hu hstep
   by_cases c1 : ug ≤ la
   ·
    have HZF : Hid (Z = false) := Lib.hid (by rw [HS.out, decide_eq_false (by omega : ¬ la + 1 ≤ ug)]; rfl)
    go_wp2_with (first
     | (refine wpList_load_rg rfl _ (.tmp 54) rfl b (off + j * 3) rfl [.int .i64 ug, .int .i64 ue, .int .i64 uc] _ hrg Tryz.underlying72 rfl sizeUs ?_)
     | (refine wpList_allocRow rfl _ rfl _ infoUs ?_; intro w4 r4 b4 z4; clear z4)
     | (refine wpList_storeRow rfl _ (.tmp 8) (.tmp 55) rfl (l' := [.int .i64 ug, .int .i64 ue, .int .i64 uc]) r4 rfl rfl sizeUs rfl rfl ?_; intro w5 r5 g5 z5; clear z5 r4; have b5 := b4.grown g5 b4.size (fun k e => by have := Option.some.inj e; omega); clear b4 g5; have kg := r5.cell 0; dsimp only [List.getElem?_cons_zero] at kg))
    go_ret
    exact ⟨by have h := HZF.out; subst h; rfl, HB2.out.trans ((HB3.out.trans ((HB.out.trans (b5.mono HB.out.size)).mono HB3.out.size)).mono HB2.out.size)⟩
   ·
    by_cases c2 : ug ≥ G
    ·
     have HZF : Hid (Z = false) := Lib.hid (by rw [HS.out, decide_eq_false (by omega : ¬ ug < G), Bool.and_false]; rfl)
     go_wp2_with (first
      | (refine wpList_load_rg rfl _ (.tmp 54) rfl b (off + j * 3) rfl [.int .i64 ug, .int .i64 ue, .int .i64 uc] _ hrg Tryz.underlying72 rfl sizeUs ?_)
      | (refine wpList_allocRow rfl _ rfl _ infoUs ?_; intro w4 r4 b4 z4; clear z4)
      | (refine wpList_storeRow rfl _ (.tmp 8) (.tmp 55) rfl (l' := [.int .i64 ug, .int .i64 ue, .int .i64 uc]) r4 rfl rfl sizeUs rfl rfl ?_; intro w5 r5 g5 z5; clear z5 r4; have b5 := b4.grown g5 b4.size (fun k e => by have := Option.some.inj e; omega); clear b4 g5; have kg := r5.cell 0; dsimp only [List.getElem?_cons_zero] at kg))
     go_ret
     exact ⟨by have h := HZF.out; subst h; rfl, HB2.out.trans ((HB3.out.trans ((HB.out.trans (b5.mono HB.out.size)).mono HB3.out.size)).mono HB2.out.size)⟩
    ·
     have HZN : Hid (Str.ascB G (ug + 1) (x.r.used.drop (j + 1)) = Z) := Lib.hid (by rw [HS.out, decide_eq_true (by omega : la + 1 ≤ ug), decide_eq_true (by omega : ug < G)]; rfl)
     go_wp2_with (first
      | (refine wpList_load_rg rfl _ (.tmp 54) rfl b (off + j * 3) rfl [.int .i64 ug, .int .i64 ue, .int .i64 uc] _ hrg Tryz.underlying72 rfl sizeUs ?_)
      | (refine wpList_allocRow rfl _ rfl _ infoUs ?_; intro w4 r4 b4 z4; clear z4)
      | (refine wpList_storeRow rfl _ (.tmp 8) (.tmp 55) rfl (l' := [.int .i64 ug, .int .i64 ue, .int .i64 uc]) r4 rfl rfl sizeUs rfl rfl ?_; intro w5 r5 g5 z5; clear z5 r4; have b5 := b4.grown g5 b4.size (fun k e => by have := Option.some.inj e; omega); clear b4 g5; have kg := r5.cell 0; dsimp only [List.getElem?_cons_zero] at kg))
     go_roundw
     case rel => exact ⟨j + 1, ug, by omega, by go_num, rfl, HZN, Lib.hid (HB.out.trans (b5.mono HB.out.size))⟩
     case measure => simp [intOf]; omega
  ·
   obtain rfl : j = n := by omega
   have hZt : Z = true := by have := HAS.out; rw [List.drop_of_length_le (by rw [HN.out]; exact Nat.le_refl _)] at this; exact this.symm
   have HZT := Lib.hid hZt
   clear hZt
   go_wp2_with fail
   go_ret
   exact ⟨by have h := HZT.out; subst h; rfl, HB2.out.trans ((HB3.out.trans (HB.out.mono HB3.out.size)).mono HB2.out.size)⟩
theorem vrow_any (cf : Str.Cfg) (x : RR) (B : Nat) (w : World) (hx : x.In w B) (hB : B ≤ w.heap.size) :
  Calls Tryz.prog 76 #[cfV cf, .agg (rwL x).toArray] w fun e w' => e = .returned (.bool (Str.right cf x.r)) ∧ Below w.heap.size w w' := by
 by_cases hc : x.r.code = -1
 ·
  exact vrow_free cf x w hc hx.le
 ·
  by_cases hn : Str.codeB x.r = true
  ·
   exact vrow_yes cf x B w hc hx hB hn
  ·
   exact vrow_no cf x w hc hx.le hn
end S
end
section
namespace S
open Go.RowKit
namespace Str
def mW (l : List Rw) (i : Nat) (c : Int) : Option Value := ((l.take i).reverse.find? fun r => decide (r.code = c)).map fun r => Value.int .i64 r.width
theorem mW_zero (l : List Rw) (c : Int) : mW l 0 c = none := rfl
theorem mW_succ {l : List Rw} {i : Nat} {r : Rw} (h : l[i]? = some r) (c : Int) : mW l (i + 1) c = if c = r.code then some (.int .i64 r.width) else mW l i c := by
 unfold mW
 rw [List.take_add_one, h]
 simp only [Option.toList_some, List.reverse_append, List.reverse_cons, List.reverse_nil, List.nil_append, List.cons_append, List.find?_cons]
 by_cases e : r.code = c
 ·
  rw [if_pos e.symm]; simp [e]
 ·
  rw [if_neg (fun h => e h.symm)]; simp [e]
theorem mW_none {l : List Rw} {i k : Nat} {c : Int} {s : Rw} (h : mW l i c = none) (hk : k < i) (hs : l[k]? = some s) : s.code ≠ c := by
 unfold mW at h
 rw [Option.map_eq_none_iff, List.find?_eq_none] at h
 have := h s (List.mem_reverse.2 (by
  have := List.getElem?_eq_some_iff.1 hs
  obtain ⟨hl, rfl⟩ := this
  exact List.mem_take_iff_getElem.2 ⟨k, by omega, rfl⟩))
 simpa using this
theorem mW_some {l : List Rw} {i : Nat} {c : Int} {v : Value} (h : mW l i c = some v) : ∃ (k : Nat) (s : Rw), k < i ∧ l[k]? = some s ∧ s.code = c ∧ v = .int .i64 s.width := by
 unfold mW at h
 rw [Option.map_eq_some_iff] at h
 obtain ⟨s, hs, rfl⟩ := h
 have h1 := List.mem_of_find?_eq_some hs
 have h2 := List.find?_some hs
 rw [List.mem_reverse, List.mem_take_iff_getElem] at h1
 obtain ⟨k, hk, rfl⟩ := h1
 exact ⟨k, _, by omega, List.getElem?_eq_getElem (by omega), by simpa using h2, rfl⟩
theorem okAt_same {cf : Cfg} {l : List Rw} {i : Nat} (h : ∀ j, j < i → okAt cf l j = true) {k k' : Nat} {s s' : Rw} (hk : k < i) (hk' : k' < i) (hs : l[k]? = some s) (hs' : l[k']? = some s') (e : s.code = s'.code) : s.width = s'.width := by
 have key : ∀ (j q : Nat) (r t : Rw), j < i → q < j → l[j]? = some r → l[q]? = some t → t.code = r.code → t.width = r.width := fun j q r t hj hq hr ht e => by
  have h1 := h j hj
  unfold okAt at h1
  rw [Bool.and_eq_true, List.all_eq_true] at h1
  have := h1.2 q (List.mem_range.2 hq)
  rw [getD_of hr, getD_of ht] at this
  simpa [e] using this
 rcases Nat.lt_trichotomy k k' with h1 | h1 | h1
 ·
  exact key k' k s' s hk' h1 hs' hs e
 ·
  subst h1
  rw [Option.some.inj (hs.symm.trans hs')]
 ·
  exact (key k k' s s' hk h1 hs hs' e.symm).symm
end Str
theorem keyIntS : KeyT Tryz.prog 3 (Value.int .i64) := keyT_int Tryz.underlying3
theorem zeroI (w : World) : (zeroValue 3).run Tryz.prog w = .ok (.int .i64 0) w := by kernel_rfl
set_option maxRecDepth 100000 in
set_option maxHeartbeats 6400000 in
theorem valid_any (cf : Str.Cfg) {w : World} {B n c : Nat} {A : Option Addr} {D : List RR} {l : List Str.Rw} (h : RowsIn w B A n D l) (hB : B ≤ w.heap.size) (hnc : n ≤ c) :
  Calls Tryz.prog 38 #[cfV cf, .slice A n c] w fun e w' => e = .returned (.bool (Str.validB cf l)) ∧ Below w.heap.size w w' := by
 have hmx := h.mx
 have HLN := Lib.hid h.len
 have HR := Lib.hid (h.more hB)
 have HCK := Lib.hid (fun W => check_any cf W)
 have HRC := Lib.hid (fun (x : RR) (W : World) (hx : x.In W W.heap.size) => vrow_any cf x W.heap.size W hx (Nat.le_refl _))
 have HCV : Hid (cfV cf = .agg (cfL cf).toArray) := Lib.hid rfl
 have HCL : Hid ((cfL cf).length = 6 ∧ (cfL cf)[2]? = some (.int .i64 cf.rows)) := Lib.hid ⟨rfl, rfl⟩
 obtain ⟨f, hf⟩ : ∃ f, Str.okAt cf l = f := ⟨_, rfl⟩
 have HF := Lib.hid hf
 have HV1 := Lib.hid (fun h => Str.validB_len (cf := cf) (l := l) h)
 have HV2 := Lib.hid (fun h1 h2 => (Str.validB_eq (cf := cf) (l := l) h1 h2).trans (by rw [hf]))
 obtain ⟨Z, hZ⟩ : ∃ Z, Str.validB cf l = Z := ⟨_, rfl⟩
 rw [hZ] at HV1 HV2 ⊢
 obtain ⟨O, hO⟩ : ∃ O, cf.ok = O := ⟨_, rfl⟩
 rw [hO] at HV1 HV2 HCK
 obtain ⟨q, hq⟩ : ∃ q : Int, (if O = true then 0 else 1) = q := ⟨_, rfl⟩
 have HQ : Hid ((O = false ∧ q = 1) ∨ (O = true ∧ q = 0)) := Lib.hid (by rw [← hq]; cases O <;> simp)
 rw [hq] at HCK
 obtain ⟨R, hR⟩ : ∃ R, cf.rows = R := ⟨_, rfl⟩
 rw [hR] at HV1 HV2 HCL
 rw [HCV.out] at HCK HRC ⊢
 obtain ⟨cl, hcl⟩ : ∃ y, cfL cf = y := ⟨_, rfl⟩
 rw [hcl] at HCK HRC HCL ⊢
 have HHB := Lib.hid hB
 clear h hB hf hZ hO hcl hR hq
 rcases HQ.out with ⟨rfl, rfl⟩ | ⟨rfl, rfl⟩
 ·
  have HZ : Hid (Z = false) := Lib.hid (HV1.out (by rintro ⟨h, _⟩; cases h))
  go_enter Tryz.func38, Tryz.ntmps38
  go_wp2_with (first
   | (refine wpList_boxRow rfl _ (.tmp 0) rfl cl rfl rfl ?_; intro w1 r1 b1 z1; clear z1; simp only [put_some, List.setIfInBounds_toArray, List.set_cons_succ, List.set_cons_zero])
   | (refine wpList_load_rg rfl _ (.tmp 2) rfl w.heap.size 0 rfl cl _ (fun j v hv => by rw [Nat.zero_add, r1.cell]; exact hv) Tryz.underlying23 rfl (by rw [HCL.out.1]; exact sizeCf) ?_)
   | (go_at_call 75; refine (HCK.out _).mono ?_; rintro e w2 ⟨rfl, b2⟩))
  go_ret
  exact ⟨by have h := HZ.out; subst h; rfl, b1.trans (b2.mono b1.size)⟩
 ·
  by_cases hln : (n : Int) = R
  ·
   have HV : Hid (Z = (List.range n).all f) := Lib.hid (by
    have := HV2.out rfl (by rw [HLN.out.2]; exact hln)
    rw [HLN.out.2] at this; exact this)
   have hlb : ((n : Int) != R) = false := by simp [hln]
   clear hln
   go_enter Tryz.func38, Tryz.ntmps38
   go_upto_region 3 with (first
    | (refine wpList_boxRow rfl _ (.tmp 0) rfl cl rfl rfl ?_; intro w1 r1 b1 z1; clear z1; simp only [put_some, List.setIfInBounds_toArray, List.set_cons_succ, List.set_cons_zero])
    | (refine wpList_load_rg rfl _ (.tmp 2) rfl w.heap.size 0 rfl cl _ (fun j v hv => by rw [Nat.zero_add, r1.cell]; exact hv) Tryz.underlying23 rfl (by rw [HCL.out.1]; exact sizeCf) ?_)
    | (go_at_call 75; refine (HCK.out _).mono ?_; rintro e w2 ⟨rfl, b2⟩; have k2 : w2.cell? ⟨w.heap.size, 2, none⟩ = some (.int .i64 R) := ((r1.below' b2).cell 2).trans HCL.out.2))
   have HB1 := Lib.hid (b1.trans (b2.mono b1.size))
   have HCF := Lib.hid (r1.below' b2)
   have hmm := @run_makeMap Tryz.prog
   clear b1 b2 r1 k2
   go_upto_region 5 with fail
   clear hmm
   have HMM := Lib.hid (MapIs.made w2 (Value.int .i64))
   have hb3 : Below w2.heap.size w2 (w2.alloc (.map #[] 0)) := (Below.refl _ _).alloc (Nat.le_refl _) _
   obtain ⟨w3, hw3⟩ : ∃ x, w2.alloc (.map #[] 0) = x := ⟨_, rfl⟩
   rw [hw3] at HMM hb3 ⊢
   have HB3 := Lib.hid hb3
   obtain ⟨mb, hmb⟩ : ∃ x, w2.heap.size = x := ⟨_, rfl⟩
   have HMB := Lib.hid (Nat.le_of_eq hmb)
   rw [hmb] at HMM ⊢
   clear hw3 hb3 hmb
   go_loopw [7, 8, 9, 23] (fun _ _ _ u23 wr => ∃ i : Nat, i ≤ n ∧ u23 = .int .i64 (i : Int) ∧ Hid (∀ j, j < i → f j = true) ∧ Hid ((∃ cnt, MapIs wr mb (Value.int .i64) (Str.mW l i) cnt) ∧ w2.heap.size ≤ mb) ∧ Hid (Below w2.heap.size w2 wr)) (fun _ _ _ u23 _ => n - (intOf u23).toNat)
   case atStart => exact ⟨0, Nat.zero_le _, rfl, Lib.hid (fun j hj => absurd hj (Nat.not_lt_zero j)), Lib.hid ⟨⟨0, HMM.out.congr (fun x => (Str.mW_zero l x).symm)⟩, HMB.out⟩, HB3⟩
   case round =>
    obtain ⟨i, hi, rfl, HI, HMC, HB⟩ := hrel
    by_cases hlt : i < n
    ·
     obtain ⟨b, off, x, rfl, hbb, hxD, hxl, hxi, hrg, -, -, -⟩ := (HR.out.below (HB1.out.trans (HB.out.mono HB1.out.size))).at hlt
     have HX := Lib.hid (And.intro hxl (hxi.more (HB1.out.trans (HB.out.mono HB1.out.size)).size))
     obtain ⟨cnt, hmp⟩ := HMC.out.1
     have HMP := Lib.hid (And.intro hmp HMC.out.2)
     have HRX : Hid (∀ W, Below wr.heap.size wr W → Calls Tryz.prog 76 #[.agg cl.toArray, .agg (rwL x).toArray] W fun e w' => e = .returned (.bool (Str.right cf x.r)) ∧ Below W.heap.size W w') := Lib.hid fun W hW => HRC.out x W ((HX.out.2.below hW).more hW.size)
     obtain ⟨S1, hS1⟩ : ∃ S, Str.right cf x.r = S := ⟨_, rfl⟩
     rw [hS1] at HRX
     have HS1 := Lib.hid hS1
     have e1 : (0 : Int) ≤ (i : Int) := by omega
     have e2 : (i : Int) < (n : Int) := by omega
     obtain ⟨xv, hxv⟩ : ∃ y, x.v = y := ⟨_, rfl⟩
     have HV1 : Hid (List.all [Value.int .i64 x.r.code, .int .i64 x.r.width, xv] (·.oneCell') = true) := Lib.hid (by rw [← hxv]; rfl)
     have hrl : rwL x = [.int .i64 x.r.code, .int .i64 x.r.width, xv] := by rw [← hxv]; rfl
     rw [hrl] at hrg HRX
     have HMS : Hid (∀ y, (if y = x.r.code then some (Value.int .i64 x.r.width) else Str.mW l i y) = Str.mW l (i + 1) y) := Lib.hid fun y => (Str.mW_succ hxl y).symm
     have HLU := Lib.hid (fun (W : World) (hW : Below wr.heap.size wr W) => hmp.below hW hmp.lt)
     obtain ⟨xc, hxc⟩ : ∃ y, x.r.code = y := ⟨_, rfl⟩
     obtain ⟨xw, hxw⟩ : ∃ y, x.r.width = y := ⟨_, rfl⟩
     rw [hxc, hxw] at hrg HRX HV1 HMS
     have HXC := Lib.hid (And.intro hxc hxw)
     clear hxD hxl hxi hbb hS1 hrl hxc hxw hxv hmp
     have hval : (S1 = false) ∨ (S1 = true ∧ Str.mW l i xc = none) ∨ (S1 = true ∧ ∃ (k : Nat) (s : Str.Rw), k < i ∧ l[k]? = some s ∧ s.code = xc ∧ Str.mW l i xc = some (.int .i64 s.width)) := by
      cases S1 with
      | false => exact .inl rfl
      | true =>
       cases hm : Str.mW l i xc with
       | none => exact .inr (.inl ⟨rfl, rfl⟩)
       | some v =>
        obtain ⟨k, s, h1, h2, h3, h4⟩ := Str.mW_some hm
        exact .inr (.inr ⟨rfl, k, s, h1, h2, h3, by rw [h4]⟩)
     rcases hval with rfl | ⟨rfl, hm⟩ | ⟨rfl, k, s, hk, hs, hsc, hm⟩
     ·
      have HZ : Hid (Z = false) := Lib.hid (by rw [HV.out]; exact Str.all_no hlt (by rw [← HF.out]; exact Str.okAt_right HX.out.1 HS1.out))
      obtain ⟨kv, kb, hkv⟩ : ∃ (kv : Value) (kb : Bool), ∀ W, Below wr.heap.size wr W → (Instr.lookup 133 (.map (some mb)) (.int .i64 xc) true).run Tryz.prog W = .ok (.tuple #[kv, .bool kb]) W := ⟨_, _, fun W hW => (HLU.out W hW).look keyIntS Tryz.underlying133 (zeroI W) xc true⟩
      have HLK := Lib.hid hkv
      clear hkv
      go_wp2_with (first
       | (refine wpList_load_rg rfl _ (.tmp 25) rfl b (off + i * 3) rfl [.int .i64 xc, .int .i64 xw, xv] _ hrg Tryz.underlying102 rfl sizeRw ?_)
       | (refine wpList_allocRow rfl _ rfl _ infoRw ?_; intro w4 r4 b4 z4; clear z4)
       | (refine wpList_storeRow rfl _ (.tmp 7) (.tmp 26) rfl (l' := [.int .i64 xc, .int .i64 xw, xv]) r4 rfl rfl sizeRw rfl HV1.out ?_; intro w5 r5 g5 z5; clear z5 r4; have b5 := b4.grown g5 b4.size (fun k e => by have := Option.some.inj e; omega); clear b4 g5; have k0 := r5.cell 0; have k1 := r5.cell 1; dsimp only [List.getElem?_cons_zero, List.getElem?_cons_succ] at k0 k1; have hlk := HLK.out w5 b5; have hrc5 : w5.rangeAt w.heap.size 0 cl := fun j v hv => (by rw [Nat.zero_add, ((HCF.out.below' HB.out).below' b5).cell]; exact hv))
       | (refine wpList_load_rg rfl _ (.tmp 2) rfl w.heap.size 0 rfl cl _ hrc5 Tryz.underlying23 rfl (by rw [HCL.out.1]; exact sizeCf) ?_)
       | (refine wpList_load_rg rfl _ (.tmp 7) rfl wr.heap.size 0 rfl [.int .i64 xc, .int .i64 xw, xv] _ (fun q v hv => by rw [Nat.zero_add, r5.cell]; exact hv) Tryz.underlying102 rfl sizeRw ?_)
       | (go_at_call 76; refine (HRX.out w5 b5).mono ?_; rintro e w6 ⟨rfl, b6⟩; have b56 := b5.trans (b6.mono b5.size); have k0 := (r5.below' b6).cell 0; have k1 := (r5.below' b6).cell 1; dsimp only [List.getElem?_cons_zero, List.getElem?_cons_succ] at k0 k1))
      go_ret
      exact ⟨by have h := HZ.out; subst h; rfl, HB1.out.trans ((HB.out.trans (b56.mono HB.out.size)).mono HB1.out.size)⟩
     ·
      have HLK : Hid (∀ W, Below wr.heap.size wr W → (Instr.lookup 133 (.map (some mb)) (.int .i64 xc) true).run Tryz.prog W = .ok (.tuple #[.int .i64 0, .bool false]) W) := Lib.hid fun W hW => (HLU.out W hW).look_no keyIntS Tryz.underlying133 (zeroI W) xc hm
      have HNX : Hid (∀ j, j < i + 1 → f j = true) := Lib.hid fun j hj => by
       rcases Nat.lt_or_ge j i with h | h
       ·
        exact HI.out j h
       ·
        obtain rfl : j = i := by omega
        rw [← HF.out]
        exact Str.okAt_of HX.out.1 HS1.out (fun k' hk' s hs he => absurd (he.trans HXC.out.1) (Str.mW_none hm hk' hs))
      clear hm
      go_wp2_with (first
       | (refine wpList_load_rg rfl _ (.tmp 25) rfl b (off + i * 3) rfl [.int .i64 xc, .int .i64 xw, xv] _ hrg Tryz.underlying102 rfl sizeRw ?_)
       | (refine wpList_allocRow rfl _ rfl _ infoRw ?_; intro w4 r4 b4 z4; clear z4)
       | (refine wpList_storeRow rfl _ (.tmp 7) (.tmp 26) rfl (l' := [.int .i64 xc, .int .i64 xw, xv]) r4 rfl rfl sizeRw rfl HV1.out ?_; intro w5 r5 g5 z5; clear z5 r4; have b5 := b4.grown g5 b4.size (fun k e => by have := Option.some.inj e; omega); clear b4 g5; have k0 := r5.cell 0; have k1 := r5.cell 1; dsimp only [List.getElem?_cons_zero, List.getElem?_cons_succ] at k0 k1; have hlk := HLK.out w5 b5; have hrc5 : w5.rangeAt w.heap.size 0 cl := fun j v hv => (by rw [Nat.zero_add, ((HCF.out.below' HB.out).below' b5).cell]; exact hv))
       | (refine wpList_load_rg rfl _ (.tmp 2) rfl w.heap.size 0 rfl cl _ hrc5 Tryz.underlying23 rfl (by rw [HCL.out.1]; exact sizeCf) ?_)
       | (refine wpList_load_rg rfl _ (.tmp 7) rfl wr.heap.size 0 rfl [.int .i64 xc, .int .i64 xw, xv] _ (fun q v hv => by rw [Nat.zero_add, r5.cell]; exact hv) Tryz.underlying102 rfl sizeRw ?_)
       | (go_at_call 76; refine (HRX.out w5 b5).mono ?_; rintro e w6 ⟨rfl, b6⟩; have b56 := b5.trans (b6.mono b5.size); have k0 := (r5.below' b6).cell 0; have k1 := (r5.below' b6).cell 1; dsimp only [List.getElem?_cons_zero, List.getElem?_cons_succ] at k0 k1)
       | (at_mapUpdate; refine wpList_store rfl _ _ _ 133 rfl keyIntS Tryz.underlying133 (HMP.out.1.below b56 HMP.out.1.lt) rfl xc rfl (.int .i64 xw) rfl ?_; intro w7 hmap hturn))
      go_roundw
      case rel => exact ⟨i + 1, by omega, by go_num, HNX, Lib.hid ⟨⟨_, hmap.congr HMS.out⟩, HMP.out.2⟩, Lib.hid ((HB.out.trans (b56.mono HB.out.size)).grown hturn.grown (Nat.le_trans HB.out.size b56.size) (fun k e => by have := Option.some.inj e; have := HMP.out.2; omega))⟩
      case measure => simp [intOf]; omega
     ·
      have HLK : Hid (∀ W, Below wr.heap.size wr W → (Instr.lookup 133 (.map (some mb)) (.int .i64 xc) true).run Tryz.prog W = .ok (.tuple #[.int .i64 s.width, .bool true]) W) := Lib.hid fun W hW => (HLU.out W hW).look_ok keyIntS Tryz.underlying133 (zeroI W) xc hm
      obtain ⟨sw, hsw⟩ : ∃ y, s.width = y := ⟨_, rfl⟩
      rw [hsw] at HLK
      by_cases hw : sw = xw
      ·
       have HNX : Hid (∀ j, j < i + 1 → f j = true) := Lib.hid fun j hj => by
        rcases Nat.lt_or_ge j i with h | h
        ·
         exact HI.out j h
        ·
         obtain rfl : j = i := by omega
         rw [← HF.out]
         exact Str.okAt_of HX.out.1 HS1.out (fun k' hk' s' hs' he => by
          rw [HXC.out.2, ← hw, ← hsw]
          exact Str.okAt_same (cf := cf) (i := j) (fun q hq => by rw [HF.out]; exact HI.out q hq) hk' hk hs' hs (by rw [he, HXC.out.1, hsc]))
       have hwb : (sw != xw) = false := by simp [hw]
       clear hm hk hs hsc hw hsw
       go_wp2_with (first
        | (refine wpList_load_rg rfl _ (.tmp 25) rfl b (off + i * 3) rfl [.int .i64 xc, .int .i64 xw, xv] _ hrg Tryz.underlying102 rfl sizeRw ?_)
        | (refine wpList_allocRow rfl _ rfl _ infoRw ?_; intro w4 r4 b4 z4; clear z4)
        | (refine wpList_storeRow rfl _ (.tmp 7) (.tmp 26) rfl (l' := [.int .i64 xc, .int .i64 xw, xv]) r4 rfl rfl sizeRw rfl HV1.out ?_; intro w5 r5 g5 z5; clear z5 r4; have b5 := b4.grown g5 b4.size (fun k e => by have := Option.some.inj e; omega); clear b4 g5; have k0 := r5.cell 0; have k1 := r5.cell 1; dsimp only [List.getElem?_cons_zero, List.getElem?_cons_succ] at k0 k1; have hlk := HLK.out w5 b5; have hrc5 : w5.rangeAt w.heap.size 0 cl := fun j v hv => (by rw [Nat.zero_add, ((HCF.out.below' HB.out).below' b5).cell]; exact hv))
        | (refine wpList_load_rg rfl _ (.tmp 2) rfl w.heap.size 0 rfl cl _ hrc5 Tryz.underlying23 rfl (by rw [HCL.out.1]; exact sizeCf) ?_)
        | (refine wpList_load_rg rfl _ (.tmp 7) rfl wr.heap.size 0 rfl [.int .i64 xc, .int .i64 xw, xv] _ (fun q v hv => by rw [Nat.zero_add, r5.cell]; exact hv) Tryz.underlying102 rfl sizeRw ?_)
        | (go_at_call 76; refine (HRX.out w5 b5).mono ?_; rintro e w6 ⟨rfl, b6⟩; have b56 := b5.trans (b6.mono b5.size); have k0 := (r5.below' b6).cell 0; have k1 := (r5.below' b6).cell 1; dsimp only [List.getElem?_cons_zero, List.getElem?_cons_succ] at k0 k1)
        | (at_mapUpdate; refine wpList_store rfl _ _ _ 133 rfl keyIntS Tryz.underlying133 (HMP.out.1.below b56 HMP.out.1.lt) rfl xc rfl (.int .i64 xw) rfl ?_; intro w7 hmap hturn))
       go_roundw
       case rel => exact ⟨i + 1, by omega, by go_num, HNX, Lib.hid ⟨⟨_, hmap.congr HMS.out⟩, HMP.out.2⟩, Lib.hid ((HB.out.trans (b56.mono HB.out.size)).grown hturn.grown (Nat.le_trans HB.out.size b56.size) (fun k e => by have := Option.some.inj e; have := HMP.out.2; omega))⟩
       case measure => simp [intOf]; omega
      ·
       have HZ : Hid (Z = false) := Lib.hid (by
        rw [HV.out]; refine Str.all_no hlt ?_
        rw [← HF.out]
        exact Str.okAt_pair HX.out.1 hk hs (by rw [HXC.out.1, hsc]) (by rw [hsw, HXC.out.2]; exact hw))
       have hwb : (sw != xw) = true := by simp [hw]
       clear hm hk hs hsc hw hsw
       go_wp2_with (first
        | (refine wpList_load_rg rfl _ (.tmp 25) rfl b (off + i * 3) rfl [.int .i64 xc, .int .i64 xw, xv] _ hrg Tryz.underlying102 rfl sizeRw ?_)
        | (refine wpList_allocRow rfl _ rfl _ infoRw ?_; intro w4 r4 b4 z4; clear z4)
        | (refine wpList_storeRow rfl _ (.tmp 7) (.tmp 26) rfl (l' := [.int .i64 xc, .int .i64 xw, xv]) r4 rfl rfl sizeRw rfl HV1.out ?_; intro w5 r5 g5 z5; clear z5 r4; have b5 := b4.grown g5 b4.size (fun k e => by have := Option.some.inj e; omega); clear b4 g5; have k0 := r5.cell 0; have k1 := r5.cell 1; dsimp only [List.getElem?_cons_zero, List.getElem?_cons_succ] at k0 k1; have hlk := HLK.out w5 b5; have hrc5 : w5.rangeAt w.heap.size 0 cl := fun j v hv => (by rw [Nat.zero_add, ((HCF.out.below' HB.out).below' b5).cell]; exact hv))
        | (refine wpList_load_rg rfl _ (.tmp 2) rfl w.heap.size 0 rfl cl _ hrc5 Tryz.underlying23 rfl (by rw [HCL.out.1]; exact sizeCf) ?_)
        | (refine wpList_load_rg rfl _ (.tmp 7) rfl wr.heap.size 0 rfl [.int .i64 xc, .int .i64 xw, xv] _ (fun q v hv => by rw [Nat.zero_add, r5.cell]; exact hv) Tryz.underlying102 rfl sizeRw ?_)
        | (go_at_call 76; refine (HRX.out w5 b5).mono ?_; rintro e w6 ⟨rfl, b6⟩; have b56 := b5.trans (b6.mono b5.size); have k0 := (r5.below' b6).cell 0; have k1 := (r5.below' b6).cell 1; dsimp only [List.getElem?_cons_zero, List.getElem?_cons_succ] at k0 k1))
       go_ret
       exact ⟨by have h := HZ.out; subst h; rfl, HB1.out.trans ((HB.out.trans (b56.mono HB.out.size)).mono HB1.out.size)⟩
    ·
     obtain rfl : i = n := by omega
     have HZ : Hid (Z = true) := Lib.hid (by rw [HV.out]; exact Str.all_yes HI.out)
     go_wp2_with fail
     go_ret
     exact ⟨by have h := HZ.out; subst h; rfl, HB1.out.trans (HB.out.mono HB1.out.size)⟩
  ·
   have HZ : Hid (Z = false) := Lib.hid (HV1.out (by rintro ⟨_, h⟩; rw [HLN.out.2] at h; exact hln h))
   have hlb : ((n : Int) != R) = true := by simp [hln]
   clear hln
   go_enter Tryz.func38, Tryz.ntmps38
   go_wp2_with (first
    | (refine wpList_boxRow rfl _ (.tmp 0) rfl cl rfl rfl ?_; intro w1 r1 b1 z1; clear z1; simp only [put_some, List.setIfInBounds_toArray, List.set_cons_succ, List.set_cons_zero])
    | (refine wpList_load_rg rfl _ (.tmp 2) rfl w.heap.size 0 rfl cl _ (fun j v hv => by rw [Nat.zero_add, r1.cell]; exact hv) Tryz.underlying23 rfl (by rw [HCL.out.1]; exact sizeCf) ?_)
    | (go_at_call 75; refine (HCK.out _).mono ?_; rintro e w2 ⟨rfl, b2⟩; have k2 : w2.cell? ⟨w.heap.size, 2, none⟩ = some (.int .i64 R) := ((r1.below' b2).cell 2).trans HCL.out.2))
   go_ret
   exact ⟨by have h := HZ.out; subst h; rfl, b1.trans (b2.mono b1.size)⟩
end S
end
end Go.Proofs.YtfllkaeaanahmaaGreat
