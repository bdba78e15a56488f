/- layout.valid, layout.Groups, and the reference's. Conditions: none. -/
import Derived.Test.YtihhkcndcgljbaaGreatStrA
namespace Go.Proofs.YtihhkcndcgljbaaGreat.S
set_option linter.unusedVariables false
set_option linter.unusedSimpArgs false
open Go.RowKit
theorem sizeCf : (Tryz.prog.info? 23).map (·.size) = some 6 := by kernel_rfl
theorem Str.Cfg.ok_d {c : Str.Cfg} (h : c.ok = true) : (1 ≤ c.d ∧ c.d ≤ 64) ∧ (0 ≤ c.sp ∧ c.sp ≤ c.d - 1) ∧ (1 ≤ c.rows ∧ c.rows ≤ 4096) := by
  unfold Str.Cfg.ok at h
  simp only [Bool.and_eq_true] at h
  obtain ⟨⟨⟨⟨⟨⟨h1, _⟩, h3⟩, h4⟩, _⟩, _⟩, _⟩ := h
  exact ⟨Str.within_t h1, Str.within_t h4, Str.within_t h3⟩
theorem Str.Cfg.fits_cases (c : Str.Cfg) (wd : Int) : (c.ok = false ∧ c.fits wd = false) ∨ (c.ok = true ∧ decide (1 ≤ wd) = false ∧ c.fits wd = false) ∨ (c.ok = true ∧ decide (1 ≤ wd) = true ∧ decide (wd ≤ 32) = c.fits wd) := by
  unfold Str.Cfg.fits
  cases h1 : c.ok with
  | false => exact .inl ⟨rfl, by simp⟩
  | true =>
    cases h2 : decide (1 ≤ wd) with
    | false => exact .inr (.inl ⟨rfl, rfl, by simp⟩)
    | true => exact .inr (.inr ⟨rfl, rfl, by simp⟩)
set_option maxRecDepth 100000 in
set_option maxHeartbeats 1600000 in
theorem lvalid_any (c : Str.Cfg) (wd : Int) (w : World) : Calls Tryz.prog 101 #[cfV c, .int .i64 wd] w fun e w' => e = .returned (.bool (c.fits wd)) ∧ Below w.heap.size w w' := by
  have hb0 : Below w.heap.size w (w.alloc (.cells (cfL c).toArray 23)) := (Below.refl _ _).alloc (Nat.le_refl _) _
  have hr := IsRow.new w 23 (cfL c)
  obtain ⟨w0, hw0⟩ : ∃ z, w.alloc (.cells (cfL c).toArray 23) = z := ⟨_, rfl⟩
  rw [hw0] at hb0 hr
  have HW0 : Hid (w.alloc (.cells #[.int .i64 c.d, .int .i64 c.r, .int .i64 c.rows, .int .i64 c.sp, .int .i64 c.log, .int .i64 c.img] 23) = w0) := Lib.hid hw0
  have HB0 := Lib.hid hb0
  have hrg : w0.rangeAt w.heap.size 0 (cfL c) := fun j v hv => by rw [Nat.zero_add, hr.cell]; exact hv
  have HCK := Lib.hid (check_any c w0)
  have HCA := Lib.hid (Str.Cfg.fits_cases c wd)
  obtain ⟨Z, hZ⟩ : ∃ Z, c.fits wd = Z := ⟨_, rfl⟩
  rw [hZ] at HCA ⊢
  obtain ⟨O, hO⟩ : ∃ O, c.ok = O := ⟨_, rfl⟩
  rw [hO] at HCA HCK
  have HCV : Hid (cfV c = .agg (cfL c).toArray) := Lib.hid rfl
  obtain ⟨cl, hcl⟩ : ∃ y, cfL c = y := ⟨_, rfl⟩
  have HLN : Hid (cl.length = 6) := Lib.hid (by rw [← hcl]; rfl)
  rw [hcl] at hrg HCV
  rw [HCV.out] at HCK
  clear hw0 hb0 hr hZ hO hcl
  unfold cfV
  go_enter Tryz.func101, Tryz.ntmps101
  go_upto_region 1 with fail
  rw [HW0.out]
  rcases HCA.out with ⟨rfl, rfl⟩ | ⟨rfl, h2, rfl⟩ | ⟨rfl, h2, h3⟩
  all_goals
    go_wp2_with (first
      | (refine wpList_load_mid rfl _ (.tmp 2) rfl w.heap.size 0 rfl cl _ hrg Tryz.underlying23 rfl (by rw [HLN.out]; exact sizeCf) ?_)
      | (go_at_call 105; refine HCK.out.mono ?_; rintro e w1 ⟨rfl, b1⟩))
    go_ret
    exact ⟨rfl, HB0.out.trans (b1.mono HB0.out.size)⟩
theorem quo_in {c : Str.Cfg} {wd : Int} (h : c.fits wd = true) : IntKind.i64.wrap (c.d - c.sp) = c.d - c.sp ∧ ¬ wd = 0 ∧ IntKind.i64.wrap ((c.d - c.sp).tdiv wd) = (c.d - c.sp).tdiv wd := by
  unfold Str.Cfg.fits at h
  simp only [Bool.and_eq_true] at h
  obtain ⟨⟨h1, h2⟩, h3⟩ := h
  have h2 := of_decide_eq_true h2
  have h3 := of_decide_eq_true h3
  obtain ⟨⟨a1, a2⟩, ⟨b1, b2⟩, _⟩ := Str.Cfg.ok_d h1
  refine ⟨IntWalk.i64_in _ (by omega), by omega, IntWalk.i64_in _ ?_⟩
  have h4 := Int.tdiv_nonneg (show 0 ≤ c.d - c.sp by omega) (show 0 ≤ wd by omega)
  have h5 := Int.tdiv_le_self wd (show 0 ≤ c.d - c.sp by omega)
  omega
set_option maxRecDepth 100000 in
set_option maxHeartbeats 1600000 in
theorem groups_any (c : Str.Cfg) (wd : Int) (w : World) : Calls Tryz.prog 90 #[cfV c, .int .i64 wd] w fun e w' => e = .returned (.int .i64 (Str.grp c wd)) ∧ Below w.heap.size w w' := by
  have hb0 : Below w.heap.size w (w.alloc (.cells (cfL c).toArray 23)) := (Below.refl _ _).alloc (Nat.le_refl _) _
  have hr := IsRow.new w 23 (cfL c)
  obtain ⟨w0, hw0⟩ : ∃ z, w.alloc (.cells (cfL c).toArray 23) = z := ⟨_, rfl⟩
  rw [hw0] at hb0 hr
  have HW0 : Hid (w.alloc (.cells #[.int .i64 c.d, .int .i64 c.r, .int .i64 c.rows, .int .i64 c.sp, .int .i64 c.log, .int .i64 c.img] 23) = w0) := Lib.hid hw0
  have HB0 := Lib.hid hb0
  have hrg : w0.rangeAt w.heap.size 0 (cfL c) := fun j v hv => by rw [Nat.zero_add, hr.cell]; exact hv
  have HCE := Lib.hid (fun W (hW : Below w0.heap.size w0 W) => And.intro (show W.cell? ⟨w.heap.size, 0, none⟩ = some (.int .i64 c.d) from (hr.below' hW).cell 0) (show W.cell? ⟨w.heap.size, 3, none⟩ = some (.int .i64 c.sp) from (hr.below' hW).cell 3))
  have HCK := Lib.hid (lvalid_any c wd w0)
  obtain ⟨Z, hZ⟩ : ∃ Z, c.fits wd = Z := ⟨_, rfl⟩
  rw [hZ] at HCK
  have HG : Hid (Str.grp c wd = if Z = true then (c.d - c.sp).tdiv wd else 0) := Lib.hid (by unfold Str.grp; rw [hZ])
  have HQ := Lib.hid (fun h => quo_in (c := c) (wd := wd) (hZ.trans h))
  have HCV : Hid (cfV c = .agg (cfL c).toArray) := Lib.hid rfl
  obtain ⟨cl, hcl⟩ : ∃ y, cfL c = y := ⟨_, rfl⟩
  have HLN : Hid (cl.length = 6) := Lib.hid (by rw [← hcl]; rfl)
  rw [hcl] at hrg HCV
  rw [HCV.out] at HCK
  rw [HG.out]
  clear hw0 hb0 hr hZ hcl
  unfold cfV
  go_enter Tryz.func90, Tryz.ntmps90
  go_upto_region 1 with fail
  rw [HW0.out]
  cases Z with
  | false =>
    go_wp2_with (first
      | (refine wpList_load_mid rfl _ (.tmp 2) rfl w.heap.size 0 rfl cl _ hrg Tryz.underlying23 rfl (by rw [HLN.out]; exact sizeCf) ?_)
      | (go_at_call 101; refine HCK.out.mono ?_; rintro e w1 ⟨rfl, b1⟩))
    go_ret
    exact ⟨rfl, HB0.out.trans (b1.mono HB0.out.size)⟩
  | true =>
    obtain ⟨q1, q2, q3⟩ : IntKind.i64.wrap (c.d - c.sp) = c.d - c.sp ∧ ¬ wd = 0 ∧ IntKind.i64.wrap ((c.d - c.sp).tdiv wd) = (c.d - c.sp).tdiv wd := by have := HQ.out; first | exact this rfl | exact this trivial
    go_upto_region 3 with (first
      | (refine wpList_load_mid rfl _ (.tmp 2) rfl w.heap.size 0 rfl cl _ hrg Tryz.underlying23 rfl (by rw [HLN.out]; exact sizeCf) ?_)
      | (go_at_call 101; refine HCK.out.mono ?_; rintro e w1 ⟨rfl, b1⟩))
    obtain ⟨k0, k3⟩ := HCE.out w1 b1
    go_wp2_with fail
    go_ret
    exact ⟨rfl, HB0.out.trans (b1.mono HB0.out.size)⟩
set_option maxRecDepth 100000 in
set_option maxHeartbeats 1600000 in
theorem rlvalid_any (c : Str.Cfg) (wd : Int) (w : World) : Calls Tryz.prog 38 #[cfV c, .int .i64 wd] w fun e w' => e = .returned (.bool (c.fits wd)) ∧ Below w.heap.size w w' := by
  have hb0 : Below w.heap.size w (w.alloc (.cells (cfL c).toArray 23)) := (Below.refl _ _).alloc (Nat.le_refl _) _
  have hr := IsRow.new w 23 (cfL c)
  obtain ⟨w0, hw0⟩ : ∃ z, w.alloc (.cells (cfL c).toArray 23) = z := ⟨_, rfl⟩
  rw [hw0] at hb0 hr
  have HW0 : Hid (w.alloc (.cells #[.int .i64 c.d, .int .i64 c.r, .int .i64 c.rows, .int .i64 c.sp, .int .i64 c.log, .int .i64 c.img] 23) = w0) := Lib.hid hw0
  have HB0 := Lib.hid hb0
  have hrg : w0.rangeAt w.heap.size 0 (cfL c) := fun j v hv => by rw [Nat.zero_add, hr.cell]; exact hv
  have HCK := Lib.hid (rcheck_any c w0)
  have HCA := Lib.hid (Str.Cfg.fits_cases c wd)
  obtain ⟨Z, hZ⟩ : ∃ Z, c.fits wd = Z := ⟨_, rfl⟩
  rw [hZ] at HCA ⊢
  obtain ⟨O, hO⟩ : ∃ O, c.ok = O := ⟨_, rfl⟩
  rw [hO] at HCA HCK
  have HCV : Hid (cfV c = .agg (cfL c).toArray) := Lib.hid rfl
  obtain ⟨cl, hcl⟩ : ∃ y, cfL c = y := ⟨_, rfl⟩
  have HLN : Hid (cl.length = 6) := Lib.hid (by rw [← hcl]; rfl)
  rw [hcl] at hrg HCV
  rw [HCV.out] at HCK
  clear hw0 hb0 hr hZ hO hcl
  unfold cfV
  go_enter Tryz.func38, Tryz.ntmps38
  go_upto_region 1 with fail
  rw [HW0.out]
  rcases HCA.out with ⟨rfl, rfl⟩ | ⟨rfl, h2, rfl⟩ | ⟨rfl, h2, h3⟩
  all_goals
    go_wp2_with (first
      | (refine wpList_load_mid rfl _ (.tmp 2) rfl w.heap.size 0 rfl cl _ hrg Tryz.underlying23 rfl (by rw [HLN.out]; exact sizeCf) ?_)
      | (go_at_call 24; refine HCK.out.mono ?_; rintro e w1 ⟨rfl, b1⟩))
    go_ret
    exact ⟨rfl, HB0.out.trans (b1.mono HB0.out.size)⟩
set_option maxRecDepth 100000 in
set_option maxHeartbeats 1600000 in
theorem rgroups_any (c : Str.Cfg) (wd : Int) (w : World) : Calls Tryz.prog 9 #[cfV c, .int .i64 wd] w fun e w' => e = .returned (.int .i64 (Str.grp c wd)) ∧ Below w.heap.size w w' := by
  have hb0 : Below w.heap.size w (w.alloc (.cells (cfL c).toArray 23)) := (Below.refl _ _).alloc (Nat.le_refl _) _
  have hr := IsRow.new w 23 (cfL c)
  obtain ⟨w0, hw0⟩ : ∃ z, w.alloc (.cells (cfL c).toArray 23) = z := ⟨_, rfl⟩
  rw [hw0] at hb0 hr
  have HW0 : Hid (w.alloc (.cells #[.int .i64 c.d, .int .i64 c.r, .int .i64 c.rows, .int .i64 c.sp, .int .i64 c.log, .int .i64 c.img] 23) = w0) := Lib.hid hw0
  have HB0 := Lib.hid hb0
  have hrg : w0.rangeAt w.heap.size 0 (cfL c) := fun j v hv => by rw [Nat.zero_add, hr.cell]; exact hv
  have HCE := Lib.hid (fun W (hW : Below w0.heap.size w0 W) => And.intro (show W.cell? ⟨w.heap.size, 0, none⟩ = some (.int .i64 c.d) from (hr.below' hW).cell 0) (show W.cell? ⟨w.heap.size, 3, none⟩ = some (.int .i64 c.sp) from (hr.below' hW).cell 3))
  have HCK := Lib.hid (rlvalid_any c wd w0)
  obtain ⟨Z, hZ⟩ : ∃ Z, c.fits wd = Z := ⟨_, rfl⟩
  rw [hZ] at HCK
  have HG : Hid (Str.grp c wd = if Z = true then (c.d - c.sp).tdiv wd else 0) := Lib.hid (by unfold Str.grp; rw [hZ])
  have HQ := Lib.hid (fun h => quo_in (c := c) (wd := wd) (hZ.trans h))
  have HCV : Hid (cfV c = .agg (cfL c).toArray) := Lib.hid rfl
  obtain ⟨cl, hcl⟩ : ∃ y, cfL c = y := ⟨_, rfl⟩
  have HLN : Hid (cl.length = 6) := Lib.hid (by rw [← hcl]; rfl)
  rw [hcl] at hrg HCV
  rw [HCV.out] at HCK
  rw [HG.out]
  clear hw0 hb0 hr hZ hcl
  unfold cfV
  go_enter Tryz.func9, Tryz.ntmps9
  go_upto_region 1 with fail
  rw [HW0.out]
  cases Z with
  | false =>
    go_wp2_with (first
      | (refine wpList_load_mid rfl _ (.tmp 2) rfl w.heap.size 0 rfl cl _ hrg Tryz.underlying23 rfl (by rw [HLN.out]; exact sizeCf) ?_)
      | (go_at_call 38; refine HCK.out.mono ?_; rintro e w1 ⟨rfl, b1⟩))
    go_ret
    exact ⟨rfl, HB0.out.trans (b1.mono HB0.out.size)⟩
  | true =>
    obtain ⟨q1, q2, q3⟩ : IntKind.i64.wrap (c.d - c.sp) = c.d - c.sp ∧ ¬ wd = 0 ∧ IntKind.i64.wrap ((c.d - c.sp).tdiv wd) = (c.d - c.sp).tdiv wd := by have := HQ.out; first | exact this rfl | exact this trivial
    go_upto_region 4 with (first
      | (refine wpList_load_mid rfl _ (.tmp 2) rfl w.heap.size 0 rfl cl _ hrg Tryz.underlying23 rfl (by rw [HLN.out]; exact sizeCf) ?_)
      | (go_at_call 38; refine HCK.out.mono ?_; rintro e w1 ⟨rfl, b1⟩))
    obtain ⟨k0, k3⟩ := HCE.out w1 b1
    go_wp2_with fail
    go_ret
    exact ⟨rfl, HB0.out.trans (b1.mono HB0.out.size)⟩
end Go.Proofs.YtihhkcndcgljbaaGreat.S
