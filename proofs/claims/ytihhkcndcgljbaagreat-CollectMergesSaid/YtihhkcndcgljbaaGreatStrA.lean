/- Configurations: design.Check, layout.valid, layout.Groups, and the reference's. Conditions: none. -/
import Derived.Test.YtihhkcndcgljbaaGreatRows
import Derived.Test.YtihhkcndcgljbaaGreatBase
import Derived.Test.YtihhkcndcgljbaaGreatRow
import Derived.Test.YtihhkcndcgljbaaGreatStrP
import Derived.WalkKit
import Derived.WalkSpells
import Derived.WalkLawsBesides
import Derived.Deep.QuietTactic
import Derived.BigQuiet
import Derived.Deep.CutRange
namespace Go.Proofs.YtihhkcndcgljbaaGreat.S
set_option linter.unusedVariables false
set_option linter.unusedSimpArgs false
open Go.RowKit
namespace Str
structure Cfg where
  d : Int
  r : Int
  rows : Int
  sp : Int
  log : Int
  img : Int
deriving DecidableEq
def within (n lo hi : Int) : Bool := decide (lo ≤ n ∧ n ≤ hi)
theorem within_t {n lo hi : Int} (h : within n lo hi = true) : lo ≤ n ∧ n ≤ hi := of_decide_eq_true h
def Cfg.ok (c : Cfg) : Bool := within c.d 1 64 && within c.r 1 8 && within c.rows 1 4096 && within c.sp 0 (c.d - 1) && within c.log 1 65536 && within c.img 1 65536 && decide (c.d.tmod c.r = 0)
def Cfg.fits (c : Cfg) (w : Int) : Bool := c.ok && decide (1 ≤ w) && decide (w ≤ 32)
/-- the stripes of a row -/
def grp (c : Cfg) (w : Int) : Int := if c.fits w = true then (c.d - c.sp).tdiv w else 0
end Str
def cfL (c : Str.Cfg) : List Value := [.int .i64 c.d, .int .i64 c.r, .int .i64 c.rows, .int .i64 c.sp, .int .i64 c.log, .int .i64 c.img]
def cfV (c : Str.Cfg) : Value := .agg #[.int .i64 c.d, .int .i64 c.r, .int .i64 c.rows, .int .i64 c.sp, .int .i64 c.log, .int .i64 c.img]
theorem within_any (n lo hi : Int) (w : World) : Calls Tryz.prog 107 #[.int .i64 n, .int .i64 lo, .int .i64 hi] w fun e w' => e = .returned (.bool (Str.within n lo hi)) ∧ w' = w := by
  obtain ⟨S, hS⟩ : ∃ S, Str.within n lo hi = S := ⟨_, rfl⟩
  rw [hS]
  have hc : (decide (lo ≤ n) = false ∧ S = false) ∨ (decide (lo ≤ n) = true ∧ decide (n ≤ hi) = S) := by
    rw [← hS]; unfold Str.within
    by_cases h1 : lo ≤ n <;> by_cases h2 : n ≤ hi <;> simp [h1, h2]
  clear hS
  rcases hc with ⟨h1, rfl⟩ | ⟨h1, h2⟩
  all_goals
    go_enter Tryz.func107, Tryz.ntmps107
    go_wp2
    go_ret
    exact ⟨rfl, rfl⟩
theorem rin_any (n lo hi : Int) (w : World) : Calls Tryz.prog 64 #[.int .i64 n, .int .i64 lo, .int .i64 hi] w fun e w' => e = .returned (.bool (Str.within n lo hi)) ∧ w' = w := by
  obtain ⟨S, hS⟩ : ∃ S, Str.within n lo hi = S := ⟨_, rfl⟩
  rw [hS]
  have hc : (decide (lo ≤ n) = false ∧ S = false) ∨ (decide (lo ≤ n) = true ∧ decide (n ≤ hi) = S) := by
    rw [← hS]; unfold Str.within
    by_cases h1 : lo ≤ n <;> by_cases h2 : n ≤ hi <;> simp [h1, h2]
  clear hS
  rcases hc with ⟨h1, rfl⟩ | ⟨h1, h2⟩
  all_goals
    go_enter Tryz.func64, Tryz.ntmps64
    go_wp2
    go_ret
    exact ⟨rfl, rfl⟩
set_option maxRecDepth 100000 in
set_option maxHeartbeats 3200000 in
theorem check_any (c : Str.Cfg) (w : World) : Calls Tryz.prog 105 #[cfV c] w fun e w' => e = .returned (.int .i64 (if c.ok = true then 0 else 1)) ∧ Below w.heap.size w w' := by
  obtain ⟨d, r, rows, sp, log, img⟩ := c
  have hb0 : Below w.heap.size w (w.alloc (.cells #[.int .i64 d, .int .i64 r, .int .i64 rows, .int .i64 sp, .int .i64 log, .int .i64 img] 23)) := (Below.refl _ _).alloc (Nat.le_refl _) _
  have hr := IsRow.new w 23 [.int .i64 d, .int .i64 r, .int .i64 rows, .int .i64 sp, .int .i64 log, .int .i64 img]
  obtain ⟨w0, hw0⟩ : ∃ z, w.alloc (.cells #[.int .i64 d, .int .i64 r, .int .i64 rows, .int .i64 sp, .int .i64 log, .int .i64 img] 23) = z := ⟨_, rfl⟩
  have hr : IsRow w0 w.heap.size 23 [.int .i64 d, .int .i64 r, .int .i64 rows, .int .i64 sp, .int .i64 log, .int .i64 img] := by rw [← hw0]; exact hr
  rw [hw0] at hb0
  have k0 := hr.cell 0
  have k1 := hr.cell 1
  have k2 := hr.cell 2
  have k3 := hr.cell 3
  have k4 := hr.cell 4
  have k5 := hr.cell 5
  dsimp only [List.getElem?_cons_zero, List.getElem?_cons_succ] at k0 k1 k2 k3 k4 k5
  have HW0 := Lib.hid hw0
  have HB0 := Lib.hid hb0
  clear hw0 hr hb0
  obtain ⟨Z, hZ⟩ : ∃ Z, (Str.Cfg.mk d r rows sp log img).ok = Z := ⟨_, rfl⟩
  rw [hZ]
  have HZ := Lib.hid hZ
  clear hZ
  unfold cfV
  cases h1 : Str.within d 1 64 with
  | false =>
    obtain rfl : Z = false := by rw [← HZ.out]; unfold Str.Cfg.ok; dsimp only; simp [h1]
    go_enter Tryz.func105, Tryz.ntmps105
    go_upto_region 1 with fail
    rw [HW0.out]
    go_wp2_with (go_at_call 107; refine (within_any _ _ _ _).mono ?_; rintro e w1 ⟨rfl, hw1⟩; obtain rfl := hw1.symm)
    go_ret
    exact ⟨rfl, HB0.out⟩
  | true =>
    cases h2 : Str.within r 1 8 with
    | false =>
      obtain rfl : Z = false := by rw [← HZ.out]; unfold Str.Cfg.ok; dsimp only; simp [h2]
      go_enter Tryz.func105, Tryz.ntmps105
      go_upto_region 1 with fail
      rw [HW0.out]
      go_wp2_with (go_at_call 107; refine (within_any _ _ _ _).mono ?_; rintro e w1 ⟨rfl, hw1⟩; obtain rfl := hw1.symm)
      go_ret
      exact ⟨rfl, HB0.out⟩
    | true =>
      cases h3 : Str.within rows 1 4096 with
      | false =>
        obtain rfl : Z = false := by rw [← HZ.out]; unfold Str.Cfg.ok; dsimp only; simp [h3]
        go_enter Tryz.func105, Tryz.ntmps105
        go_upto_region 1 with fail
        rw [HW0.out]
        go_wp2_with (go_at_call 107; refine (within_any _ _ _ _).mono ?_; rintro e w1 ⟨rfl, hw1⟩; obtain rfl := hw1.symm)
        go_ret
        exact ⟨rfl, HB0.out⟩
      | true =>
        cases h4 : Str.within sp 0 (d - 1) with
        | false =>
          obtain rfl : Z = false := by rw [← HZ.out]; unfold Str.Cfg.ok; dsimp only; simp [h4]
          have es : IntKind.i64.wrap (d - 1) = d - 1 := IntWalk.i64_in _ (by have := Str.within_t h1; omega)
          go_enter Tryz.func105, Tryz.ntmps105
          go_upto_region 1 with fail
          rw [HW0.out]
          go_wp2_with (go_at_call 107; refine (within_any _ _ _ _).mono ?_; rintro e w1 ⟨rfl, hw1⟩; obtain rfl := hw1.symm)
          go_ret
          exact ⟨rfl, HB0.out⟩
        | true =>
          have es : IntKind.i64.wrap (d - 1) = d - 1 := IntWalk.i64_in _ (by have := Str.within_t h1; omega)
          cases h5 : Str.within log 1 65536 with
          | false =>
            obtain rfl : Z = false := by rw [← HZ.out]; unfold Str.Cfg.ok; dsimp only; simp [h5]
            go_enter Tryz.func105, Tryz.ntmps105
            go_upto_region 1 with fail
            rw [HW0.out]
            go_wp2_with (go_at_call 107; refine (within_any _ _ _ _).mono ?_; rintro e w1 ⟨rfl, hw1⟩; obtain rfl := hw1.symm)
            go_ret
            exact ⟨rfl, HB0.out⟩
          | true =>
            cases h6 : Str.within img 1 65536 with
            | false =>
              obtain rfl : Z = false := by rw [← HZ.out]; unfold Str.Cfg.ok; dsimp only; simp [h6]
              go_enter Tryz.func105, Tryz.ntmps105
              go_upto_region 1 with fail
              rw [HW0.out]
              go_wp2_with (go_at_call 107; refine (within_any _ _ _ _).mono ?_; rintro e w1 ⟨rfl, hw1⟩; obtain rfl := hw1.symm)
              go_ret
              exact ⟨rfl, HB0.out⟩
            | true =>
              have hdr := Str.within_t h1
              have hrr := Str.within_t h2
              have er : ¬ r = 0 := by omega
              have eq : IntKind.i64.wrap (d.tmod r) = d.tmod r := IntWalk.i64_in _ (by have := Int.tmod_nonneg r (show 0 ≤ d by omega); have := Int.tmod_lt_of_pos d (show 0 < r by omega); omega)
              obtain ⟨M, hM⟩ : ∃ M, d.tmod r = M := ⟨_, rfl⟩
              cases hm : decide (M = 0) with
              | false =>
                have hm' : (M != 0) = true := by simpa using hm
                obtain rfl : Z = false := by rw [← HZ.out]; unfold Str.Cfg.ok; dsimp only; rw [hM, hm]; simp
                rw [hM] at eq
                clear hm hdr hrr
                go_enter Tryz.func105, Tryz.ntmps105
                go_upto_region 1 with fail
                rw [HW0.out]
                go_wp2_with (go_at_call 107; refine (within_any _ _ _ _).mono ?_; rintro e w1 ⟨rfl, hw1⟩; obtain rfl := hw1.symm)
                go_ret
                exact ⟨rfl, HB0.out⟩
              | true =>
                have hm' : (M != 0) = false := by simpa using hm
                rw [hM] at eq
                obtain rfl : Z = true := by rw [← HZ.out]; unfold Str.Cfg.ok; dsimp only; rw [hM, hm]; simp [h1, h2, h3, h4, h5, h6]
                clear hm hdr hrr
                go_enter Tryz.func105, Tryz.ntmps105
                go_upto_region 1 with fail
                rw [HW0.out]
                go_wp2_with (go_at_call 107; refine (within_any _ _ _ _).mono ?_; rintro e w1 ⟨rfl, hw1⟩; obtain rfl := hw1.symm)
                go_ret
                exact ⟨rfl, HB0.out⟩
set_option maxRecDepth 100000 in
set_option maxHeartbeats 3200000 in
theorem rcheck_any (c : Str.Cfg) (w : World) : Calls Tryz.prog 24 #[cfV c] w fun e w' => e = .returned (.int .i64 (if c.ok = true then 0 else 1)) ∧ Below w.heap.size w w' := by
  obtain ⟨d, r, rows, sp, log, img⟩ := c
  have hb0 : Below w.heap.size w (w.alloc (.cells #[.int .i64 d, .int .i64 r, .int .i64 rows, .int .i64 sp, .int .i64 log, .int .i64 img] 23)) := (Below.refl _ _).alloc (Nat.le_refl _) _
  have hr := IsRow.new w 23 [.int .i64 d, .int .i64 r, .int .i64 rows, .int .i64 sp, .int .i64 log, .int .i64 img]
  obtain ⟨w0, hw0⟩ : ∃ z, w.alloc (.cells #[.int .i64 d, .int .i64 r, .int .i64 rows, .int .i64 sp, .int .i64 log, .int .i64 img] 23) = z := ⟨_, rfl⟩
  have hr : IsRow w0 w.heap.size 23 [.int .i64 d, .int .i64 r, .int .i64 rows, .int .i64 sp, .int .i64 log, .int .i64 img] := by rw [← hw0]; exact hr
  rw [hw0] at hb0
  have k0 := hr.cell 0
  have k1 := hr.cell 1
  have k2 := hr.cell 2
  have k3 := hr.cell 3
  have k4 := hr.cell 4
  have k5 := hr.cell 5
  dsimp only [List.getElem?_cons_zero, List.getElem?_cons_succ] at k0 k1 k2 k3 k4 k5
  have HW0 := Lib.hid hw0
  have HB0 := Lib.hid hb0
  clear hw0 hr hb0
  obtain ⟨Z, hZ⟩ : ∃ Z, (Str.Cfg.mk d r rows sp log img).ok = Z := ⟨_, rfl⟩
  rw [hZ]
  have HZ := Lib.hid hZ
  clear hZ
  unfold cfV
  cases h1 : Str.within d 1 64 with
  | false =>
    obtain rfl : Z = false := by rw [← HZ.out]; unfold Str.Cfg.ok; dsimp only; simp [h1]
    go_enter Tryz.func24, Tryz.ntmps24
    go_upto_region 1 with fail
    rw [HW0.out]
    go_wp2_with (go_at_call 64; refine (rin_any _ _ _ _).mono ?_; rintro e w1 ⟨rfl, hw1⟩; obtain rfl := hw1.symm)
    go_ret
    exact ⟨rfl, HB0.out⟩
  | true =>
    cases h2 : Str.within r 1 8 with
    | false =>
      obtain rfl : Z = false := by rw [← HZ.out]; unfold Str.Cfg.ok; dsimp only; simp [h2]
      go_enter Tryz.func24, Tryz.ntmps24
      go_upto_region 1 with fail
      rw [HW0.out]
      go_wp2_with (go_at_call 64; refine (rin_any _ _ _ _).mono ?_; rintro e w1 ⟨rfl, hw1⟩; obtain rfl := hw1.symm)
      go_ret
      exact ⟨rfl, HB0.out⟩
    | true =>
      cases h3 : Str.within rows 1 4096 with
      | false =>
        obtain rfl : Z = false := by rw [← HZ.out]; unfold Str.Cfg.ok; dsimp only; simp [h3]
        go_enter Tryz.func24, Tryz.ntmps24
        go_upto_region 1 with fail
        rw [HW0.out]
        go_wp2_with (go_at_call 64; refine (rin_any _ _ _ _).mono ?_; rintro e w1 ⟨rfl, hw1⟩; obtain rfl := hw1.symm)
        go_ret
        exact ⟨rfl, HB0.out⟩
      | true =>
        cases h5 : Str.within log 1 65536 with
        | false =>
          obtain rfl : Z = false := by rw [← HZ.out]; unfold Str.Cfg.ok; dsimp only; simp [h5]
          go_enter Tryz.func24, Tryz.ntmps24
          go_upto_region 1 with fail
          rw [HW0.out]
          go_wp2_with (go_at_call 64; refine (rin_any _ _ _ _).mono ?_; rintro e w1 ⟨rfl, hw1⟩; obtain rfl := hw1.symm)
          go_ret
          exact ⟨rfl, HB0.out⟩
        | true =>
          cases h6 : Str.within img 1 65536 with
          | false =>
            obtain rfl : Z = false := by rw [← HZ.out]; unfold Str.Cfg.ok; dsimp only; simp [h6]
            go_enter Tryz.func24, Tryz.ntmps24
            go_upto_region 1 with fail
            rw [HW0.out]
            go_wp2_with (go_at_call 64; refine (rin_any _ _ _ _).mono ?_; rintro e w1 ⟨rfl, hw1⟩; obtain rfl := hw1.symm)
            go_ret
            exact ⟨rfl, HB0.out⟩
          | true =>
            have hdr := Str.within_t h1
            have hrr := Str.within_t h2
            have er : ¬ r = 0 := by omega
            have eq : IntKind.i64.wrap (d.tmod r) = d.tmod r := IntWalk.i64_in _ (by have := Int.tmod_nonneg r (show 0 ≤ d by omega); have := Int.tmod_lt_of_pos d (show 0 < r by omega); omega)
            obtain ⟨M, hM⟩ : ∃ M, d.tmod r = M := ⟨_, rfl⟩
            cases hm : decide (M = 0) with
            | false =>
              have hm' : (M != 0) = true := by simpa using hm
              obtain rfl : Z = false := by rw [← HZ.out]; unfold Str.Cfg.ok; dsimp only; rw [hM, hm]; simp
              rw [hM] at eq
              have hM2 := hM
              clear hm hdr hrr
              go_enter Tryz.func24, Tryz.ntmps24
              go_upto_region 1 with fail
              rw [HW0.out]
              go_wp2_with (go_at_call 64; refine (rin_any _ _ _ _).mono ?_; rintro e w1 ⟨rfl, hw1⟩; obtain rfl := hw1.symm)
              go_ret
              exact ⟨rfl, HB0.out⟩
            | true =>
              have hm' : (M != 0) = false := by simpa using hm
              rw [hM] at eq
              cases h4 : Str.within sp 0 (d - 1) with
              | false =>
                obtain rfl : Z = false := by rw [← HZ.out]; unfold Str.Cfg.ok; dsimp only; simp [h4]
                have es : IntKind.i64.wrap (d - 1) = d - 1 := IntWalk.i64_in _ (by have := Str.within_t h1; omega)
                go_enter Tryz.func24, Tryz.ntmps24
                go_upto_region 1 with fail
                rw [HW0.out]
                go_wp2_with (go_at_call 64; refine (rin_any _ _ _ _).mono ?_; rintro e w1 ⟨rfl, hw1⟩; obtain rfl := hw1.symm)
                go_ret
                exact ⟨rfl, HB0.out⟩
              | true =>
                have es : IntKind.i64.wrap (d - 1) = d - 1 := IntWalk.i64_in _ (by have := Str.within_t h1; omega)
                obtain rfl : Z = true := by rw [← HZ.out]; unfold Str.Cfg.ok; dsimp only; rw [hM, hm]; simp [h1, h2, h3, h5, h6, h4]
                clear hm hdr hrr
                go_enter Tryz.func24, Tryz.ntmps24
                go_upto_region 1 with fail
                rw [HW0.out]
                go_wp2_with (go_at_call 64; refine (rin_any _ _ _ _).mono ?_; rintro e w1 ⟨rfl, hw1⟩; obtain rfl := hw1.symm)
                go_ret
                exact ⟨rfl, HB0.out⟩
end Go.Proofs.YtihhkcndcgljbaaGreat.S
