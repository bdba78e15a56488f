/- Joined texts: StrP, StrA, StrB, StrQ, StrC, StrD. Conditions: as each part says. -/
import Derived.Test.YtfllkaeaanahmaaGreatRows
import Derived.Test.YtfllkaeaanahmaaGreatBase
import Derived.Test.YtfllkaeaanahmaaGreatRow
import Derived.WalkKit
import Derived.WalkSpells
import Derived.WalkLawsBesides
import Derived.Deep.QuietTactic
import Derived.BigQuiet
import Derived.Deep.CutRange
namespace Go.Proofs.YtfllkaeaanahmaaGreat
set_option linter.unusedVariables false
set_option linter.unusedSimpArgs false
section
namespace S
namespace Str
structure Us where
 g : Int
 e : Int
 c : Int
deriving DecidableEq
structure Rw where
 code : Int
 width : Int
 used : List Us
deriving DecidableEq
def free : Rw := ⟨-1, 0, []⟩
def Asc : Int → List Us → Prop
 | _, [] => True
 | lo, u :: l => lo ≤ u.g ∧ Asc (u.g + 1) l
def gap : List Us → Nat → Nat
 | [], k => k
 | u :: l, k => if u.g = (k : Int) then gap l (k + 1) else k
def put (l : List Us) (k : Nat) (e c : Int) : List Us := l.take k ++ ⟨k, e, c⟩ :: l.drop k
def at? (l : List Us) (g : Int) : Option Nat := l.findIdx? (fun u => decide (u.g = g))
structure RowOk (grp : Int → Int) (r : Rw) : Prop where
 ok : r = free ∨ (0 ≤ r.code ∧ r.code < 8 ∧ 1 ≤ r.width ∧ r.width ≤ 32 ∧ r.used ≠ [] ∧ Asc 0 r.used ∧ ∀ u ∈ r.used, u.g < grp r.width)
theorem Asc.mono {lo lo' : Int} {l : List Us} (h : Asc lo l) (hl : lo' ≤ lo) : Asc lo' l := by
 cases l with
 | nil => trivial
 | cons u l => exact ⟨by have := h.1; omega, h.2⟩
theorem Asc.mem {lo : Int} {l : List Us} (h : Asc lo l) : ∀ u ∈ l, lo ≤ u.g := by
 induction l generalizing lo with
 | nil => intro u hu; simp at hu
 | cons a l ih =>
  intro u hu
  rcases List.mem_cons.1 hu with rfl | hu
  ·
   exact h.1
  ·
   have := ih h.2 u hu; have := h.1; omega
theorem Asc.len {lo G : Int} {l : List Us} (h : Asc lo l) (hG : ∀ u ∈ l, u.g < G) (h0 : lo ≤ G) : (l.length : Int) ≤ G - lo := by
 induction l generalizing lo with
 | nil => simp; omega
 | cons a l ih =>
  have h1 := ih h.2 (fun u hu => hG u (List.mem_cons_of_mem _ hu)) (by have := hG a (List.mem_cons_self ..); omega)
  have := h.1
  rw [List.length_cons]; omega
theorem find_none {l : List Us} {g : Int} (h : ∀ u ∈ l, u.g ≠ g) : at? l g = none := by
 unfold at?; rw [List.findIdx?_eq_none_iff]; intro u hu; simpa using h u hu
end Str
end S
end
section
namespace S
open Go.RowKit
namespace Str
structure Cfg where
 d : Int
 r : Int
 rows : Int
 sp : Int
 log : Int
 img : Int
deriving DecidableEq
def within (n lo hi : Int) : Bool := decide (lo ≤ n ∧ n ≤ hi)
theorem within_t {n lo hi : Int} (h : within n lo hi = true) : lo ≤ n ∧ n ≤ hi := of_decide_eq_true h
def Cfg.ok (c : Cfg) : Bool := within c.d 1 64 && within c.r 1 8 && within c.rows 1 4096 && within c.sp 0 (c.d - 1) && within c.log 1 65536 && within c.img 1 65536 && decide (c.d.tmod c.r = 0)
def Cfg.fits (c : Cfg) (w : Int) : Bool := c.ok && decide (1 ≤ w) && decide (w ≤ 32)
def grp (c : Cfg) (w : Int) : Int := if c.fits w = true then (c.d - c.sp).tdiv w else 0
end Str
def cfL (c : Str.Cfg) : List Value := [.int .i64 c.d, .int .i64 c.r, .int .i64 c.rows, .int .i64 c.sp, .int .i64 c.log, .int .i64 c.img]
def cfV (c : Str.Cfg) : Value := .agg #[.int .i64 c.d, .int .i64 c.r, .int .i64 c.rows, .int .i64 c.sp, .int .i64 c.log, .int .i64 c.img]
theorem within_any (n lo hi : Int) (w : World) : Calls Tryz.prog 104 #[.int .i64 n, .int .i64 lo, .int .i64 hi] w fun e w' => e = .returned (.bool (Str.within n lo hi)) ∧ w' = w := by
 obtain ⟨S, hS⟩ : ∃ S, Str.within n lo hi = S := ⟨_, rfl⟩
 rw [hS]
 have hc : (decide (lo ≤ n) = false ∧ S = false) ∨ (decide (lo ≤ n) = true ∧ decide (n ≤ hi) = S) := by
  rw [← hS]; unfold Str.within
  by_cases h1 : lo ≤ n <;> by_cases h2 : n ≤ hi <;> simp [h1, h2]
 clear hS
 rcases hc with ⟨h1, rfl⟩ | ⟨h1, h2⟩
 all_goals
  go_enter Tryz.func104, Tryz.ntmps104
  go_wp2
  go_ret
  exact ⟨rfl, rfl⟩
theorem rin_any (n lo hi : Int) (w : World) : Calls Tryz.prog 87 #[.int .i64 n, .int .i64 lo, .int .i64 hi] w fun e w' => e = .returned (.bool (Str.within n lo hi)) ∧ w' = w := by
 obtain ⟨S, hS⟩ : ∃ S, Str.within n lo hi = S := ⟨_, rfl⟩
 rw [hS]
 have hc : (decide (lo ≤ n) = false ∧ S = false) ∨ (decide (lo ≤ n) = true ∧ decide (n ≤ hi) = S) := by
  rw [← hS]; unfold Str.within
  by_cases h1 : lo ≤ n <;> by_cases h2 : n ≤ hi <;> simp [h1, h2]
 clear hS
 rcases hc with ⟨h1, rfl⟩ | ⟨h1, h2⟩
 all_goals
  go_enter Tryz.func87, Tryz.ntmps87
  go_wp2
  go_ret
  exact ⟨rfl, rfl⟩
set_option maxRecDepth 100000 in
set_option maxHeartbeats 3200000 in
theorem check_any (c : Str.Cfg) (w : World) : Calls Tryz.prog 75 #[cfV c] w fun e w' => e = .returned (.int .i64 (if c.ok = true then 0 else 1)) ∧ Below w.heap.size w w' := by
 obtain ⟨d, r, rows, sp, log, img⟩ := c
 have hb0 : Below w.heap.size w (w.alloc (.cells #[.int .i64 d, .int .i64 r, .int .i64 rows, .int .i64 sp, .int .i64 log, .int .i64 img] 23)) := (Below.refl _ _).alloc (Nat.le_refl _) _
 have hr := IsRow.new w 23 [.int .i64 d, .int .i64 r, .int .i64 rows, .int .i64 sp, .int .i64 log, .int .i64 img]
 obtain ⟨w0, hw0⟩ : ∃ z, w.alloc (.cells #[.int .i64 d, .int .i64 r, .int .i64 rows, .int .i64 sp, .int .i64 log, .int .i64 img] 23) = z := ⟨_, rfl⟩
 have hr : IsRow w0 w.heap.size 23 [.int .i64 d, .int .i64 r, .int .i64 rows, .int .i64 sp, .int .i64 log, .int .i64 img] := by rw [← hw0]; exact hr
 rw [hw0] at hb0
 have k0 := hr.cell 0
 have k1 := hr.cell 1
 have k2 := hr.cell 2
 have k3 := hr.cell 3
 have k4 := hr.cell 4
 have k5 := hr.cell 5
 dsimp only [List.getElem?_cons_zero, List.getElem?_cons_succ] at k0 k1 k2 k3 k4 k5
 have HW0 := Lib.hid hw0
 have HB0 := Lib.hid hb0
 clear hw0 hr hb0
 obtain ⟨Z, hZ⟩ : ∃ Z, (Str.Cfg.mk d r rows sp log img).ok = Z := ⟨_, rfl⟩
 rw [hZ]
 have HZ := Lib.hid hZ
 clear hZ
 unfold cfV
 cases h1 : Str.within d 1 64 with
 | false =>
  obtain rfl : Z = false := by rw [← HZ.out]; unfold Str.Cfg.ok; dsimp only; simp [h1]
  go_enter Tryz.func75, Tryz.ntmps75
  go_upto_region 1 with fail
  rw [HW0.out]
  go_wp2_with (go_at_call 104; refine (within_any _ _ _ _).mono ?_; rintro e w1 ⟨rfl, hw1⟩; obtain rfl := hw1.symm)
  go_ret
  exact ⟨rfl, HB0.out⟩
 | true =>
  cases h2 : Str.within r 1 8 with
  | false =>
   obtain rfl : Z = false := by rw [← HZ.out]; unfold Str.Cfg.ok; dsimp only; simp [h2]
   go_enter Tryz.func75, Tryz.ntmps75
   go_upto_region 1 with fail
   rw [HW0.out]
   go_wp2_with (go_at_call 104; refine (within_any _ _ _ _).mono ?_; rintro e w1 ⟨rfl, hw1⟩; obtain rfl := hw1.symm)
   go_ret
   exact ⟨rfl, HB0.out⟩
  | true =>
   cases h3 : Str.within rows 1 4096 with
   | false =>
    obtain rfl : Z = false := by rw [← HZ.out]; unfold Str.Cfg.ok; dsimp only; simp [h3]
    go_enter Tryz.func75, Tryz.ntmps75
    go_upto_region 1 with fail
    rw [HW0.out]
    go_wp2_with (go_at_call 104; refine (within_any _ _ _ _).mono ?_; rintro e w1 ⟨rfl, hw1⟩; obtain rfl := hw1.symm)
    go_ret
    exact ⟨rfl, HB0.out⟩
   | true =>
    cases h4 : Str.within sp 0 (d - 1) with
    | false =>
     obtain rfl : Z = false := by rw [← HZ.out]; unfold Str.Cfg.ok; dsimp only; simp [h4]
     have es : IntKind.i64.wrap (d - 1) = d - 1 := IntWalk.i64_in _ (by have := Str.within_t h1; omega)
     go_enter Tryz.func75, Tryz.ntmps75
     go_upto_region 1 with fail
     rw [HW0.out]
     go_wp2_with (go_at_call 104; refine (within_any _ _ _ _).mono ?_; rintro e w1 ⟨rfl, hw1⟩; obtain rfl := hw1.symm)
     go_ret
     exact ⟨rfl, HB0.out⟩
    | true =>
     have es : IntKind.i64.wrap (d - 1) = d - 1 := IntWalk.i64_in _ (by have := Str.within_t h1; omega)
     cases h5 : Str.within log 1 65536 with
     | false =>
      obtain rfl : Z = false := by rw [← HZ.out]; unfold Str.Cfg.ok; dsimp only; simp [h5]
      go_enter Tryz.func75, Tryz.ntmps75
      go_upto_region 1 with fail
      rw [HW0.out]
      go_wp2_with (go_at_call 104; refine (within_any _ _ _ _).mono ?_; rintro e w1 ⟨rfl, hw1⟩; obtain rfl := hw1.symm)
      go_ret
      exact ⟨rfl, HB0.out⟩
     | true =>
      cases h6 : Str.within img 1 65536 with
      | false =>
       obtain rfl : Z = false := by rw [← HZ.out]; unfold Str.Cfg.ok; dsimp only; simp [h6]
       go_enter Tryz.func75, Tryz.ntmps75
       go_upto_region 1 with fail
       rw [HW0.out]
       go_wp2_with (go_at_call 104; refine (within_any _ _ _ _).mono ?_; rintro e w1 ⟨rfl, hw1⟩; obtain rfl := hw1.symm)
       go_ret
       exact ⟨rfl, HB0.out⟩
      | true =>
       have hdr := Str.within_t h1
       have hrr := Str.within_t h2
       have er : ¬ r = 0 := by omega
       have eq : IntKind.i64.wrap (d.tmod r) = d.tmod r := IntWalk.i64_in _ (by have := Int.tmod_nonneg r (show 0 ≤ d by omega); have := Int.tmod_lt_of_pos d (show 0 < r by omega); omega)
       obtain ⟨M, hM⟩ : ∃ M, d.tmod r = M := ⟨_, rfl⟩
       cases hm : decide (M = 0) with
       | false =>
        have hm' : (M != 0) = true := by simpa using hm
        obtain rfl : Z = false := by rw [← HZ.out]; unfold Str.Cfg.ok; dsimp only; rw [hM, hm]; simp
        rw [hM] at eq
        clear hm hdr hrr
        go_enter Tryz.func75, Tryz.ntmps75
        go_upto_region 1 with fail
        rw [HW0.out]
        go_wp2_with (go_at_call 104; refine (within_any _ _ _ _).mono ?_; rintro e w1 ⟨rfl, hw1⟩; obtain rfl := hw1.symm)
        go_ret
        exact ⟨rfl, HB0.out⟩
       | true =>
        have hm' : (M != 0) = false := by simpa using hm
        rw [hM] at eq
        obtain rfl : Z = true := by rw [← HZ.out]; unfold Str.Cfg.ok; dsimp only; rw [hM, hm]; simp [h1, h2, h3, h4, h5, h6]
        clear hm hdr hrr
        go_enter Tryz.func75, Tryz.ntmps75
        go_upto_region 1 with fail
        rw [HW0.out]
        go_wp2_with (go_at_call 104; refine (within_any _ _ _ _).mono ?_; rintro e w1 ⟨rfl, hw1⟩; obtain rfl := hw1.symm)
        go_ret
        exact ⟨rfl, HB0.out⟩
set_option maxRecDepth 100000 in
set_option maxHeartbeats 3200000 in
theorem rcheck_any (c : Str.Cfg) (w : World) : Calls Tryz.prog 52 #[cfV c] w fun e w' => e = .returned (.int .i64 (if c.ok = true then 0 else 1)) ∧ Below w.heap.size w w' := by
 obtain ⟨d, r, rows, sp, log, img⟩ := c
 have hb0 : Below w.heap.size w (w.alloc (.cells #[.int .i64 d, .int .i64 r, .int .i64 rows, .int .i64 sp, .int .i64 log, .int .i64 img] 23)) := (Below.refl _ _).alloc (Nat.le_refl _) _
 have hr := IsRow.new w 23 [.int .i64 d, .int .i64 r, .int .i64 rows, .int .i64 sp, .int .i64 log, .int .i64 img]
 obtain ⟨w0, hw0⟩ : ∃ z, w.alloc (.cells #[.int .i64 d, .int .i64 r, .int .i64 rows, .int .i64 sp, .int .i64 log, .int .i64 img] 23) = z := ⟨_, rfl⟩
 have hr : IsRow w0 w.heap.size 23 [.int .i64 d, .int .i64 r, .int .i64 rows, .int .i64 sp, .int .i64 log, .int .i64 img] := by rw [← hw0]; exact hr
 rw [hw0] at hb0
 have k0 := hr.cell 0
 have k1 := hr.cell 1
 have k2 := hr.cell 2
 have k3 := hr.cell 3
 have k4 := hr.cell 4
 have k5 := hr.cell 5
 dsimp only [List.getElem?_cons_zero, List.getElem?_cons_succ] at k0 k1 k2 k3 k4 k5
 have HW0 := Lib.hid hw0
 have HB0 := Lib.hid hb0
 clear hw0 hr hb0
 obtain ⟨Z, hZ⟩ : ∃ Z, (Str.Cfg.mk d r rows sp log img).ok = Z := ⟨_, rfl⟩
 rw [hZ]
 have HZ := Lib.hid hZ
 clear hZ
 unfold cfV
 cases h1 : Str.within d 1 64 with
 | false =>
  obtain rfl : Z = false := by rw [← HZ.out]; unfold Str.Cfg.ok; dsimp only; simp [h1]
  go_enter Tryz.func52, Tryz.ntmps52
  go_upto_region 1 with fail
  rw [HW0.out]
  go_wp2_with (go_at_call 87; refine (rin_any _ _ _ _).mono ?_; rintro e w1 ⟨rfl, hw1⟩; obtain rfl := hw1.symm)
  go_ret
  exact ⟨rfl, HB0.out⟩
 | true =>
  cases h2 : Str.within r 1 8 with
  | false =>
   obtain rfl : Z = false := by rw [← HZ.out]; unfold Str.Cfg.ok; dsimp only; simp [h2]
   go_enter Tryz.func52, Tryz.ntmps52
   go_upto_region 1 with fail
   rw [HW0.out]
   go_wp2_with (go_at_call 87; refine (rin_any _ _ _ _).mono ?_; rintro e w1 ⟨rfl, hw1⟩; obtain rfl := hw1.symm)
   go_ret
   exact ⟨rfl, HB0.out⟩
  | true =>
   cases h3 : Str.within rows 1 4096 with
   | false =>
    obtain rfl : Z = false := by rw [← HZ.out]; unfold Str.Cfg.ok; dsimp only; simp [h3]
    go_enter Tryz.func52, Tryz.ntmps52
    go_upto_region 1 with fail
    rw [HW0.out]
    go_wp2_with (go_at_call 87; refine (rin_any _ _ _ _).mono ?_; rintro e w1 ⟨rfl, hw1⟩; obtain rfl := hw1.symm)
    go_ret
    exact ⟨rfl, HB0.out⟩
   | true =>
    cases h5 : Str.within log 1 65536 with
    | false =>
     obtain rfl : Z = false := by rw [← HZ.out]; unfold Str.Cfg.ok; dsimp only; simp [h5]
     go_enter Tryz.func52, Tryz.ntmps52
     go_upto_region 1 with fail
     rw [HW0.out]
     go_wp2_with (go_at_call 87; refine (rin_any _ _ _ _).mono ?_; rintro e w1 ⟨rfl, hw1⟩; obtain rfl := hw1.symm)
     go_ret
     exact ⟨rfl, HB0.out⟩
    | true =>
     cases h6 : Str.within img 1 65536 with
     | false =>
      obtain rfl : Z = false := by rw [← HZ.out]; unfold Str.Cfg.ok; dsimp only; simp [h6]
      go_enter Tryz.func52, Tryz.ntmps52
      go_upto_region 1 with fail
      rw [HW0.out]
      go_wp2_with (go_at_call 87; refine (rin_any _ _ _ _).mono ?_; rintro e w1 ⟨rfl, hw1⟩; obtain rfl := hw1.symm)
      go_ret
      exact ⟨rfl, HB0.out⟩
     | true =>
      have hdr := Str.within_t h1
      have hrr := Str.within_t h2
      have er : ¬ r = 0 := by omega
      have eq : IntKind.i64.wrap (d.tmod r) = d.tmod r := IntWalk.i64_in _ (by have := Int.tmod_nonneg r (show 0 ≤ d by omega); have := Int.tmod_lt_of_pos d (show 0 < r by omega); omega)
      obtain ⟨M, hM⟩ : ∃ M, d.tmod r = M := ⟨_, rfl⟩
      cases hm : decide (M = 0) with
      | false =>
       have hm' : (M != 0) = true := by simpa using hm
       obtain rfl : Z = false := by rw [← HZ.out]; unfold Str.Cfg.ok; dsimp only; rw [hM, hm]; simp
       rw [hM] at eq
       have hM2 := hM
       clear hm hdr hrr
       go_enter Tryz.func52, Tryz.ntmps52
       go_upto_region 1 with fail
       rw [HW0.out]
       go_wp2_with (go_at_call 87; refine (rin_any _ _ _ _).mono ?_; rintro e w1 ⟨rfl, hw1⟩; obtain rfl := hw1.symm)
       go_ret
       exact ⟨rfl, HB0.out⟩
      | true =>
       have hm' : (M != 0) = false := by simpa using hm
       rw [hM] at eq
       cases h4 : Str.within sp 0 (d - 1) with
       | false =>
        obtain rfl : Z = false := by rw [← HZ.out]; unfold Str.Cfg.ok; dsimp only; simp [h4]
        have es : IntKind.i64.wrap (d - 1) = d - 1 := IntWalk.i64_in _ (by have := Str.within_t h1; omega)
        go_enter Tryz.func52, Tryz.ntmps52
        go_upto_region 1 with fail
        rw [HW0.out]
        go_wp2_with (go_at_call 87; refine (rin_any _ _ _ _).mono ?_; rintro e w1 ⟨rfl, hw1⟩; obtain rfl := hw1.symm)
        go_ret
        exact ⟨rfl, HB0.out⟩
       | true =>
        have es : IntKind.i64.wrap (d - 1) = d - 1 := IntWalk.i64_in _ (by have := Str.within_t h1; omega)
        obtain rfl : Z = true := by rw [← HZ.out]; unfold Str.Cfg.ok; dsimp only; rw [hM, hm]; simp [h1, h2, h3, h5, h6, h4]
        clear hm hdr hrr
        go_enter Tryz.func52, Tryz.ntmps52
        go_upto_region 1 with fail
        rw [HW0.out]
        go_wp2_with (go_at_call 87; refine (rin_any _ _ _ _).mono ?_; rintro e w1 ⟨rfl, hw1⟩; obtain rfl := hw1.symm)
        go_ret
        exact ⟨rfl, HB0.out⟩
end S
end
section
namespace S
open Go.RowKit
theorem sizeCf : (Tryz.prog.info? 23).map (·.size) = some 6 := by kernel_rfl
theorem Str.Cfg.ok_d {c : Str.Cfg} (h : c.ok = true) : (1 ≤ c.d ∧ c.d ≤ 64) ∧ (0 ≤ c.sp ∧ c.sp ≤ c.d - 1) ∧ (1 ≤ c.rows ∧ c.rows ≤ 4096) := by
 unfold Str.Cfg.ok at h
 simp only [Bool.and_eq_true] at h
 obtain ⟨⟨⟨⟨⟨⟨h1, _⟩, h3⟩, h4⟩, _⟩, _⟩, _⟩ := h
 exact ⟨Str.within_t h1, Str.within_t h4, Str.within_t h3⟩
theorem Str.Cfg.fits_cases (c : Str.Cfg) (wd : Int) : (c.ok = false ∧ c.fits wd = false) ∨ (c.ok = true ∧ decide (1 ≤ wd) = false ∧ c.fits wd = false) ∨ (c.ok = true ∧ decide (1 ≤ wd) = true ∧ decide (wd ≤ 32) = c.fits wd) := by
 unfold Str.Cfg.fits
 cases h1 : c.ok with
 | false => exact .inl ⟨rfl, by simp⟩
 | true =>
  cases h2 : decide (1 ≤ wd) with
  | false => exact .inr (.inl ⟨rfl, rfl, by simp⟩)
  | true => exact .inr (.inr ⟨rfl, rfl, by simp⟩)
set_option maxRecDepth 100000 in
set_option maxHeartbeats 1600000 in
theorem lvalid_any (c : Str.Cfg) (wd : Int) (w : World) : Calls Tryz.prog 120 #[cfV c, .int .i64 wd] w fun e w' => e = .returned (.bool (c.fits wd)) ∧ Below w.heap.size w w' := by
 have hb0 : Below w.heap.size w (w.alloc (.cells (cfL c).toArray 23)) := (Below.refl _ _).alloc (Nat.le_refl _) _
 have hr := IsRow.new w 23 (cfL c)
 obtain ⟨w0, hw0⟩ : ∃ z, w.alloc (.cells (cfL c).toArray 23) = z := ⟨_, rfl⟩
 rw [hw0] at hb0 hr
 have HW0 : Hid (w.alloc (.cells #[.int .i64 c.d, .int .i64 c.r, .int .i64 c.rows, .int .i64 c.sp, .int .i64 c.log, .int .i64 c.img] 23) = w0) := Lib.hid hw0
 have HB0 := Lib.hid hb0
 have hrg : w0.rangeAt w.heap.size 0 (cfL c) := fun j v hv => by rw [Nat.zero_add, hr.cell]; exact hv
 have HCK := Lib.hid (check_any c w0)
 have HCA := Lib.hid (Str.Cfg.fits_cases c wd)
 obtain ⟨Z, hZ⟩ : ∃ Z, c.fits wd = Z := ⟨_, rfl⟩
 rw [hZ] at HCA ⊢
 obtain ⟨O, hO⟩ : ∃ O, c.ok = O := ⟨_, rfl⟩
 rw [hO] at HCA HCK
 have HCV : Hid (cfV c = .agg (cfL c).toArray) := Lib.hid rfl
 obtain ⟨cl, hcl⟩ : ∃ y, cfL c = y := ⟨_, rfl⟩
 have HLN : Hid (cl.length = 6) := Lib.hid (by rw [← hcl]; rfl)
 rw [hcl] at hrg HCV
 rw [HCV.out] at HCK
 clear hw0 hb0 hr hZ hO hcl
 unfold cfV
 go_enter Tryz.func120, Tryz.ntmps120
 go_upto_region 1 with fail
 rw [HW0.out]
 rcases HCA.out with ⟨rfl, rfl⟩ | ⟨rfl, h2, rfl⟩ | ⟨rfl, h2, h3⟩
 all_goals
  go_wp2_with (first
   | (refine wpList_load_mid rfl _ (.tmp 2) rfl w.heap.size 0 rfl cl _ hrg Tryz.underlying23 rfl (by rw [HLN.out]; exact sizeCf) ?_)
   | (go_at_call 75; refine HCK.out.mono ?_; rintro e w1 ⟨rfl, b1⟩))
  go_ret
  exact ⟨rfl, HB0.out.trans (b1.mono HB0.out.size)⟩
theorem quo_in {c : Str.Cfg} {wd : Int} (h : c.fits wd = true) : IntKind.i64.wrap (c.d - c.sp) = c.d - c.sp ∧ ¬ wd = 0 ∧ IntKind.i64.wrap ((c.d - c.sp).tdiv wd) = (c.d - c.sp).tdiv wd := by
 unfold Str.Cfg.fits at h
 simp only [Bool.and_eq_true] at h
 obtain ⟨⟨h1, h2⟩, h3⟩ := h
 have h2 := of_decide_eq_true h2
 have h3 := of_decide_eq_true h3
 obtain ⟨⟨a1, a2⟩, ⟨b1, b2⟩, _⟩ := Str.Cfg.ok_d h1
 refine ⟨IntWalk.i64_in _ (by omega), by omega, IntWalk.i64_in _ ?_⟩
 have h4 := Int.tdiv_nonneg (show 0 ≤ c.d - c.sp by omega) (show 0 ≤ wd by omega)
 have h5 := Int.tdiv_le_self wd (show 0 ≤ c.d - c.sp by omega)
 omega
set_option maxRecDepth 100000 in
set_option maxHeartbeats 1600000 in
theorem groups_any (c : Str.Cfg) (wd : Int) (w : World) : Calls Tryz.prog 105 #[cfV c, .int .i64 wd] w fun e w' => e = .returned (.int .i64 (Str.grp c wd)) ∧ Below w.heap.size w w' := by
 have hb0 : Below w.heap.size w (w.alloc (.cells (cfL c).toArray 23)) := (Below.refl _ _).alloc (Nat.le_refl _) _
 have hr := IsRow.new w 23 (cfL c)
 obtain ⟨w0, hw0⟩ : ∃ z, w.alloc (.cells (cfL c).toArray 23) = z := ⟨_, rfl⟩
 rw [hw0] at hb0 hr
 have HW0 : Hid (w.alloc (.cells #[.int .i64 c.d, .int .i64 c.r, .int .i64 c.rows, .int .i64 c.sp, .int .i64 c.log, .int .i64 c.img] 23) = w0) := Lib.hid hw0
 have HB0 := Lib.hid hb0
 have hrg : w0.rangeAt w.heap.size 0 (cfL c) := fun j v hv => by rw [Nat.zero_add, hr.cell]; exact hv
 have HCE := Lib.hid (fun W (hW : Below w0.heap.size w0 W) => And.intro (show W.cell? ⟨w.heap.size, 0, none⟩ = some (.int .i64 c.d) from (hr.below' hW).cell 0) (show W.cell? ⟨w.heap.size, 3, none⟩ = some (.int .i64 c.sp) from (hr.below' hW).cell 3))
 have HCK := Lib.hid (lvalid_any c wd w0)
 obtain ⟨Z, hZ⟩ : ∃ Z, c.fits wd = Z := ⟨_, rfl⟩
 rw [hZ] at HCK
 have HG : Hid (Str.grp c wd = if Z = true then (c.d - c.sp).tdiv wd else 0) := Lib.hid (by unfold Str.grp; rw [hZ])
 have HQ := Lib.hid (fun h => quo_in (c := c) (wd := wd) (hZ.trans h))
 have HCV : Hid (cfV c = .agg (cfL c).toArray) := Lib.hid rfl
 obtain ⟨cl, hcl⟩ : ∃ y, cfL c = y := ⟨_, rfl⟩
 have HLN : Hid (cl.length = 6) := Lib.hid (by rw [← hcl]; rfl)
 rw [hcl] at hrg HCV
 rw [HCV.out] at HCK
 rw [HG.out]
 clear hw0 hb0 hr hZ hcl
 unfold cfV
 go_enter Tryz.func105, Tryz.ntmps105
 go_upto_region 1 with fail
 rw [HW0.out]
 cases Z with
 | false =>
  go_wp2_with (first
   | (refine wpList_load_mid rfl _ (.tmp 2) rfl w.heap.size 0 rfl cl _ hrg Tryz.underlying23 rfl (by rw [HLN.out]; exact sizeCf) ?_)
   | (go_at_call 120; refine HCK.out.mono ?_; rintro e w1 ⟨rfl, b1⟩))
  go_ret
  exact ⟨rfl, HB0.out.trans (b1.mono HB0.out.size)⟩
 | true =>
  obtain ⟨q1, q2, q3⟩ : IntKind.i64.wrap (c.d - c.sp) = c.d - c.sp ∧ ¬ wd = 0 ∧ IntKind.i64.wrap ((c.d - c.sp).tdiv wd) = (c.d - c.sp).tdiv wd := by have := HQ.out; first | exact this rfl | exact this trivial
  go_upto_region 3 with (first
   | (refine wpList_load_mid rfl _ (.tmp 2) rfl w.heap.size 0 rfl cl _ hrg Tryz.underlying23 rfl (by rw [HLN.out]; exact sizeCf) ?_)
   | (go_at_call 120; refine HCK.out.mono ?_; rintro e w1 ⟨rfl, b1⟩))
  obtain ⟨k0, k3⟩ := HCE.out w1 b1
  go_wp2_with fail
  go_ret
  exact ⟨rfl, HB0.out.trans (b1.mono HB0.out.size)⟩
set_option maxRecDepth 100000 in
set_option maxHeartbeats 1600000 in
theorem rlvalid_any (c : Str.Cfg) (wd : Int) (w : World) : Calls Tryz.prog 121 #[cfV c, .int .i64 wd] w fun e w' => e = .returned (.bool (c.fits wd)) ∧ Below w.heap.size w w' := by
 have hb0 : Below w.heap.size w (w.alloc (.cells (cfL c).toArray 23)) := (Below.refl _ _).alloc (Nat.le_refl _) _
 have hr := IsRow.new w 23 (cfL c)
 obtain ⟨w0, hw0⟩ : ∃ z, w.alloc (.cells (cfL c).toArray 23) = z := ⟨_, rfl⟩
 rw [hw0] at hb0 hr
 have HW0 : Hid (w.alloc (.cells #[.int .i64 c.d, .int .i64 c.r, .int .i64 c.rows, .int .i64 c.sp, .int .i64 c.log, .int .i64 c.img] 23) = w0) := Lib.hid hw0
 have HB0 := Lib.hid hb0
 have hrg : w0.rangeAt w.heap.size 0 (cfL c) := fun j v hv => by rw [Nat.zero_add, hr.cell]; exact hv
 have HCK := Lib.hid (rcheck_any c w0)
 have HCA := Lib.hid (Str.Cfg.fits_cases c wd)
 obtain ⟨Z, hZ⟩ : ∃ Z, c.fits wd = Z := ⟨_, rfl⟩
 rw [hZ] at HCA ⊢
 obtain ⟨O, hO⟩ : ∃ O, c.ok = O := ⟨_, rfl⟩
 rw [hO] at HCA HCK
 have HCV : Hid (cfV c = .agg (cfL c).toArray) := Lib.hid rfl
 obtain ⟨cl, hcl⟩ : ∃ y, cfL c = y := ⟨_, rfl⟩
 have HLN : Hid (cl.length = 6) := Lib.hid (by rw [← hcl]; rfl)
 rw [hcl] at hrg HCV
 rw [HCV.out] at HCK
 clear hw0 hb0 hr hZ hO hcl
 unfold cfV
 go_enter Tryz.func121, Tryz.ntmps121
 go_upto_region 1 with fail
 rw [HW0.out]
 rcases HCA.out with ⟨rfl, rfl⟩ | ⟨rfl, h2, rfl⟩ | ⟨rfl, h2, h3⟩
 all_goals
  go_wp2_with (first
   | (refine wpList_load_mid rfl _ (.tmp 2) rfl w.heap.size 0 rfl cl _ hrg Tryz.underlying23 rfl (by rw [HLN.out]; exact sizeCf) ?_)
   | (go_at_call 52; refine HCK.out.mono ?_; rintro e w1 ⟨rfl, b1⟩))
  go_ret
  exact ⟨rfl, HB0.out.trans (b1.mono HB0.out.size)⟩
set_option maxRecDepth 100000 in
set_option maxHeartbeats 1600000 in
theorem rgroups_any (c : Str.Cfg) (wd : Int) (w : World) : Calls Tryz.prog 109 #[cfV c, .int .i64 wd] w fun e w' => e = .returned (.int .i64 (Str.grp c wd)) ∧ Below w.heap.size w w' := by
 have hb0 : Below w.heap.size w (w.alloc (.cells (cfL c).toArray 23)) := (Below.refl _ _).alloc (Nat.le_refl _) _
 have hr := IsRow.new w 23 (cfL c)
 obtain ⟨w0, hw0⟩ : ∃ z, w.alloc (.cells (cfL c).toArray 23) = z := ⟨_, rfl⟩
 rw [hw0] at hb0 hr
 have HW0 : Hid (w.alloc (.cells #[.int .i64 c.d, .int .i64 c.r, .int .i64 c.rows, .int .i64 c.sp, .int .i64 c.log, .int .i64 c.img] 23) = w0) := Lib.hid hw0
 have HB0 := Lib.hid hb0
 have hrg : w0.rangeAt w.heap.size 0 (cfL c) := fun j v hv => by rw [Nat.zero_add, hr.cell]; exact hv
 have HCE := Lib.hid (fun W (hW : Below w0.heap.size w0 W) => And.intro (show W.cell? ⟨w.heap.size, 0, none⟩ = some (.int .i64 c.d) from (hr.below' hW).cell 0) (show W.cell? ⟨w.heap.size, 3, none⟩ = some (.int .i64 c.sp) from (hr.below' hW).cell 3))
 have HCK := Lib.hid (rlvalid_any c wd w0)
 obtain ⟨Z, hZ⟩ : ∃ Z, c.fits wd = Z := ⟨_, rfl⟩
 rw [hZ] at HCK
 have HG : Hid (Str.grp c wd = if Z = true then (c.d - c.sp).tdiv wd else 0) := Lib.hid (by unfold Str.grp; rw [hZ])
 have HQ := Lib.hid (fun h => quo_in (c := c) (wd := wd) (hZ.trans h))
 have HCV : Hid (cfV c = .agg (cfL c).toArray) := Lib.hid rfl
 obtain ⟨cl, hcl⟩ : ∃ y, cfL c = y := ⟨_, rfl⟩
 have HLN : Hid (cl.length = 6) := Lib.hid (by rw [← hcl]; rfl)
 rw [hcl] at hrg HCV
 rw [HCV.out] at HCK
 rw [HG.out]
 clear hw0 hb0 hr hZ hcl
 unfold cfV
 go_enter Tryz.func109, Tryz.ntmps109
 go_upto_region 1 with fail
 rw [HW0.out]
 cases Z with
 | false =>
  go_wp2_with (first
   | (refine wpList_load_mid rfl _ (.tmp 2) rfl w.heap.size 0 rfl cl _ hrg Tryz.underlying23 rfl (by rw [HLN.out]; exact sizeCf) ?_)
   | (go_at_call 121; refine HCK.out.mono ?_; rintro e w1 ⟨rfl, b1⟩))
  go_ret
  exact ⟨rfl, HB0.out.trans (b1.mono HB0.out.size)⟩
 | true =>
  obtain ⟨q1, q2, q3⟩ : IntKind.i64.wrap (c.d - c.sp) = c.d - c.sp ∧ ¬ wd = 0 ∧ IntKind.i64.wrap ((c.d - c.sp).tdiv wd) = (c.d - c.sp).tdiv wd := by have := HQ.out; first | exact this rfl | exact this trivial
  go_upto_region 4 with (first
   | (refine wpList_load_mid rfl _ (.tmp 2) rfl w.heap.size 0 rfl cl _ hrg Tryz.underlying23 rfl (by rw [HLN.out]; exact sizeCf) ?_)
   | (go_at_call 121; refine HCK.out.mono ?_; rintro e w1 ⟨rfl, b1⟩))
  obtain ⟨k0, k3⟩ := HCE.out w1 b1
  go_wp2_with fail
  go_ret
  exact ⟨rfl, HB0.out.trans (b1.mono HB0.out.size)⟩
end S
end
section
namespace S
namespace Str
theorem getD_of {l : List Rw} {k : Nat} {x : Rw} (h : l[k]? = some x) : l.getD k free = x := by simp [List.getD, h]
def ascB (G : Int) : Int → List Us → Bool
 | _, [] => true
 | lo, u :: l => decide (lo ≤ u.g) && decide (u.g < G) && ascB G (u.g + 1) l
theorem ascB_iff {G : Int} : ∀ {l : List Us} {lo : Int}, ascB G lo l = true ↔ Asc lo l ∧ ∀ u ∈ l, u.g < G
 | [], lo => by simp [ascB, Asc]
 | u :: l, lo => by
  unfold ascB
  rw [Bool.and_eq_true, Bool.and_eq_true, ascB_iff, decide_eq_true_iff, decide_eq_true_iff]
  constructor
  ·
   rintro ⟨⟨h1, h2⟩, h3, h4⟩
   exact ⟨⟨h1, h3⟩, fun v hv => by
    rcases List.mem_cons.1 hv with rfl | hv
    ·
     exact h2
    ·
     exact h4 v hv⟩
  ·
   rintro ⟨⟨h1, h3⟩, h4⟩
   exact ⟨⟨h1, h4 u (List.mem_cons_self ..)⟩, h3, fun v hv => h4 v (List.mem_cons_of_mem _ hv)⟩
def codeB (r : Rw) : Bool := decide (0 ≤ r.code) && decide (r.code < 8) && decide (1 ≤ r.width) && decide (r.width ≤ 32) && decide (r.used.length ≠ 0)
def right (cf : Cfg) (r : Rw) : Bool := if r.code = -1 then decide (r.width = 0) && decide (r.used.length = 0) else codeB r && ascB (grp cf r.width) 0 r.used
theorem right_iff {cf : Cfg} {r : Rw} : right cf r = true ↔ RowOk (grp cf) r := by
 unfold right
 by_cases h : r.code = -1
 ·
  rw [if_pos h, Bool.and_eq_true, decide_eq_true_iff, decide_eq_true_iff]
  constructor
  ·
   rintro ⟨h1, h2⟩
   refine ⟨.inl ?_⟩
   obtain ⟨c, w, u⟩ := r
   dsimp only at h h1 h2
   rw [List.length_eq_zero_iff] at h2
   rw [h, h1, h2]; rfl
  ·
   rintro ⟨h1 | h1⟩
   ·
    rw [h1]; exact ⟨rfl, rfl⟩
   ·
    omega
 ·
  rw [if_neg h]
  unfold codeB
  simp only [Bool.and_eq_true, decide_eq_true_iff, ascB_iff]
  constructor
  ·
   rintro ⟨⟨⟨⟨⟨h1, h2⟩, h3⟩, h4⟩, h5⟩, h6, h7⟩
   exact ⟨.inr ⟨h1, h2, h3, h4, fun e => h5 (by rw [e]; rfl), h6, h7⟩⟩
  ·
   rintro ⟨h1 | ⟨h1, h2, h3, h4, h5, h6, h7⟩⟩
   ·
    rw [h1] at h; exact absurd rfl h
   ·
    exact ⟨⟨⟨⟨⟨h1, h2⟩, h3⟩, h4⟩, fun e => h5 (List.length_eq_zero_iff.1 e)⟩, h6, h7⟩
def Same (l : List Rw) : Prop := ∀ r ∈ l, ∀ s ∈ l, r.code = s.code → r.width = s.width
structure Valid (cf : Cfg) (l : List Rw) : Prop where
 ok : cf.ok = true
 len : (l.length : Int) = cf.rows
 rows : ∀ r ∈ l, RowOk (grp cf) r
 same : Same l
end Str
end S
end
section
namespace S
open Go.RowKit
theorem wpList_load_rg {P : Program} {w : World} {ops : Array Oper} {rest : List Oper} {o : Oper} {a : Act} {Q : Exit → Act → World → Prop} (hw : Region.wanted o (yielded ops a.tmps) = true) (ty : TypeId) (x : Operand) (ho : o.op = .load ty x) (b off : Nat) (hx : a.eval x = .pointer (some ⟨b, off, none⟩)) (l : List Value) (ud : TypeDesc) (hr : w.rangeAt b off l)
  (hu : P.underlying ty = some ud) (ha : ud.isRow = true) (hi : (P.info? ty).map (·.size) = some l.length) (h : wpList P ops Q rest (a.put o.dst (.agg l.toArray)) w) : wpList P ops Q (o :: rest) a w :=
 wpList_step fun K hK => by
  rw [if_pos hw]
  exact wp_load_mid ty x ho b off hx l _ hr hu ha hi (hK _ _ h)
theorem sizeUs : (Tryz.prog.info? 72).map (·.size) = some 3 := by kernel_rfl
theorem sizeRw : (Tryz.prog.info? 102).map (·.size) = some 3 := by kernel_rfl
def usL (u : Str.Us) : List Value := [.int .i64 u.g, .int .i64 u.e, .int .i64 u.c]
structure RR where
 r : Str.Rw
 A : Option Addr
 k : Nat
def RR.v (x : RR) : Value := .slice x.A x.r.used.length x.k
def rwL (x : RR) : List Value := [.int .i64 x.r.code, .int .i64 x.r.width, x.v]
structure RR.Ok (w : World) (B : Nat) (x : RR) : Prop where
 rd : Rd w B 3 x.A x.r.used.length (x.r.used.flatMap usL)
 le : x.r.used.length ≤ x.k
 mx : x.r.used.length ≤ 65536
structure RR.In (w : World) (B : Nat) (x : RR) : Prop where
 rd : Rd w B 3 x.A x.r.used.length (x.r.used.flatMap usL)
 le : x.r.used.length ≤ x.k
 mx : x.r.used.length ≤ 140737488355328
theorem RR.Ok.wide {w : World} {B : Nat} {x : RR} (h : x.Ok w B) : x.In w B := ⟨h.rd, h.le, Nat.le_trans h.mx (by omega)⟩
theorem RR.In.ok {w : World} {B : Nat} {x : RR} (h : x.In w B) (hm : x.r.used.length ≤ 65536) : x.Ok w B := ⟨h.rd, h.le, hm⟩
structure RowsAt (w : World) (B : Nat) (A : Option Addr) (n : Nat) (D : List RR) (l : List Str.Rw) : Prop where
 rd : Rd w B 3 A n (D.flatMap rwL)
 rs : D.map RR.r = l
 us : ∀ x ∈ D, x.Ok w B
 mx : n ≤ 65536
structure RowsIn (w : World) (B : Nat) (A : Option Addr) (n : Nat) (D : List RR) (l : List Str.Rw) : Prop where
 rd : Rd w B 3 A n (D.flatMap rwL)
 rs : D.map RR.r = l
 us : ∀ x ∈ D, x.In w B
 mx : n ≤ 140737488355328
theorem RowsAt.wide {w : World} {B n : Nat} {A : Option Addr} {D : List RR} {l : List Str.Rw} (h : RowsAt w B A n D l) : RowsIn w B A n D l := ⟨h.rd, h.rs, fun x hx => (h.us x hx).wide, Nat.le_trans h.mx (by omega)⟩
theorem RowsIn.at_ {w : World} {B n : Nat} {A : Option Addr} {D : List RR} {l : List Str.Rw} (h : RowsIn w B A n D l) (hn : n ≤ 65536) (hu : ∀ r ∈ l, r.used.length ≤ 65536) : RowsAt w B A n D l :=
 ⟨h.rd, h.rs, fun x hx => (h.us x hx).ok (hu x.r (by rw [← h.rs]; exact List.mem_map_of_mem hx)), hn⟩
theorem usL_len (u : Str.Us) : (usL u).length = 3 := rfl
theorem rwL_len (x : RR) : (rwL x).length = 3 := rfl
section
variable {w w' : World} {B B' n : Nat} {A : Option Addr} {D : List RR} {l : List Str.Rw} {x : RR}
theorem RR.Ok.below (h : x.Ok w B) (hb : Below B w w') : x.Ok w' B := ⟨h.rd.below hb, h.le, h.mx⟩
theorem RR.Ok.more (h : x.Ok w B) (hb : B ≤ B') : x.Ok w B' := ⟨h.rd.more hb, h.le, h.mx⟩
theorem RowsAt.below (h : RowsAt w B A n D l) (hb : Below B w w') : RowsAt w' B A n D l := ⟨h.rd.below hb, h.rs, fun x hx => (h.us x hx).below hb, h.mx⟩
theorem RowsAt.more (h : RowsAt w B A n D l) (hb : B ≤ B') : RowsAt w B' A n D l := ⟨h.rd.more hb, h.rs, fun x hx => (h.us x hx).more hb, h.mx⟩
theorem RowsAt.len (h : RowsAt w B A n D l) : D.length = n ∧ l.length = n := by
 have h1 : (D.flatMap rwL).length = D.length * 3 := flatMap_len fun x _ => rwL_len x
 have h2 := h.rd.1
 have h3 : D.length = l.length := by rw [← h.rs, List.length_map]
 omega
theorem RowsAt.at (h : RowsAt w B A n D l) {k : Nat} (hk : k < n) : ∃ b off x, A = some ⟨b, off, none⟩ ∧ b < B ∧ D[k]? = some x ∧ l[k]? = some x.r ∧ x.Ok w B ∧ w.rangeAt b (off + k * 3) (rwL x) ∧ w.cell? ⟨b, off + k * 3, none⟩ = some (.int .i64 x.r.code) ∧ w.cell? ⟨b, off + k * 3 + 1, none⟩ = some (.int .i64 x.r.width) ∧ w.cell? ⟨b, off + k * 3 + 2, none⟩ = some x.v := by
 have hD : k < D.length := by rw [h.len.1]; exact hk
 obtain ⟨b, off, e, hb, hr⟩ := h.rd.elem (f := rwL) (fun x _ => rwL_len x) hD hk
 refine ⟨b, off, D[k], e, hb, List.getElem?_eq_getElem hD, by rw [← h.rs, List.getElem?_map, List.getElem?_eq_getElem hD]; rfl, h.us _ (List.getElem_mem hD), hr, hr 0 _ rfl, hr 1 _ rfl, hr 2 _ rfl⟩
theorem RR.Ok.at (h : x.Ok w B) {k : Nat} (hk : k < x.r.used.length) : ∃ b off, x.A = some ⟨b, off, none⟩ ∧ b < B ∧ w.rangeAt b (off + k * 3) (usL x.r.used[k]) ∧ w.cell? ⟨b, off + k * 3, none⟩ = some (.int .i64 x.r.used[k].g) := by
 obtain ⟨b, off, e, hb, hr⟩ := h.rd.elem (f := usL) (fun x _ => usL_len x) hk hk
 exact ⟨b, off, e, hb, hr, hr 0 _ rfl⟩
end
section
variable {w w' : World} {B B' n : Nat} {A : Option Addr} {D : List RR} {l : List Str.Rw} {x : RR}
theorem RR.In.below (h : x.In w B) (hb : Below B w w') : x.In w' B := ⟨h.rd.below hb, h.le, h.mx⟩
theorem RR.In.more (h : x.In w B) (hb : B ≤ B') : x.In w B' := ⟨h.rd.more hb, h.le, h.mx⟩
theorem RowsIn.below (h : RowsIn w B A n D l) (hb : Below B w w') : RowsIn w' B A n D l := ⟨h.rd.below hb, h.rs, fun x hx => (h.us x hx).below hb, h.mx⟩
theorem RowsIn.more (h : RowsIn w B A n D l) (hb : B ≤ B') : RowsIn w B' A n D l := ⟨h.rd.more hb, h.rs, fun x hx => (h.us x hx).more hb, h.mx⟩
theorem RowsIn.len (h : RowsIn w B A n D l) : D.length = n ∧ l.length = n := by
 have h1 : (D.flatMap rwL).length = D.length * 3 := flatMap_len fun x _ => rwL_len x
 have h2 := h.rd.1
 have h3 : D.length = l.length := by rw [← h.rs, List.length_map]
 omega
theorem RowsIn.at (h : RowsIn w B A n D l) {k : Nat} (hk : k < n) : ∃ b off x, A = some ⟨b, off, none⟩ ∧ b < B ∧ D[k]? = some x ∧ l[k]? = some x.r ∧ x.In w B ∧ w.rangeAt b (off + k * 3) (rwL x) ∧ w.cell? ⟨b, off + k * 3, none⟩ = some (.int .i64 x.r.code) ∧ w.cell? ⟨b, off + k * 3 + 1, none⟩ = some (.int .i64 x.r.width) ∧ w.cell? ⟨b, off + k * 3 + 2, none⟩ = some x.v := by
 have hD : k < D.length := by rw [h.len.1]; exact hk
 obtain ⟨b, off, e, hb, hr⟩ := h.rd.elem (f := rwL) (fun x _ => rwL_len x) hD hk
 refine ⟨b, off, D[k], e, hb, List.getElem?_eq_getElem hD, by rw [← h.rs, List.getElem?_map, List.getElem?_eq_getElem hD]; rfl, h.us _ (List.getElem_mem hD), hr, hr 0 _ rfl, hr 1 _ rfl, hr 2 _ rfl⟩
theorem RR.In.at (h : x.In w B) {k : Nat} (hk : k < x.r.used.length) : ∃ b off, x.A = some ⟨b, off, none⟩ ∧ b < B ∧ w.rangeAt b (off + k * 3) (usL x.r.used[k]) ∧ w.cell? ⟨b, off + k * 3, none⟩ = some (.int .i64 x.r.used[k].g) := by
 obtain ⟨b, off, e, hb, hr⟩ := h.rd.elem (f := usL) (fun x _ => usL_len x) hk hk
 exact ⟨b, off, e, hb, hr, hr 0 _ rfl⟩
end
def Str.idx (l : List Str.Us) (g : Int) : Int := match Str.at? l g with | some k => (k : Int) | none => -1
end S
end
section
namespace S
open Go.RowKit
namespace Str
end Str
theorem put_some (t : Array Value) (d : List Deferred) (k : Nat) (v : Value) : ({ tmps := t, defers := d } : Act).put (some k) v = { tmps := t.setIfInBounds k v, defers := d } := rfl
abbrev stV (r g : Int) : Value := .agg #[.int .i64 r, .int .i64 g]
section
variable {P : Program} {w : World} {ops : Array Oper} {rest : List Oper} {o : Oper} {a : Act} {Q : Exit → Act → World → Prop}
theorem wpList_boxRow (hgd : o.guard = none) (ty : TypeId) (x : Operand) (ho : o.op = .box ty x) (l : List Value) {cs : Array Value} (hx : a.eval x = .agg cs) (hcs : cs = l.toArray)
  (h : ∀ w', IsRow w' w.heap.size ty l → Below w.heap.size w w' → w'.heap.size = w.heap.size + 1 → wpList P ops Q rest (a.put o.dst (.pointer (some ⟨w.heap.size, 0, none⟩))) w') : wpList P ops Q (o :: rest) a w := by
 subst hcs
 refine wpList_plain hgd fun K hK => ?_
 have hn : Sem.run P (newVar ty (.agg l.toArray)) w = .ok ⟨w.heap.size, 0, none⟩ (w.alloc (.cells l.toArray ty)) := by
  simp [newVar, Value.cells, go_sem]
 unfold Oper.wp execOp
 simp only [ho, hx, Sem.run_bind, Sem.run_pure, Result.andThen_ok, hn]
 exact hK _ _ (h _ (IsRow.new w ty l) ((Below.refl _ _).alloc (Nat.le_refl _) _) (by simp))
end
def zUs : List Value := usL ⟨0, 0, 0⟩
theorem infoUs : (Tryz.prog.info? 72).map (fun i => (i.zero, i.size)) = some (some (.agg zUs.toArray), zUs.length) := by kernel_rfl
end S
end
end Go.Proofs.YtfllkaeaanahmaaGreat
