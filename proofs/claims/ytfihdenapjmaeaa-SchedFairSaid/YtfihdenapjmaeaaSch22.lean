/- The reference's better, of two rebuilds alike: the answer false; and in all: of two tasks of a kind that can be chosen. -/
import Derived.Test.YtfihdenapjmaeaaSch21
namespace Go.Proofs.Ytfihdenapjmaeaa
set_option linter.unusedVariables false
set_option linter.unusedSimpArgs false
open Go.RowKit
set_option maxRecDepth 100000 in
set_option maxHeartbeats 1600000 in
theorem refBetter_1_eq (a b : Sc.Tk) (hk : a.kind = 1) (ga : 0 ≤ a.left ∧ 0 < a.bad) (gb : 0 ≤ b.left ∧ 0 < b.bad) (hn : Sc.ltR a b = false) (he : a.row = b.row ∧ a.grp = b.grp ∧ a.left = b.left ∧ a.bad = b.bad) (w : World) : Calls Try.prog 39 #[tv a, tv b] w fun e w' => e = .returned (.bool false) ∧ Below w.heap.size w w' := by
  have HO := Lib.hid (fun (A : Option Addr) (c B : Nat) (W : World) (hr : Rd W B 4 A 2 ([b, a].flatMap hcs)) (hB : B ≤ W.heap.size) => refOrder_any A 2 c [b, a] rfl (by omega) (by intro t ht; simp at ht; rcases ht with rfl | rfl; exact gb; exact ga) B W hr hB)
  have HD := Lib.hid (ord2 a b)
  rw [hn] at HD
  clear hn ga gb
  obtain ⟨k1, r1, g1, l1, d1⟩ := a
  obtain ⟨k2, r2, g2, l2, d2⟩ := b
  simp only [] at hk he
  obtain ⟨rfl, rfl, rfl, rfl⟩ := he
  subst hk
  go_enter Try.func39, Try.ntmps39
  go_wp2_with fail
  have hr := Rd.new (((w.alloc (.cells #[.int .i64 1, .int .i64 r1, .int .i64 g1, .int .i64 l1, .int .i64 d1] 49)).alloc (.cells #[.int .i64 k2, .int .i64 r1, .int .i64 g1, .int .i64 l1, .int .i64 d1] 49)).alloc (.cells #[.int .i64 r1, .int .i64 g1, .int .i64 l1, .int .i64 d1] 78)) ([(⟨k2, r1, g1, l1, d1⟩ : Sc.Tk), ⟨1, r1, g1, l1, d1⟩].flatMap hcs) 78 2 (size := 4) rfl
  simp only [alloc_size1] at hr
  refine (HO.out _ 2 _ _ hr (by simp only [alloc_size1]; exact Nat.le_refl _)).mono ?_
  rintro e w5 ⟨A5, c5, rfl, r5, n5, b5⟩
  have hd := HD.out
  simp only [Bool.false_eq_true, if_false] at hd
  rw [hd] at r5
  obtain ⟨bb, off, rfl, _, hc⟩ := r5.2 (by omega)
  have q0 : w5.cell? ⟨bb, off, none⟩ = some (.int .i64 r1) := by simpa using hc 0 (.int .i64 r1) rfl
  have q1 := hc 1 (.int .i64 g1) rfl
  have q2 := hc 2 (.int .i64 l1) rfl
  have q3 := hc 3 (.int .i64 d1) rfl
  have bc0 := fun o => b5.cell (p := ⟨w.heap.size, o, none⟩) (by simp only [alloc_size1]; show w.heap.size < _; omega)
  have bc1 := fun o => b5.cell (p := ⟨w.heap.size + 1, o, none⟩) (by simp only [alloc_size1]; show w.heap.size + 1 < _; omega)
  have bc2 := fun o => b5.cell (p := ⟨w.heap.size + 1 + 1, o, none⟩) (by simp only [alloc_size1]; show w.heap.size + 1 + 1 < _; omega)
  clear hr hd r5 hc HD
  have hb4 := ((((Below.refl w.heap.size w).alloc (Nat.le_refl _) (.cells #[.int .i64 1, .int .i64 r1, .int .i64 g1, .int .i64 l1, .int .i64 d1] 49)).alloc (by simp only [alloc_size1]; omega) (.cells #[.int .i64 k2, .int .i64 r1, .int .i64 g1, .int .i64 l1, .int .i64 d1] 49)).alloc (by simp only [alloc_size1]; omega) (.cells #[.int .i64 r1, .int .i64 g1, .int .i64 l1, .int .i64 d1] 78)).alloc (by simp only [alloc_size1]; omega) (.cells #[.int .i64 r1, .int .i64 g1, .int .i64 l1, .int .i64 d1, .int .i64 r1, .int .i64 g1, .int .i64 l1, .int .i64 d1] 78)
  have HB := Lib.hid (hb4.trans (b5.mono hb4.size))
  clear b5 hb4
  go_wp2_with fail
  go_quiet (fail)
  go_wp2_with fail
  go_ret
  exact ⟨rfl, below_drewN HB.out _⟩
/-- a task that can be chosen, of its kind -/
theorem fit_good {kd : Int} {t : Sc.Tk} (h : Sc.fit kd Sc.can t = true) : t.kind = kd ∧ (kd = 1 → 0 ≤ t.left ∧ 0 < t.bad) := by
  simp [Sc.fit, Sc.can] at h; omega
theorem refBetter_any (kd : Int) (a b : Sc.Tk) (ha : Sc.fit kd Sc.can a = true) (hb : Sc.fit kd Sc.can b = true) (w : World) : Calls Try.prog 39 #[tv a, tv b] w fun e w' => e = .returned (.bool (Sc.lt kd a b)) ∧ Below w.heap.size w w' := by
  obtain ⟨ka, ga⟩ := fit_good ha
  obtain ⟨kb, gb⟩ := fit_good hb
  unfold Sc.lt
  by_cases h : kd = 1
  · rw [if_pos h]
    have ga := ga h
    have gb := gb h
    have ka : a.kind = 1 := ka.trans h
    by_cases he : a.row = b.row ∧ a.grp = b.grp ∧ a.left = b.left ∧ a.bad = b.bad
    · have hn : Sc.ltR a b = false := by unfold Sc.ltR; simp; omega
      rw [hn]
      exact refBetter_1_eq a b ka ga gb hn he w
    · cases hn : Sc.ltR a b with
      | false => exact refBetter_1_no a b ka ga gb hn he w
      | true => exact refBetter_1_yes a b ka ga gb hn he w
  · rw [if_neg h]
    exact refBetter_n a b (by rw [ka]; exact h) w
end Go.Proofs.Ytfihdenapjmaeaa
