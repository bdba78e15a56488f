/- The reference's better, of two rebuilds that can be chosen: it says yes. -/
import Derived.Test.YtfihdenapjmaeaaSch20
namespace Go.Proofs.Ytfihdenapjmaeaa
set_option linter.unusedVariables false
set_option linter.unusedSimpArgs false
open Go.RowKit
set_option maxRecDepth 100000 in
set_option maxHeartbeats 1600000 in
theorem refBetter_1_yes (a b : Sc.Tk) (hk : a.kind = 1) (ga : 0 ≤ a.left ∧ 0 < a.bad) (gb : 0 ≤ b.left ∧ 0 < b.bad) (hn : Sc.ltR a b = true) (he : ¬ (a.row = b.row ∧ a.grp = b.grp ∧ a.left = b.left ∧ a.bad = b.bad)) (w : World) : Calls Try.prog 39 #[tv a, tv b] w fun e w' => e = .returned (.bool true) ∧ Below w.heap.size w w' := by
  have HO := Lib.hid (fun (A : Option Addr) (c B : Nat) (W : World) (hr : Rd W B 4 A 2 ([b, a].flatMap hcs)) (hB : B ≤ W.heap.size) => refOrder_any A 2 c [b, a] rfl (by omega) (by intro t ht; simp at ht; rcases ht with rfl | rfl; exact gb; exact ga) B W hr hB)
  have HE := Lib.hid he
  have HD := Lib.hid (ord2 a b)
  rw [hn] at HD
  clear hn he ga gb
  obtain ⟨k1, r1, g1, l1, d1⟩ := a
  obtain ⟨k2, r2, g2, l2, d2⟩ := b
  simp only [] at hk
  subst hk
  go_enter Try.func39, Try.ntmps39
  go_wp2_with fail
  have hr := Rd.new (((w.alloc (.cells #[.int .i64 1, .int .i64 r1, .int .i64 g1, .int .i64 l1, .int .i64 d1] 49)).alloc (.cells #[.int .i64 k2, .int .i64 r2, .int .i64 g2, .int .i64 l2, .int .i64 d2] 49)).alloc (.cells #[.int .i64 r1, .int .i64 g1, .int .i64 l1, .int .i64 d1] 78)) ([(⟨k2, r2, g2, l2, d2⟩ : Sc.Tk), ⟨1, r1, g1, l1, d1⟩].flatMap hcs) 78 2 (size := 4) rfl
  simp only [alloc_size1] at hr
  refine (HO.out _ 2 _ _ hr (by simp only [alloc_size1]; exact Nat.le_refl _)).mono ?_
  rintro e w5 ⟨A5, c5, rfl, r5, n5, b5⟩
  have hd := HD.out
  simp only [if_true] at hd
  rw [hd] at r5
  obtain ⟨bb, off, rfl, _, hc⟩ := r5.2 (by omega)
  have q0 : w5.cell? ⟨bb, off, none⟩ = some (.int .i64 r1) := by simpa using hc 0 (.int .i64 r1) rfl
  have q1 := hc 1 (.int .i64 g1) rfl
  have q2 := hc 2 (.int .i64 l1) rfl
  have q3 := hc 3 (.int .i64 d1) rfl
  have bc0 := fun o => b5.cell (p := ⟨w.heap.size, o, none⟩) (by simp only [alloc_size1]; show w.heap.size < _; omega)
  have bc1 := fun o => b5.cell (p := ⟨w.heap.size + 1, o, none⟩) (by simp only [alloc_size1]; show w.heap.size + 1 < _; omega)
  have bc2 := fun o => b5.cell (p := ⟨w.heap.size + 1 + 1, o, none⟩) (by simp only [alloc_size1]; show w.heap.size + 1 + 1 < _; omega)
  clear hr hd r5 hc HD
  have hb4 := ((((Below.refl w.heap.size w).alloc (Nat.le_refl _) (.cells #[.int .i64 1, .int .i64 r1, .int .i64 g1, .int .i64 l1, .int .i64 d1] 49)).alloc (by simp only [alloc_size1]; omega) (.cells #[.int .i64 k2, .int .i64 r2, .int .i64 g2, .int .i64 l2, .int .i64 d2] 49)).alloc (by simp only [alloc_size1]; omega) (.cells #[.int .i64 r1, .int .i64 g1, .int .i64 l1, .int .i64 d1] 78)).alloc (by simp only [alloc_size1]; omega) (.cells #[.int .i64 r2, .int .i64 g2, .int .i64 l2, .int .i64 d2, .int .i64 r1, .int .i64 g1, .int .i64 l1, .int .i64 d1] 78)
  have HB := Lib.hid (hb4.trans (b5.mono hb4.size))
  clear b5 hb4
  go_wp2_with fail
  by_cases e0 : r2 = r1
  · subst e0
    by_cases e1 : g2 = g1
    · subst e1
      by_cases e2 : l2 = l1
      · subst e2
        by_cases e3 : d2 = d1
        · subst e3; exact absurd ⟨rfl, rfl, rfl, rfl⟩ HE.out
        · have e3' : (d1 == d2) = false := by simpa using fun h => e3 h.symm
          have e3'' : (d1 != d2) = true := by simpa using fun h => e3 h.symm
          go_quiet (fail)
          go_wp2_with fail
          go_ret
          exact ⟨rfl, below_drewN HB.out _⟩
      · have e2' : (l1 == l2) = false := by simpa using fun h => e2 h.symm
        have e2'' : (l1 != l2) = true := by simpa using fun h => e2 h.symm
        go_quiet (fail)
        go_wp2_with fail
        go_ret
        exact ⟨rfl, below_drewN HB.out _⟩
    · have e1' : (g1 == g2) = false := by simpa using fun h => e1 h.symm
      have e1'' : (g1 != g2) = true := by simpa using fun h => e1 h.symm
      go_quiet (fail)
      go_wp2_with fail
      go_ret
      exact ⟨rfl, below_drewN HB.out _⟩
  · have e0' : (r1 == r2) = false := by simpa using fun h => e0 h.symm
    have e0'' : (r1 != r2) = true := by simpa using fun h => e0 h.symm
    go_quiet (fail)
    go_wp2_with fail
    go_ret
    exact ⟨rfl, below_drewN HB.out _⟩
end Go.Proofs.Ytfihdenapjmaeaa
