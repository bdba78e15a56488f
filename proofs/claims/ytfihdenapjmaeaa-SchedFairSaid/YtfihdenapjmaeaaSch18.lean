/- The reference's better, at a kind other than 1. No condition else. -/
import Derived.Test.YtfihdenapjmaeaaSch17
namespace Go.Proofs.Ytfihdenapjmaeaa
set_option linter.unusedVariables false
set_option linter.unusedSimpArgs false
open Go.RowKit
set_option maxRecDepth 100000 in
set_option maxHeartbeats 1600000 in
theorem refBetter_n (a b : Sc.Tk) (hk : a.kind ≠ 1) (w : World) : Calls Try.prog 39 #[tv a, tv b] w fun e w' => e = .returned (.bool (Sc.ltP a b)) ∧ Below w.heap.size w w' := by
  obtain ⟨k1, r1, g1, l1, d1⟩ := a
  obtain ⟨k2, r2, g2, l2, d2⟩ := b
  simp only [] at hk
  have HC := Lib.hid (show Sc.ltP ⟨k1, r1, g1, l1, d1⟩ ⟨k2, r2, g2, l2, d2⟩ = decide (r1 < r2 ∨ r1 = r2 ∧ g1 < g2) from rfl)
  generalize Sc.ltP ⟨k1, r1, g1, l1, d1⟩ ⟨k2, r2, g2, l2, d2⟩ = q at *
  have e1 : (k1 == 1) = false := by simpa using hk
  have hb := ((Below.refl w.heap.size w).alloc (Nat.le_refl _) (.cells #[.int .i64 k1, .int .i64 r1, .int .i64 g1, .int .i64 l1, .int .i64 d1] 49)).alloc (by simp) (.cells #[.int .i64 k2, .int .i64 r2, .int .i64 g2, .int .i64 l2, .int .i64 d2] 49)
  have HB := Lib.hid hb
  clear hk hb
  by_cases h : r1 = r2
  · subst h
    go_enter Try.func39, Try.ntmps39
    go_wp2
    go_ret
    exact ⟨by rw [HC.out]; simp, HB.out⟩
  · have e2 : (r1 != r2) = true := by simpa using h
    have H := Lib.hid h
    clear h
    go_enter Try.func39, Try.ntmps39
    go_wp2
    go_ret
    exact ⟨by rw [HC.out]; simp [H.out], HB.out⟩
end Go.Proofs.Ytfihdenapjmaeaa
