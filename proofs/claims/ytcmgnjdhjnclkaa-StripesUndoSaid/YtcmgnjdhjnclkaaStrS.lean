/- The law's small and six. No condition. -/
import Derived.Test.YtcmgnjdhjnclkaaStrN
namespace Go.Proofs.Ytcmgnjdhjnclkaa.S
set_option linter.unusedVariables false
set_option linter.unusedSimpArgs false
open Go.RowKit
namespace Str
def small (cf : Cfg) : Bool := decide (cf.d ≤ 12) && decide (cf.rows ≤ 12)
def six : Cfg := ⟨6, 2, 3, 1, 8, 8⟩
end Str
theorem six_any (w : World) : Calls Try.prog 20 #[] w fun e w' => e = .returned (cfV Str.six) ∧ Below w.heap.size w w' := by
  go_enter Try.func20, Try.ntmps20
  go_wp2
  refine bodyPost_ret (results_cell_row rfl _ _ w.heap.size 23 _ (0, 0) _ rfl (heap_alloc_new w _) Try.underlying23 rfl sizeCf) rfl ?_
  exact ⟨rfl, (Below.refl _ _).alloc (Nat.le_refl _) _⟩
set_option maxRecDepth 100000 in
set_option maxHeartbeats 1600000 in
theorem small_any (cf : Str.Cfg) (w : World) : Calls Try.prog 6 #[cfV cf] w fun e w' => e = .returned (.bool (Str.small cf)) ∧ Below w.heap.size w w' := by
  have hc : (decide (cf.d ≤ 12) = false ∧ Str.small cf = false) ∨ (decide (cf.d ≤ 12) = true ∧ decide (cf.rows ≤ 12) = Str.small cf) := by
    unfold Str.small
    by_cases h1 : cf.d ≤ 12 <;> by_cases h2 : cf.rows ≤ 12 <;> simp [h1, h2]
  obtain ⟨Z, hZ⟩ : ∃ Z, Str.small cf = Z := ⟨_, rfl⟩
  rw [hZ] at hc ⊢
  have HCV : Hid (cfV cf = .agg (cfL cf).toArray) := Lib.hid rfl
  have HC0 : Hid ((cfL cf)[0]? = some (.int .i64 cf.d) ∧ (cfL cf)[2]? = some (.int .i64 cf.rows)) := Lib.hid ⟨rfl, rfl⟩
  rw [HCV.out]
  obtain ⟨cl, hcl⟩ : ∃ y, cfL cf = y := ⟨_, rfl⟩
  rw [hcl] at HC0 ⊢
  obtain ⟨d, hd⟩ : ∃ y, cf.d = y := ⟨_, rfl⟩
  obtain ⟨r, hr⟩ : ∃ y, cf.rows = y := ⟨_, rfl⟩
  rw [hd, hr] at HC0
  rw [hd, hr] at hc
  clear hZ HCV hcl hd hr
  rcases hc with ⟨h1, rfl⟩ | ⟨h1, h2⟩
  all_goals
    go_enter Try.func6, Try.ntmps6
    go_upto_region 1 with (refine wpList_boxRow rfl _ (.tmp 0) rfl cl rfl rfl ?_; intro w1 r1 b1 z1)
    have k0 := (r1.cell 0).trans HC0.out.1
    have k2 := (r1.cell 2).trans HC0.out.2
    go_wp2_with fail
    go_ret
    exact ⟨rfl, b1⟩
end Go.Proofs.Ytcmgnjdhjnclkaa.S
