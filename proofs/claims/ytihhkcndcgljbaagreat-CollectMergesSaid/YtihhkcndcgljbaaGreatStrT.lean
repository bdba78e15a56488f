/- The specification's right: whether a row is valid. Conditions: the row is kept. -/
import Derived.Test.YtihhkcndcgljbaaGreatStrD
import Derived.Test.YtihhkcndcgljbaaGreatStrQ
namespace Go.Proofs.YtihhkcndcgljbaaGreat.S
set_option linter.unusedVariables false
set_option linter.unusedSimpArgs false
open Go.RowKit
set_option maxRecDepth 100000 in
set_option maxHeartbeats 3200000 in
theorem right_free (cf : Str.Cfg) (x : RR) (w : World) (hc : x.r.code = -1) (hx : x.r.used.length ≤ x.k) :
    Calls Tryz.prog 25 #[cfV cf, .agg (rwL x).toArray] w fun e w' => e = .returned (.bool (Str.right cf x.r)) ∧ Below w.heap.size w w' := by
  have hz : (decide (x.r.width = 0) = false ∧ Str.right cf x.r = false) ∨ (decide (x.r.width = 0) = true ∧ decide (x.r.used.length = 0) = Str.right cf x.r) := by
    unfold Str.right
    rw [if_pos hc]
    by_cases h1 : x.r.width = 0 <;> simp [h1]
  obtain ⟨Z, hZ⟩ : ∃ Z, Str.right cf x.r = Z := ⟨_, rfl⟩
  rw [hZ] at hz ⊢
  have HCV : Hid (cfV cf = .agg (cfL cf).toArray) := Lib.hid rfl
  rw [HCV.out]
  obtain ⟨cl, hcl⟩ : ∃ y, cfL cf = y := ⟨_, rfl⟩
  rw [hcl]
  obtain ⟨xw, hxw⟩ : ∃ y, x.r.width = y := ⟨_, rfl⟩
  obtain ⟨n, hn⟩ : ∃ y, x.r.used.length = y := ⟨_, rfl⟩
  have HRL : Hid (rwL x = [.int .i64 (-1), .int .i64 xw, .slice x.A n x.k]) := Lib.hid (by rw [← hxw, ← hn, ← hc]; rfl)
  rw [HRL.out]
  rw [hxw, hn] at hz
  rw [hn] at hx
  clear hZ HCV hcl HRL hc hxw hn
  have hz2 : (xw ≠ 0 ∧ Z = false) ∨ (xw = 0 ∧ decide (n = 0) = Z) := by
    rcases hz with ⟨h1, h2⟩ | ⟨h1, h2⟩
    · exact .inl ⟨of_decide_eq_false h1, h2⟩
    · exact .inr ⟨of_decide_eq_true h1, h2⟩
  clear hz
  rcases hz2 with ⟨h1, rfl⟩ | ⟨rfl, h2⟩
  · have hb : (xw == 0) = false := by simpa using h1
    go_enter Tryz.func25, Tryz.ntmps25
    go_upto_region 1 with (first
      | (refine wpList_boxRow rfl _ (.tmp 0) rfl cl rfl rfl ?_; intro w1 r1 b1 z1; clear z1; simp only [put_some, List.setIfInBounds_toArray, List.set_cons_succ, List.set_cons_zero])
      | (refine wpList_boxRow rfl _ (.tmp 1) rfl [.int .i64 (-1), .int .i64 xw, .slice x.A n x.k] rfl rfl ?_; intro w2 r2 b2 z2; clear z2; simp only [put_some, List.setIfInBounds_toArray, List.set_cons_succ, List.set_cons_zero]))
    have k0 := r2.cell 0
    have k1 := r2.cell 1
    dsimp only [List.getElem?_cons_zero, List.getElem?_cons_succ] at k0 k1
    go_wp2_with fail
    go_ret
    exact ⟨rfl, b1.trans (b2.mono b1.size)⟩
  · have hb : ((n : Int) == 0) = Z := by rw [← h2]; by_cases h : n = 0 <;> simp [h]
    clear h2
    go_enter Tryz.func25, Tryz.ntmps25
    go_upto_region 1 with (first
      | (refine wpList_boxRow rfl _ (.tmp 0) rfl cl rfl rfl ?_; intro w1 r1 b1 z1; clear z1; simp only [put_some, List.setIfInBounds_toArray, List.set_cons_succ, List.set_cons_zero])
      | (refine wpList_boxRow rfl _ (.tmp 1) rfl [.int .i64 (-1), .int .i64 0, .slice x.A n x.k] rfl rfl ?_; intro w2 r2 b2 z2; clear z2; simp only [put_some, List.setIfInBounds_toArray, List.set_cons_succ, List.set_cons_zero]))
    have k0 := r2.cell 0
    have k1 := r2.cell 1
    have k2 := r2.cell 2
    dsimp only [List.getElem?_cons_zero, List.getElem?_cons_succ] at k0 k1 k2
    go_wp2_with fail
    go_ret
    exact ⟨by first | rfl | (congr 2) | simpa using hb, b1.trans (b2.mono b1.size)⟩
theorem Str.code_cases {r : Str.Rw} (h : ¬ Str.codeB r = true) : r.code < 0 ∨ (¬ r.code < 0 ∧ r.code ≥ 8) ∨ (¬ r.code < 0 ∧ ¬ r.code ≥ 8 ∧ r.width < 1) ∨ (¬ r.code < 0 ∧ ¬ r.code ≥ 8 ∧ ¬ r.width < 1 ∧ r.width > 32) ∨ (¬ r.code < 0 ∧ ¬ r.code ≥ 8 ∧ ¬ r.width < 1 ∧ ¬ r.width > 32 ∧ r.used.length = 0) := by
  unfold Str.codeB at h
  by_cases h1 : r.code < 0
  · exact .inl h1
  by_cases h2 : r.code ≥ 8
  · exact .inr (.inl ⟨h1, h2⟩)
  by_cases h3 : r.width < 1
  · exact .inr (.inr (.inl ⟨h1, h2, h3⟩))
  by_cases h4 : r.width > 32
  · exact .inr (.inr (.inr (.inl ⟨h1, h2, h3, h4⟩)))
  by_cases h5 : r.used.length = 0
  · exact .inr (.inr (.inr (.inr ⟨h1, h2, h3, h4, h5⟩)))
  · refine absurd ?_ h
    simp only [Bool.and_eq_true, decide_eq_true_iff]
    omega
set_option maxRecDepth 100000 in
set_option maxHeartbeats 3200000 in
theorem right_no (cf : Str.Cfg) (x : RR) (w : World) (hc : x.r.code ≠ -1) (hx : x.r.used.length ≤ x.k) (hn : ¬ Str.codeB x.r = true) :
    Calls Tryz.prog 25 #[cfV cf, .agg (rwL x).toArray] w fun e w' => e = .returned (.bool (Str.right cf x.r)) ∧ Below w.heap.size w w' := by
  have hz : Str.right cf x.r = false := by
    unfold Str.right
    rw [if_neg hc]
    cases h : Str.codeB x.r with
    | false => rfl
    | true => exact absurd h hn
  rw [hz]
  have hcs := Str.code_cases hn
  have HCV : Hid (cfV cf = .agg (cfL cf).toArray) := Lib.hid rfl
  rw [HCV.out]
  obtain ⟨cl, hcl⟩ : ∃ y, cfL cf = y := ⟨_, rfl⟩
  rw [hcl]
  obtain ⟨xc, hxc⟩ : ∃ y, x.r.code = y := ⟨_, rfl⟩
  obtain ⟨xw, hxw⟩ : ∃ y, x.r.width = y := ⟨_, rfl⟩
  obtain ⟨n, hn'⟩ : ∃ y, x.r.used.length = y := ⟨_, rfl⟩
  have HRL : Hid (rwL x = [.int .i64 xc, .int .i64 xw, .slice x.A n x.k]) := Lib.hid (by rw [← hxw, ← hn', ← hxc]; rfl)
  rw [HRL.out]
  rw [hxc, hxw, hn'] at hcs
  rw [hn'] at hx
  rw [hxc] at hc
  have hb : (xc == -1) = false := by simpa using hc
  clear hz HCV hcl HRL hc hxw hn' hxc hn
  rcases hcs with h | ⟨h1, h⟩ | ⟨h1, h2, h⟩ | ⟨h1, h2, h3, h⟩ | ⟨h1, h2, h3, h4, rfl⟩
  all_goals
    go_enter Tryz.func25, Tryz.ntmps25
    go_upto_region 1 with (first
      | (refine wpList_boxRow rfl _ (.tmp 0) rfl cl rfl rfl ?_; intro w1 r1 b1 z1; clear z1; simp only [put_some, List.setIfInBounds_toArray, List.set_cons_succ, List.set_cons_zero])
      | (refine wpList_boxRow rfl _ (.tmp 1) rfl [.int .i64 xc, .int .i64 xw, .slice x.A _ x.k] rfl rfl ?_; intro w2 r2 b2 z2; clear z2; simp only [put_some, List.setIfInBounds_toArray, List.set_cons_succ, List.set_cons_zero]))
    have k0 := r2.cell 0
    have k1 := r2.cell 1
    have k2 := r2.cell 2
    dsimp only [List.getElem?_cons_zero, List.getElem?_cons_succ] at k0 k1 k2
    go_wp2_with fail
    go_ret
    exact ⟨rfl, b1.trans (b2.mono b1.size)⟩
end Go.Proofs.YtihhkcndcgljbaaGreat.S
