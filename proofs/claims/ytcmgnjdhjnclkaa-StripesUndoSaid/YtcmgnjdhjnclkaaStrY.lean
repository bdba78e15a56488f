/- The specification's Same at equal rows. Conditions: the rows are kept. -/
import Derived.Test.YtcmgnjdhjnclkaaStrX
namespace Go.Proofs.Ytcmgnjdhjnclkaa.S
set_option linter.unusedVariables false
set_option linter.unusedSimpArgs false
open Go.RowKit
set_option maxRecDepth 100000 in
set_option maxHeartbeats 3200000 in
theorem sameR_eq {w : World} {B1 B2 n c1 c2 : Nat} {A1 A2 : Option Addr} {D1 D2 : List RR} {l : List Str.Rw} (h1 : RowsAt w B1 A1 n D1 l) (h2 : RowsAt w B2 A2 n D2 l) :
    Calls Try.prog 12 #[.slice A1 n c1, .slice A2 n c2] w fun e w' => e = .returned (.bool true) ∧ Below w.heap.size w w' := by
  have H1 := Lib.hid h1
  have H2 := Lib.hid h2
  have hmx := h1.mx
  clear h1 h2
  go_enter Try.func12, Try.ntmps12
  go_upto_region 4 with fail
  go_loopw [5, 6] (fun u5 _ wr => ∃ i m : Nat, i ≤ n ∧ u5 = .int .i64 (i : Int) ∧ wr = w.drewN m) (fun u5 _ _ => n - (intOf u5).toNat)
  case atStart => exact ⟨0, 0, Nat.zero_le _, rfl, rfl⟩
  case round =>
    obtain ⟨i, m, hi, rfl, rfl⟩ := hrel
    by_cases hlt : i < n
    · obtain ⟨b1, o1, x1, rfl, -, -, hl1, hk1, -, p0, p1, p2⟩ := H1.out.at hlt
      obtain ⟨b2, o2, x2, rfl, -, -, hl2, hk2, -, q0, q1, q2⟩ := H2.out.at hlt
      have hxx : x2.r = x1.r := Option.some.inj (hl2.symm.trans hl1)
      rw [hxx] at q0 q1
      have hv2 : x2.v = .slice x2.A x1.r.used.length x2.k := by unfold RR.v; rw [hxx]
      rw [hv2] at q2
      have hv1 : x1.v = .slice x1.A x1.r.used.length x1.k := rfl
      rw [hv1] at p2
      have hmu := hk1.mx
      have hle1 := hk1.le
      have hle2 := hk2.le
      rw [hxx] at hle2
      have HK1 := Lib.hid hk1
      have HK2 := Lib.hid hk2
      have HXX := Lib.hid hxx
      obtain ⟨N, hN⟩ : ∃ N, x1.r.used.length = N := ⟨_, rfl⟩
      have HN := Lib.hid hN
      rw [hN] at p2 q2 hmu hle1 hle2
      obtain ⟨rc, hrc⟩ : ∃ y, x1.r.code = y := ⟨_, rfl⟩
      obtain ⟨rw_, hrw⟩ : ∃ y, x1.r.width = y := ⟨_, rfl⟩
      rw [hrc] at p0 q0
      rw [hrw] at p1 q1
      obtain ⟨E1, hE1⟩ : ∃ y, x1.A = y := ⟨_, rfl⟩
      obtain ⟨E2, hE2⟩ : ∃ y, x2.A = y := ⟨_, rfl⟩
      rw [hE1] at p2
      rw [hE2] at q2
      have HE := Lib.hid (And.intro hE1 hE2)
      have e1 : (0 : Int) ≤ (i : Int) := by omega
      have e2 : (i : Int) < (n : Int) := by omega
      clear hl1 hl2 hk1 hk2 hxx hv1 hv2 hN hrc hrw hE1 hE2
      go_wp2_with fail
      go_quiet (fail)
      go_upto_region 9 with fail
      go_loopw [6] (fun u6 wx => ∃ j m : Nat, j ≤ N ∧ u6 = .int .i64 (j : Int) ∧ wx = w.drewN m) (fun u6 _ => N - (intOf u6).toNat)
      case atStart => exact ⟨0, m + nq, Nat.zero_le _, rfl, by simp only [World.drewN, Nat.add_assoc]⟩
      case round =>
        obtain ⟨j, m2, hj, rfl, rfl⟩ := hrel
        by_cases hlj : j < N
        · obtain ⟨d1, f1, hA1, -, g1, -⟩ := HK1.out.at (k := j) (by rw [HN.out]; exact hlj)
          obtain ⟨d2, f2, hA2, -, g2, -⟩ := HK2.out.at (k := j) (by rw [HXX.out, HN.out]; exact hlj)
          obtain rfl := HE.out.1.symm.trans hA1
          obtain rfl := HE.out.2.symm.trans hA2
          have huu : x2.r.used[j]'(by rw [HXX.out, HN.out]; exact hlj) = x1.r.used[j]'(by rw [HN.out]; exact hlj) := by
            have h := HXX.out
            congr 1
            · rw [h]
          rw [huu] at g2
          obtain ⟨u, hu⟩ : ∃ u, x1.r.used[j]'(by rw [HN.out]; exact hlj) = u := ⟨_, rfl⟩
          rw [hu] at g1 g2
          obtain ⟨ug, ue, uc⟩ := u
          have a0 : w.cell? ⟨d1, f1 + j * 3, none⟩ = some (.int .i64 ug) := g1 0 _ rfl
          have a1 : w.cell? ⟨d1, f1 + j * 3 + 1, none⟩ = some (.int .i64 ue) := g1 1 _ rfl
          have a2 : w.cell? ⟨d1, f1 + j * 3 + 2, none⟩ = some (.int .i64 uc) := g1 2 _ rfl
          have b0 : w.cell? ⟨d2, f2 + j * 3, none⟩ = some (.int .i64 ug) := g2 0 _ rfl
          have b1 : w.cell? ⟨d2, f2 + j * 3 + 1, none⟩ = some (.int .i64 ue) := g2 1 _ rfl
          have b2 : w.cell? ⟨d2, f2 + j * 3 + 2, none⟩ = some (.int .i64 uc) := g2 2 _ rfl
          have NE : ∀ W : World, (Op.equalIn 10000 37 (.agg #[.int .i64 ug, .int .i64 ue, .int .i64 uc]) (.agg #[.int .i64 ug, .int .i64 ue, .int .i64 uc])).run Try.prog W = .ok true W := fun W => (run_eq_us ⟨ug, ue, uc⟩ ⟨ug, ue, uc⟩ W).trans (by simp)
          have e3 : (0 : Int) ≤ (j : Int) := by omega
          have e4 : (j : Int) < (N : Int) := by omega
          clear hA1 hA2 huu hu g1 g2
          go_wp2_with fail
          go_quiet (fail)
          go_wp2_with fail
          go_roundw
          case rel => exact ⟨j + 1, _, by omega, by go_num, rfl⟩
          case measure => simp [intOf]; omega
        · obtain rfl : j = N := by omega
          go_wp2_with fail
          go_roundw
          case rel => exact ⟨i + 1, _, by omega, by go_num, rfl⟩
          case measure => simp [intOf]; omega
    · obtain rfl : i = n := by omega
      go_wp2_with fail
      go_ret
      exact ⟨rfl, below_drewN (Below.refl _ _) _⟩
end Go.Proofs.Ytcmgnjdhjnclkaa.S
