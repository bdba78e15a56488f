/- Two neighbouring parts of a row change places. Conditions: neither is empty; they lie in the row, which has at most 1000 elements. -/
import Derived.Test.YtegjfobanjkimaaSrt1
namespace Go.Proofs.Ytegjfobanjkimaa
set_option linter.unusedVariables false
set_option linter.unusedSimpArgs false
open Go.RowKit
set_option maxRecDepth 100000 in
set_option maxHeartbeats 1600000 in
theorem rotate_any (cv : Value) (g n c a m b : Nat) (ham : a < m) (hmb : m < b) (hbn : b ≤ n) (hn : n ≤ 1000) (d : Nat → Int) (w : World) (hr : FRow w g n d) :
    Calls Try.prog 27 #[.slice (some ⟨g, 0, none⟩) n c, .int .i64 a, .int .i64 m, .int .i64 b, cv] w (RowRes g n (So.rot d a m b) w) := by
  have HR := Lib.hid hr
  have HJ := Lib.hid (So.rotJ_start d (a := a) (m := m) (b := b) (by omega) (by omega))
  obtain ⟨R, hR⟩ : ∃ R, So.rot d a m b = R := ⟨_, rfl⟩
  rw [hR] at HJ ⊢
  obtain ⟨i0, hi0⟩ : ∃ x, m - a = x := ⟨_, rfl⟩
  obtain ⟨j0, hj0⟩ : ∃ x, b - m = x := ⟨_, rfl⟩
  rw [hi0, hj0] at HJ
  have q1 : (m : Int) - (a : Int) = (i0 : Int) := by omega
  have q2 : (b : Int) - (m : Int) = (j0 : Int) := by omega
  have w1 : IntKind.i64.wrap (i0 : Int) = (i0 : Int) := IntWalk.i64_in _ (by omega)
  have w2 : IntKind.i64.wrap (j0 : Int) = (j0 : Int) := IntWalk.i64_in _ (by omega)
  have b1 : 0 < i0 ∧ 0 < j0 ∧ i0 ≤ m ∧ m + j0 ≤ n := by omega
  have hm : m ≤ n := by omega
  have B1 := Lib.hid b1
  clear hr hR hi0 hj0 b1
  go_enter Try.func27, Try.ntmps27
  go_wp2
  go_loopw [10, 11] (fun u10 u11 wr => ∃ (i j : Nat) (cur : Nat → Int), u10 = .int .i64 i ∧ u11 = .int .i64 j ∧ Hid (0 < i ∧ 0 < j ∧ i ≤ m ∧ m + j ≤ n) ∧ Hid (FRow wr g n cur) ∧ Hid (So.RotJ R cur m i j) ∧ w.grownBy wr (some g)) (fun u10 u11 _ => (intOf u10).toNat + (intOf u11).toNat)
  case atStart => exact ⟨i0, j0, d, rfl, rfl, B1.out, HR.out, HJ.out, World.grownBy.refl _ _⟩
  case round =>
    clear q1 q2 w1 w2
    obtain ⟨i, j, cur, rfl, rfl, HB, HF, HRJ, hg⟩ := hrel
    obtain ⟨hi, hj, him, hjn⟩ := HB.out
    have HG := Lib.hid hg
    obtain ⟨x, hx⟩ : ∃ x, m - i = x := ⟨_, rfl⟩
    have qx : (m : Int) - (i : Int) = (x : Int) := by omega
    have wx : IntKind.i64.wrap (x : Int) = (x : Int) := IntWalk.i64_in _ (by omega)
    rcases Nat.lt_trichotomy i j with hc | hc | hc
    · obtain ⟨z, hz⟩ : ∃ z, m + j = z := ⟨_, rfl⟩
      obtain ⟨y, hy⟩ : ∃ y, m + j - i = y := ⟨_, rfl⟩
      obtain ⟨j', hj'⟩ : ∃ y, j - i = y := ⟨_, rfl⟩
      have qz : (m : Int) + (j : Int) = (z : Int) := by omega
      have wz : IntKind.i64.wrap (z : Int) = (z : Int) := IntWalk.i64_in _ (by omega)
      have qy : (z : Int) - (i : Int) = (y : Int) := by omega
      have wy : IntKind.i64.wrap (y : Int) = (y : Int) := IntWalk.i64_in _ (by omega)
      have qj : (j : Int) - (i : Int) = (j' : Int) := by omega
      have wj : IntKind.i64.wrap (j' : Int) = (j' : Int) := IntWalk.i64_in _ (by omega)
      have e1 : ((i : Int) == (j : Int)) = false := by rw [beq_eq_false_iff_ne]; omega
      have e2 : ((i : Int) != (j : Int)) = true := by rw [bne_iff_ne]; omega
      have e3 : ¬ ((j : Int) < (i : Int)) := by omega
      have HS := Lib.hid (swapRange_any cv g n c x y i (by omega) (by omega) hn cur wr HF.out)
      have HN := Lib.hid (So.rotJ_lt HRJ.out him hc)
      rw [hx, hy, hj'] at HN
      have HB2 : Hid (0 < i ∧ 0 < j' ∧ i ≤ m ∧ m + j' ≤ n) := Lib.hid (by omega)
      have HMS : Hid (i + j' < i + j) := Lib.hid (by omega)
      clear hg hi hj him hjn hx hy hz hj' hc
      go_wp2_with (go_at_call 28; refine HS.out.mono ?_; rintro e w5 ⟨rfl, F5, G5⟩)
      go_roundw
      case rel => exact ⟨i, j', _, rfl, by go_num, HB2.out, F5, HN.out, HG.out.trans G5⟩
      case measure => have := HMS.out; simp [intOf]; omega
    · subst hc
      have HS := Lib.hid (swapRange_any cv g n c x m i (by omega) (by omega) hn cur wr HF.out)
      have HN := Lib.hid (So.rotJ_eq HRJ.out him)
      rw [hx] at HN
      clear hg hi hj him hjn hx
      go_wp2_with (go_at_call 28; refine HS.out.mono ?_; rintro e w5 ⟨rfl, F5, G5⟩)
      go_end0
      rw [HN.out] at F5
      exact ⟨rfl, F5, HG.out.trans G5⟩
    · obtain ⟨i', hi'⟩ : ∃ y, i - j = y := ⟨_, rfl⟩
      have qi : (i : Int) - (j : Int) = (i' : Int) := by omega
      have wi : IntKind.i64.wrap (i' : Int) = (i' : Int) := IntWalk.i64_in _ (by omega)
      have e1 : ((i : Int) == (j : Int)) = false := by rw [beq_eq_false_iff_ne]; omega
      have e2 : ((i : Int) != (j : Int)) = true := by rw [bne_iff_ne]; omega
      have e3 : (j : Int) < (i : Int) := by omega
      have HS := Lib.hid (swapRange_any cv g n c x m j (by omega) (by omega) hn cur wr HF.out)
      have HN := Lib.hid (So.rotJ_gt HRJ.out him hc)
      rw [hx, hi'] at HN
      have HB2 : Hid (0 < i' ∧ 0 < j ∧ i' ≤ m ∧ m + j ≤ n) := Lib.hid (by omega)
      have HMS : Hid (i' + j < i + j) := Lib.hid (by omega)
      clear hg hi hj him hjn hx hi' hc
      go_wp2_with (go_at_call 28; refine HS.out.mono ?_; rintro e w5 ⟨rfl, F5, G5⟩)
      go_roundw
      case rel => exact ⟨i', j, _, by go_num, rfl, HB2.out, F5, HN.out, HG.out.trans G5⟩
      case measure => have := HMS.out; simp [intOf]; omega
end Go.Proofs.Ytegjfobanjkimaa
