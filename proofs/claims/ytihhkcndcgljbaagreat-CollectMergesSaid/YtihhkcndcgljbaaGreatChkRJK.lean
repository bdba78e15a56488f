/- Joined texts: ChkRJ, ChkRK. Conditions: as each part says. -/
import Derived.Test.YtihhkcndcgljbaaGreatChkR3
namespace Go.Proofs.YtihhkcndcgljbaaGreat
set_option linter.unusedVariables false
set_option linter.unusedSimpArgs false
/-! The reference's table: Own, Get, Count, Live, Lost. Conditions: the table is kept. -/
section
open Go.RowKit
end
/-! The reference's table: Count, Live, Lost. Conditions: the table is kept. -/
section
open Go.RowKit
set_option maxRecDepth 100000 in
set_option maxHeartbeats 1600000 in
theorem rlive_any {w : World} {F S : Nat → Prop} {a : Nat} {t : RM} {l : List Chk.Ck} (h : RAt w F S a t l) (r g : Int) :
    Calls Tryz.prog 11 #[.pointer (some ⟨a, 0, none⟩), .agg #[.int .i64 r, .int .i64 g]] w fun e w' => ∃ A c, e = .returned (.slice A (Chk.live l r g).length c) ∧ w'.ownsRow w.heap.size 3 1 (.slice A (Chk.live l r g).length c) (Chk.live l r g).length (ivs (Chk.live l r g)) ∧ Below w.heap.size w w' := by
  have HAT := Lib.hid (fun W (hW : Below w.heap.size w W) u v q hv hq => rat_any (h.below hW) u v q hv hq)
  have hb0 : Below w.heap.size w (w.alloc (.cells #[.int .i64 r, .int .i64 g] 35)) := (Below.refl _ w).alloc (Nat.le_refl _) _
  have k0 : (w.alloc (.cells #[.int .i64 r, .int .i64 g] 35)).cell? ⟨w.heap.size, 0, none⟩ = some (.int .i64 r) := (IsRow.new w 35 [.int .i64 r, .int .i64 g]).cell 0
  have k1 : (w.alloc (.cells #[.int .i64 r, .int .i64 g] 35)).cell? ⟨w.heap.size, 1, none⟩ = some (.int .i64 g) := (IsRow.new w 35 [.int .i64 r, .int .i64 g]).cell 1
  obtain ⟨w0, hw0⟩ : ∃ x, w.alloc (.cells #[.int .i64 r, .int .i64 g] 35) = x := ⟨_, rfl⟩
  rw [hw0] at hb0 k0 k1
  have hs0 : w0.heap.size = w.heap.size + 1 := by rw [← hw0]; simp
  have HW0 := Lib.hid hw0
  have HB0 := Lib.hid hb0
  have HS0 := Lib.hid hs0
  have HKK := Lib.hid (And.intro k0 k1)
  clear hw0 hb0 hs0 k0 k1 h
  go_enter Tryz.func11, Tryz.ntmps11
  go_upto_region 1 with fail
  rw [HW0.out]
  go_upto_region 3 with fail
  go_loopw [5, 6] (fun u5 u6 wr => ∃ (j M : Nat) (A3 : Option Addr) (c3 : Nat), j ≤ 32 ∧ u6 = .int .i64 (j : Int) ∧ u5 = .slice A3 M c3 ∧ Hid (M = (liveN l r g j).length) ∧ Hid (wr.ownsRow w0.heap.size 3 1 (.slice A3 M c3) M (ivs (liveN l r g j))) ∧ Hid (Below w0.heap.size w0 wr)) (fun _ u6 _ => 32 - (intOf u6).toNat)
  case atStart => exact ⟨0, 0, none, 0, Nat.zero_le _, rfl, rfl, Lib.hid rfl, Lib.hid (World.ownsRow_nil _ _ _ _), Lib.hid (Below.refl _ _)⟩
  case round =>
    obtain ⟨j, M, A3, c3, hj, rfl, rfl, HM, HO, HBX⟩ := hrel
    have HB := Lib.hid (HB0.out.trans (HBX.out.mono HB0.out.size))
    by_cases hlt : j < 32
    · have q0 : wr.cell? ⟨w.heap.size, 0, none⟩ = some (.int .i64 r) := (HBX.out.cell (p := ⟨w.heap.size, 0, none⟩) (show w.heap.size < _ by have := HS0.out; omega)).trans HKK.out.1
      have q1 : wr.cell? ⟨w.heap.size, 1, none⟩ = some (.int .i64 g) := (HBX.out.cell (p := ⟨w.heap.size, 1, none⟩) (show w.heap.size < _ by have := HS0.out; omega)).trans HKK.out.2
      have e2 : (j : Int) < 32 := by omega
      have hln := liveN_succ l r g j
      have hle := liveN_le l r g j
      have HML := Lib.hid (show M ≤ 32 by rw [HM.out]; omega)
      cases hu : Chk.unitAt l ⟨r, g, (j : Nat)⟩ with
      | none =>
        rw [hu] at hln
        have HAU := Lib.hid (HAT.out wr HB.out ⟨r, g, (j : Nat)⟩ 0 false (by rw [hu]; rfl) (by rw [hu]; rfl))
        unfold unV at HAU
        have HLN : Hid (liveN l r g (j + 1) = liveN l r g j) := Lib.hid (by rw [hln]; simp)
        clear hln hle hu
        go_wp2_with (go_at_call 42; refine HAU.out.mono ?_; rintro e w3 ⟨rfl, b3⟩; have HB3 := Lib.hid b3; clear b3)
        go_roundw
        case rel => exact ⟨j + 1, M, A3, c3, by omega, by go_num, rfl, Lib.hid (by rw [HLN.out]; exact HM.out), Lib.hid (by rw [HLN.out]; exact own_below HO.out HB3.out), Lib.hid (HBX.out.trans (HB3.out.mono HBX.out.size))⟩
        case measure => simp [intOf]; omega
      | some v =>
        rw [hu] at hln
        have HAU := Lib.hid (HAT.out wr HB.out ⟨r, g, (j : Nat)⟩ v true (by rw [hu]; rfl) (by rw [hu]; rfl))
        unfold unV at HAU
        have HLN : Hid (liveN l r g (j + 1) = liveN l r g j ++ [v]) := Lib.hid (by rw [hln]; simp)
        clear hln hle hu
        go_wp2_with (first
          | (go_at_call 42; refine HAU.out.mono ?_; rintro e w3 ⟨rfl, b3⟩; have HB3 := Lib.hid b3; clear b3)
          | (at_builtin; refine wpList_app1 rfl (.tmp 22) (.tmp 24) 47 rfl w0.heap.size 3 _ 8 intsT A3 M c3 (ivs (liveN l r g j)) (.int .i64 v) rfl rfl (own_below HO.out HB3.out) (HBX.out.trans (HB3.out.mono HBX.out.size)) rfl (by have := HML.out; omega) (Nat.le_refl _) (Nat.le_trans HBX.out.size HB3.out.size) ?_; intro g4 c4 w4 own4 hb4 hg4; rw [ivs_snoc _ v rfl, ← HLN.out] at own4; have HO4 := Lib.hid own4; have HB4 := Lib.hid hb4; clear own4 hb4 hg4))
        go_roundw
        case rel => exact ⟨j + 1, M + 1, some ⟨g4, 0, none⟩, c4, by omega, by go_num, rfl, Lib.hid (by rw [HLN.out, List.length_append, ← HM.out]; rfl), HO4, HB4⟩
        case measure => simp [intOf]; omega
    · obtain rfl : j = 32 := by omega
      go_wp2_with fail
      go_ret
      have hm := HM.out
      have ho := HO.out
      have e : liveN l r g 32 = Chk.live l r g := rfl
      rw [e] at hm ho
      subst hm
      exact ⟨A3, c3, rfl, own_base ho (by have := HS0.out; omega), HB0.out.trans (HBX.out.mono HB0.out.size)⟩
end
end Go.Proofs.YtihhkcndcgljbaaGreat
