/- The reference's table: Count, Live, Lost. Conditions: the table is kept. -/
import Derived.Test.YtcicfneekmbamaaChkRJ
namespace Go.Proofs.Ytcicfneekmbamaa
set_option linter.unusedVariables false
set_option linter.unusedSimpArgs false
open Go.RowKit
set_option maxRecDepth 100000 in
set_option maxHeartbeats 1600000 in
theorem rcount_any {w : World} {F S : Nat → Prop} {a : Nat} {t : RM} {l : List Chk.Ck} (h : RAt w F S a t l) (who : Int) :
    Calls Try.prog 26 #[.pointer (some ⟨a, 0, none⟩), .int .i64 who] w fun e w' => e = .returned (.int .i64 (Chk.count l who)) ∧ Below w.heap.size w w' := by
  have hmx := h.max
  have HL := Lib.hid h.len.1
  have HT := Lib.hid h
  clear h
  go_enter Try.func26, Try.ntmps26
  go_upto_region 3 with fail
  go_loopw [5, 6] (fun u5 u6 wr => ∃ j : Nat, j ≤ t.n ∧ u6 = .int .i64 (j : Int) ∧ u5 = .int .i64 (Chk.count (l.take j) who) ∧ Hid (Below w.heap.size w wr)) (fun _ u6 _ => t.n - (intOf u6).toNat)
  case atStart => exact ⟨0, Nat.zero_le _, rfl, rfl, Lib.hid (Below.refl _ _)⟩
  case round =>
    obtain ⟨j, hj, rfl, rfl, HB⟩ := hrel
    have c0 := HT.out.rd HB.out
    by_cases hlt : j < t.n
    · have hjl : j < l.length := by rw [HL.out]; exact hlt
      obtain ⟨g, x, hA, hg, hx, hn, hcr, hok, hrg⟩ := HT.out.at hlt
      rw [hA] at c0
      have hrw : wr.rangeAt g (j * 23) x.cells := fun k u hu => (HB.out.cell (p := ⟨g, j * 23 + k, none⟩) (show g < w.heap.size by omega)).trans (hrg k u hu)
      have hd := HT.out.dl x (List.mem_of_getElem? hx)
      have hct := count_take l hjl who
      have hb0 := count_bound HT.out.inv who j (by omega)
      have hb1 := count_bound HT.out.inv who (j + 1) (by omega)
      rw [hn] at hct
      obtain ⟨hv, hhv⟩ : ∃ v, Chk.held x.c.refs who = v := ⟨_, rfl⟩
      have HH := Lib.hid (fun (W : World) (hW : Below w.heap.size w W) => rheld_any x.c hok.dg x.A x.n x.k hcr.n (by have h1 := hcr.n; have h2 := refs_len hok.refs; omega) w.heap.size W (hcr.rd.below hW) hW.size who x.cells rfl hv hhv)
      rw [hhv] at hct
      obtain ⟨cs, hcs⟩ : ∃ cs, x.cells = cs := ⟨_, rfl⟩
      rw [hcs] at hrw hd HH
      obtain ⟨C0, hC0⟩ : ∃ x, Chk.count (l.take j) who = x := ⟨_, rfl⟩
      obtain ⟨C1, hC1⟩ : ∃ x, Chk.count (l.take (j + 1)) who = x := ⟨_, rfl⟩
      rw [hC0] at hct hb0
      rw [hC1] at hct hb1
      try rw [hC0]
      have e1 : (0 : Int) ≤ (j : Int) := by omega
      have e2 : (j : Int) < (t.n : Int) := by omega
      have e3 : IntKind.i64.wrap (C0 + hv) = C1 := by rw [← hct]; exact IntWalk.i64_in _ (by push_cast at hb1; omega)
      have HC1 := Lib.hid hC1
      have HD := Lib.hid hd
      clear hA hg hx hn hcr hok hrg hcs hd hjl hct hb0 hb1 hhv hC0 hC1
      go_wp2_with (first
        | (refine wpList_load_mid rfl _ (.tmp 22) rfl g (j * 23) rfl cs _ hrw Try.underlying45 rfl (by rw [HD.out]; exact sizeCk) ?_)
        | (go_at_call 53; refine (HH.out _ HB.out).mono ?_; rintro e w3 ⟨rfl, b3⟩; have HB3 := Lib.hid (HB.out.trans (b3.mono HB.out.size)); clear b3))
      go_roundw
      case rel => exact ⟨j + 1, by omega, by go_num, by rw [HC1.out], HB3⟩
      case measure => simp [intOf]; omega
    · obtain rfl : j = t.n := by omega
      have HE : Hid (Chk.count (l.take t.n) who = Chk.count l who) := Lib.hid (by rw [List.take_of_length_le (by rw [HL.out]; exact Nat.le_refl _)])
      go_wp2_with fail
      go_ret
      exact ⟨by rw [← HE.out]; rfl, HB.out⟩
set_option maxRecDepth 100000 in
set_option maxHeartbeats 1600000 in
theorem rlive_any {w : World} {F S : Nat → Prop} {a : Nat} {t : RM} {l : List Chk.Ck} (h : RAt w F S a t l) (r g : Int) :
    Calls Try.prog 21 #[.pointer (some ⟨a, 0, none⟩), .agg #[.int .i64 r, .int .i64 g]] w fun e w' => ∃ A c, e = .returned (.slice A (Chk.live l r g).length c) ∧ w'.ownsRow w.heap.size 3 1 (.slice A (Chk.live l r g).length c) (Chk.live l r g).length (ivs (Chk.live l r g)) ∧ Below w.heap.size w w' := by
  have HAT := Lib.hid (fun W (hW : Below w.heap.size w W) u v q hv hq => rat_any (h.below hW) u v q hv hq)
  have hb0 : Below w.heap.size w (w.alloc (.cells #[.int .i64 r, .int .i64 g] 24)) := (Below.refl _ w).alloc (Nat.le_refl _) _
  have k0 : (w.alloc (.cells #[.int .i64 r, .int .i64 g] 24)).cell? ⟨w.heap.size, 0, none⟩ = some (.int .i64 r) := (IsRow.new w 24 [.int .i64 r, .int .i64 g]).cell 0
  have k1 : (w.alloc (.cells #[.int .i64 r, .int .i64 g] 24)).cell? ⟨w.heap.size, 1, none⟩ = some (.int .i64 g) := (IsRow.new w 24 [.int .i64 r, .int .i64 g]).cell 1
  obtain ⟨w0, hw0⟩ : ∃ x, w.alloc (.cells #[.int .i64 r, .int .i64 g] 24) = x := ⟨_, rfl⟩
  rw [hw0] at hb0 k0 k1
  have hs0 : w0.heap.size = w.heap.size + 1 := by rw [← hw0]; simp
  have HW0 := Lib.hid hw0
  have HB0 := Lib.hid hb0
  have HS0 := Lib.hid hs0
  have HKK := Lib.hid (And.intro k0 k1)
  clear hw0 hb0 hs0 k0 k1 h
  go_enter Try.func21, Try.ntmps21
  go_upto_region 1 with fail
  rw [HW0.out]
  go_upto_region 3 with fail
  go_loopw [5, 6] (fun u5 u6 wr => ∃ (j M : Nat) (A3 : Option Addr) (c3 : Nat), j ≤ 32 ∧ u6 = .int .i64 (j : Int) ∧ u5 = .slice A3 M c3 ∧ Hid (M = (liveN l r g j).length) ∧ Hid (wr.ownsRow w0.heap.size 3 1 (.slice A3 M c3) M (ivs (liveN l r g j))) ∧ Hid (Below w0.heap.size w0 wr)) (fun _ u6 _ => 32 - (intOf u6).toNat)
  case atStart => exact ⟨0, 0, none, 0, Nat.zero_le _, rfl, rfl, Lib.hid rfl, Lib.hid (World.ownsRow_nil _ _ _ _), Lib.hid (Below.refl _ _)⟩
  case round =>
    obtain ⟨j, M, A3, c3, hj, rfl, rfl, HM, HO, HBX⟩ := hrel
    have HB := Lib.hid (HB0.out.trans (HBX.out.mono HB0.out.size))
    by_cases hlt : j < 32
    · have q0 : wr.cell? ⟨w.heap.size, 0, none⟩ = some (.int .i64 r) := (HBX.out.cell (p := ⟨w.heap.size, 0, none⟩) (show w.heap.size < _ by have := HS0.out; omega)).trans HKK.out.1
      have q1 : wr.cell? ⟨w.heap.size, 1, none⟩ = some (.int .i64 g) := (HBX.out.cell (p := ⟨w.heap.size, 1, none⟩) (show w.heap.size < _ by have := HS0.out; omega)).trans HKK.out.2
      have e2 : (j : Int) < 32 := by omega
      have hln := liveN_succ l r g j
      have hle := liveN_le l r g j
      have HML := Lib.hid (show M ≤ 32 by rw [HM.out]; omega)
      cases hu : Chk.unitAt l ⟨r, g, (j : Nat)⟩ with
      | none =>
        rw [hu] at hln
        have HAU := Lib.hid (HAT.out wr HB.out ⟨r, g, (j : Nat)⟩ 0 false (by rw [hu]; rfl) (by rw [hu]; rfl))
        unfold unV at HAU
        have HLN : Hid (liveN l r g (j + 1) = liveN l r g j) := Lib.hid (by rw [hln]; simp)
        clear hln hle hu
        go_wp2_with (go_at_call 17; refine HAU.out.mono ?_; rintro e w3 ⟨rfl, b3⟩; have HB3 := Lib.hid b3; clear b3)
        go_roundw
        case rel => exact ⟨j + 1, M, A3, c3, by omega, by go_num, rfl, Lib.hid (by rw [HLN.out]; exact HM.out), Lib.hid (by rw [HLN.out]; exact own_below HO.out HB3.out), Lib.hid (HBX.out.trans (HB3.out.mono HBX.out.size))⟩
        case measure => simp [intOf]; omega
      | some v =>
        rw [hu] at hln
        have HAU := Lib.hid (HAT.out wr HB.out ⟨r, g, (j : Nat)⟩ v true (by rw [hu]; rfl) (by rw [hu]; rfl))
        unfold unV at HAU
        have HLN : Hid (liveN l r g (j + 1) = liveN l r g j ++ [v]) := Lib.hid (by rw [hln]; simp)
        clear hln hle hu
        go_wp2_with (first
          | (go_at_call 17; refine HAU.out.mono ?_; rintro e w3 ⟨rfl, b3⟩; have HB3 := Lib.hid b3; clear b3)
          | (at_builtin; refine wpList_app1 rfl (.tmp 22) (.tmp 24) 52 rfl w0.heap.size 3 _ 8 intsT A3 M c3 (ivs (liveN l r g j)) (.int .i64 v) rfl rfl (own_below HO.out HB3.out) (HBX.out.trans (HB3.out.mono HBX.out.size)) rfl (by have := HML.out; omega) (Nat.le_refl _) (Nat.le_trans HBX.out.size HB3.out.size) ?_; intro g4 c4 w4 own4 hb4 hg4; rw [ivs_snoc _ v rfl, ← HLN.out] at own4; have HO4 := Lib.hid own4; have HB4 := Lib.hid hb4; clear own4 hb4 hg4))
        go_roundw
        case rel => exact ⟨j + 1, M + 1, some ⟨g4, 0, none⟩, c4, by omega, by go_num, rfl, Lib.hid (by rw [HLN.out, List.length_append, ← HM.out]; rfl), HO4, HB4⟩
        case measure => simp [intOf]; omega
    · obtain rfl : j = 32 := by omega
      go_wp2_with fail
      go_ret
      have hm := HM.out
      have ho := HO.out
      have e : liveN l r g 32 = Chk.live l r g := rfl
      rw [e] at hm ho
      subst hm
      exact ⟨A3, c3, rfl, own_base ho (by have := HS0.out; omega), HB0.out.trans (HBX.out.mono HB0.out.size)⟩
end Go.Proofs.Ytcicfneekmbamaa
