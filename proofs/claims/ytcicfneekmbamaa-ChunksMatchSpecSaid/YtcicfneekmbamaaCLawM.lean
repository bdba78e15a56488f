/- The law ChunksMatchSpec. Conditions: none beside the argument's form. -/
import Derived.Test.YtcicfneekmbamaaCLawKit
import Derived.Test.YtcicfneekmbamaaChkRI
namespace Go.Proofs.Ytcicfneekmbamaa
set_option linter.unusedVariables false
set_option linter.unusedSimpArgs false
open Go.RowKit
set_option maxRecDepth 100000 in
set_option maxHeartbeats 3200000 in
theorem lawMatch (A : Option Addr) (n c : Nat) (ops : List Chk.Op) (hl : ops.length = n) (hnc : n ≤ c) (hc : c ≤ 140737488355328) (hok : ∀ o ∈ ops, OpOk o) (w : World) (hr : Rd w w.heap.size 9 A n (ops.flatMap opL)) :
    Calls Try.prog 5 #[.slice A n c] w fun e w' => e = .returned (.bool true) ∧ Below w.heap.size w w' := by
  have HSN := Lib.hid sanity_any
  by_cases hn : 120 < n
  · have e0 : (120 : Int) < (n : Int) := by omega
    clear hr hl hok hnc hc hn
    go_enter Try.func5, Try.ntmps5
    go_wp2_with (go_at_call 12; refine (HSN.out _).mono ?_; rintro e w2 ⟨rfl, b2⟩)
    go_ret
    exact ⟨rfl, b2⟩
  have HO : Hid (OpsAt w A n ops) := Lib.hid ⟨hr, hl, fun o ho => (hok o ho).2.2.2.2.2⟩
  have HN := Lib.hid (new_new w)
  have e0 : ¬ (120 : Int) < (n : Int) := by omega
  have hn1 : n ≤ 120 := by omega
  clear hr hl hok hnc hc hn
  go_enter Try.func5, Try.ntmps5
  go_upto_region 4 with (go_at_call 27; refine HN.out.mono ?_; rintro e w1 ⟨a, rfl, htab⟩; have HT1 := Lib.hid htab; clear htab)
  have hp1 := HT1.out.pair
  obtain ⟨r, hr⟩ : ∃ r, w1.heap.size = r := ⟨_, rfl⟩
  rw [hr] at hp1 ⊢
  obtain ⟨w2, hw2⟩ : ∃ x, w1.alloc (.cells [.slice none 0 0].toArray 34) = x := ⟨_, rfl⟩
  have hw2' : w1.alloc (.cells #[.slice none 0 0] 34) = w2 := hw2
  try rw [hw2'] at hp1
  try rw [hw2'] at ⊢
  have HP1 := Lib.hid hp1
  clear hp1 hw2 hw2' hr HT1
  go_upto_region 6 with (go_at_call 29; refine HP1.out.same_.mono ?_; rintro e w3 ⟨rfl, b3⟩)
  have HP3 := Lib.hid (HP1.out.below b3)
  clear b3
  go_wp2_with fail
  go_loopw [24] (fun u wx => ∃ (wr : World) (j : Nat), wr = wx ∧ j ≤ n ∧ u = .int .i64 (j : Int) ∧ Hid (Pair w wr a (Chk.run [] (ops.take j)) r (Chk.run [] (ops.take j)) (fun _ => False))) (fun u _ => n - (intOf u).toNat)
  case atStart => exact ⟨_, 0, rfl, Nat.zero_le _, rfl, HP3⟩
  case round =>
    obtain ⟨wr, j, rfl, hj, rfl, HTJ⟩ := hrel
    by_cases hlt : j < n
    · have hjl : j < ops.length := by rw [HO.out.len]; exact hlt
      have hbr := HTJ.out.b
      obtain ⟨b, off, rfl, hbb, hrg⟩ := HO.out.rd.elem (f := opL) (fun _ _ => rfl) hjl hlt
      have hpr := HO.out.pr ops[j] (List.getElem_mem hjl)
      have hst := run_take hjl []
      obtain ⟨o, ho⟩ : ∃ o, ops[j] = o := ⟨_, rfl⟩
      rw [ho] at hrg hpr hst
      have hrw : wr.rangeAt b (off + j * 9) (opL o) := fun q u hq => (hbr.cell (p := ⟨b, off + j * 9 + q, none⟩) hbb).trans (hrg q u hq)
      obtain ⟨l, hll⟩ : ∃ l, Chk.run [] (ops.take j) = l := ⟨_, rfl⟩
      rw [hll] at HTJ hst
      obtain ⟨v1, hv1⟩ : ∃ v, (Chk.step l o).2.1 = v := ⟨_, rfl⟩
      obtain ⟨v2, hv2⟩ : ∃ v, (Chk.step l o).2.2 = v := ⟨_, rfl⟩
      have HDO : Hid (∀ W G, Pair w W a l r l G → Calls Try.prog 28 #[.pointer (some ⟨a, 0, none⟩), opV o] W fun e w' => e = .returned (.tuple #[.int .i64 v1, .int .i64 v2]) ∧ Pair w w' a (Chk.run [] (ops.take (j + 1))) r l G ∧ SameG W w' G) := Lib.hid (fun W G hW => by
        have := hW.do_ o hpr
        rwa [hv1, hv2, ← hst] at this)
      have HRD : Hid (∀ W G, Pair w W a (Chk.run [] (ops.take (j + 1))) r l G → Calls Try.prog 13 #[.pointer (some ⟨r, 0, none⟩), opV o] W fun e w' => e = .returned (.tuple #[.int .i64 v1, .int .i64 v2]) ∧ Pair w w' a (Chk.run [] (ops.take (j + 1))) r (Chk.run [] (ops.take (j + 1))) G ∧ SameG W w' G) := Lib.hid (fun W G hW => by
        have := hW.rdo_ o hpr
        rwa [hv1, hv2, ← hst] at this)
      obtain ⟨l2, hl2⟩ : ∃ l2, Chk.run [] (ops.take (j + 1)) = l2 := ⟨_, rfl⟩
      rw [hl2] at HDO HRD
      have HL2 := Lib.hid hl2
      obtain ⟨os, hos⟩ : ∃ os, opL o = os := ⟨_, rfl⟩
      have HOV : Hid (opV o = .agg os.toArray) := Lib.hid (by rw [← hos]; rfl)
      rw [HOV.out] at HDO HRD
      rw [hos] at hrw
      have HLN := Lib.hid (show os.length = 9 by rw [← hos]; rfl)
      have HON := Lib.hid (show os.all (·.oneCell') = true by rw [← hos]; rfl)
      have e1 : (0 : Int) ≤ (j : Int) := by omega
      have e2 : (j : Int) < (n : Int) := by omega
      clear hjl hbr hbb hrg hpr hst ho hos hll hv1 hv2 hl2
      go_upto_region 9 with (first
        | (refine wpList_load_mid rfl _ (.tmp 26) rfl b (off + j * 9) rfl os _ hrw Try.underlying37 rfl (by rw [HLN.out]; exact sizeOp) ?_)
        | (refine wpList_allocRow rfl _ rfl _ infoOp ?_; intro w3 rz3 b3 z3; clear z3)
        | (refine wpList_storeRow rfl _ (.tmp 6) (.tmp 27) rfl (l' := os) rz3 rfl rfl (by rw [HLN.out]; exact sizeOp) (by rw [HLN.out]; rfl) HON.out ?_; intro w4 rz4 g4 z4; clear z4))
      have hb4 : Below wr.heap.size wr w4 := b3.grown g4 b3.size (fun i hi => by have := Option.some.inj hi; omega)
      obtain ⟨b6, hb6⟩ : ∃ y, wr.heap.size = y := ⟨_, rfl⟩
      have HP4 := Lib.hid (HTJ.out.more hb4 wr.heap.size (Nat.le_refl _) rz4.lt)
      rw [hb6] at rz4 HP4 ⊢
      have HR4 := Lib.hid rz4
      have hr4 : w4.rangeAt b6 0 os := fun q u hu => by rw [Nat.zero_add, rz4.cell]; exact hu
      clear rz3 b3 g4 hrw hb4 hb6 rz4
      try simp only [Act.put, List.setIfInBounds_toArray, List.set_cons_zero, List.set_cons_succ]
      go_upto_region 10 with (first
        | (refine wpList_load_mid rfl _ (.tmp 6) rfl b6 0 rfl os _ hr4 Try.underlying37 rfl (by rw [HLN.out]; exact sizeOp) ?_)
        | (go_at_call 28; refine (HDO.out _ _ HP4.out).mono ?_; rintro e w5 ⟨rfl, hp5, hs5⟩; have HP5 := Lib.hid hp5; have HS5 := Lib.hid hs5; clear hp5 hs5))
      have rz5 := HS5.out.row HR4.out rfl
      have hr5 : w5.rangeAt b6 0 os := fun q u hu => by rw [Nat.zero_add, rz5.cell]; exact hu
      clear rz5 hr4
      try simp only [Act.put, List.setIfInBounds_toArray, List.set_cons_zero, List.set_cons_succ]
      go_upto_region 11 with (first
        | (refine wpList_load_mid rfl _ (.tmp 6) rfl b6 0 rfl os _ hr5 Try.underlying37 rfl (by rw [HLN.out]; exact sizeOp) ?_)
        | (go_at_call 13; refine (HRD.out _ _ HP5.out).mono ?_; rintro e w6 ⟨rfl, hp6, hs6⟩; have HP6 := Lib.hid hp6; clear hp6 hs6))
      clear hr5
      try simp only [Act.put, List.setIfInBounds_toArray, List.set_cons_zero, List.set_cons_succ]
      go_wp2_with (go_at_call 29; refine HP6.out.same_.mono ?_; rintro e w7 ⟨rfl, b7⟩)
      go_roundw
      case rel => exact ⟨_, j + 1, rfl, by omega, by go_num, Lib.hid (by rw [HL2.out]; exact (HP6.out.below b7).free)⟩
      case measure => simp [intOf]; omega
    · obtain rfl : j = n := by omega
      go_wp2_with (go_at_call 12; refine (HSN.out _).mono ?_; rintro e w2 ⟨rfl, b2⟩)
      go_ret
      exact ⟨rfl, HTJ.out.b.trans (b2.mono HTJ.out.b.size)⟩
end Go.Proofs.Ytcicfneekmbamaa
