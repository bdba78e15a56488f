/- References: slices.Grow, slices.Concat. Conditions: at most 1000 slices, together at most 2^30 references. -/
import Derived.Shelf.Spec.SlicesGrow
import Derived.ArgAppend
import Derived.Test.YtfllkaeaanahmaaGreatChkAdd
namespace Go.Proofs
set_option linter.unusedVariables false
set_option linter.unusedSimpArgs false
open Go.Shelf
def Tryz.growR_ren : Go.Shelf.Ren := ⟨fun | 4 => 119 | n => n, fun | 0 => 0 | 3 => 3 | 4 => 4 | 9 => 9 | 20 => 20 | 22 => 66 | 25 => 76 | n => n, fun | n => n⟩
theorem Tryz.growR : Go.Proofs.Lays8.n4 Tryz.prog Tryz.growR_ren := {
 mixed := by kernel_rfl
 f4 := ⟨ "slices.Grow[[]solvent/api.Ref,solvent/api.Ref]", by kernel_rfl, Tryz.func119.trans (congrArg some (by kernel_rfl))⟩
 t0 := Tryz.underlying0
 a0 := Tryz.isAgg0
 z0 := Tryz.sizeOf0
 v0 := Tryz.zeroValue0
 t3 := Tryz.underlying3
 a3 := Tryz.isAgg3
 z3 := Tryz.sizeOf3
 v3 := Tryz.zeroValue3
 t4 := Tryz.underlying4
 a4 := Tryz.isAgg4
 z4 := Tryz.sizeOf4
 v4 := Tryz.zeroValue4
 t9 := Tryz.underlying9
 a9 := Tryz.isAgg9
 z9 := Tryz.sizeOf9
 v9 := Tryz.zeroValue9
 t20 := Tryz.underlying20
 a20 := Tryz.isAgg20
 z20 := Tryz.sizeOf20
 v20 := Tryz.zeroValue20
 t22 := Tryz.underlying66
 a22 := Tryz.isAgg66
 z22 := Tryz.sizeOf66
 v22 := Tryz.zeroValue66 }
end Go.Proofs
namespace Go.Proofs.YtfllkaeaanahmaaGreat
open Go.RowKit
theorem growR_any (n : Nat) (hn : n ≤ 1073741824) (w : World) : Calls Tryz.prog 119 #[.slice none 0 0, .int .i64 (n : Int)] w fun e w' => ∃ A c, e = .returned (.slice A 0 c) ∧ w'.ownsRow w.heap.size 76 2 (.slice A 0 c) 0 [] ∧ Below w.heap.size w w' := by
 rcases Nat.eq_zero_or_pos n with h0 | h0
 ·
  subst h0
  refine (Any8.slices_Grow_room Tryz.growR none 0 0 0 w (by omega) (by omega) (by omega) (by omega)).mono ?_
  rintro e w' ⟨rfl, rfl⟩
  exact ⟨none, 0, rfl, World.ownsRow_nil _ _ _ _, Below.refl _ _⟩
 ·
  have hi := refT.info
  cases h : Tryz.prog.info? 76 with
  | none => rw [h] at hi; simp at hi
  | some i =>
   rw [h] at hi
   simp only [Option.map_some, Option.some.injEq, Prod.mk.injEq] at hi
   obtain ⟨hz, hs, hb⟩ := hi
   refine (Any8.slices_Grow_grow Tryz.growR i (.agg #[.int .i64 0, .int .i64 0]) h hz (by omega) none 0 0 n [] w (by omega) (by omega) (by rw [hb]; omega) (by omega) (by simp) (fun _ => rfl) (fun a ha => by cases ha)).mono ?_
   rintro e w' ⟨rfl, rfl⟩
   have hc1 := grownCap_ge w (0 + n) 0 (Tryz.growR_ren.t 25)
   have hc2 := grownCap_le_maxLen w (0 + n) 0 (Tryz.growR_ren.t 25) (by unfold maxLen; omega)
   refine ⟨_, _, rfl, ⟨rfl, Or.inr ⟨w.heap.size, _, _, rfl, Nat.le_refl _, heap_alloc_new w.drew _, Nat.zero_le _, hc2, ?_, rfl⟩⟩, (Below.refl _ _).drew.alloc (Nat.le_refl _) _⟩
   have hz1 : (Value.agg #[.int .i64 0, .int .i64 0]).cells.size = 2 := rfl
   rw [Array.size_append, Array.size_append, size_zeroCells, size_zeroCells, hz1]
   simp only [Nat.zero_add] at hc1 ⊢
   simp
   omega
theorem rfs_app (a b : List Chk.Rf) : rfs (a ++ b) = rfs a ++ rfs b := List.flatMap_append
structure RSl where
 A : Option Addr
 n : Nat
 c : Nat
 l : List Chk.Rf
abbrev rsl (y : RSl) : Value := .slice y.A y.n y.c
def RSlOk (w : World) (B : Nat) (y : RSl) : Prop := y.l.length = y.n ∧ Rd w B 2 y.A y.n (rfs y.l)
def catL (L : List RSl) : List Chk.Rf := L.flatMap fun y => y.l
theorem cat_take {L : List RSl} {k : Nat} (h : k < L.length) : catL (L.take (k + 1)) = catL (L.take k) ++ L[k].l := by
 unfold catL; rw [List.take_succ_eq_append_getElem h, List.flatMap_append]; simp
theorem cat_le (L : List RSl) (k : Nat) : (catL (L.take k)).length ≤ (catL L).length := by
 unfold catL
 have h : L.flatMap (fun y => y.l) = (L.take k).flatMap (fun y => y.l) ++ (L.drop k).flatMap (fun y => y.l) := by rw [← List.flatMap_append, List.take_append_drop]
 rw [h, List.length_append]; omega
set_option maxRecDepth 100000 in
set_option maxHeartbeats 1600000 in
theorem concatR_any (A : Option Addr) (n c : Nat) (L : List RSl) (hL : L.length = n) (hn : n ≤ 1000) (B : Nat) (w : World) (hr : Rd w B 1 A n (L.map rsl)) (hok : ∀ y ∈ L, RSlOk w B y) (hB : B ≤ w.heap.size) (ht : (catL L).length ≤ 1073741824) :
  Calls Tryz.prog 99 #[.slice A n c] w fun e w' => ∃ A' c', e = .returned (.slice A' (catL L).length c') ∧ w'.ownsRow w.heap.size 76 2 (.slice A' (catL L).length c') (catL L).length (rfs (catL L)) ∧ Below w.heap.size w w' := by
 have HR := Lib.hid hr
 have HOK := Lib.hid hok
 have HL := Lib.hid hL
 have HT := Lib.hid ht
 clear hr hok hL ht
 go_enter Tryz.func99, Tryz.ntmps99
 go_wp2
 go_loop [3, 11] (fun u3 u11 => ∃ k s : Nat, k ≤ n ∧ u3 = .int .i64 s ∧ u11 = .int .i64 k ∧ Hid (s = (catL (L.take k)).length)) (fun _ u11 => n - (intOf u11).toNat)
 case atStart => exact ⟨0, 0, Nat.zero_le _, rfl, rfl, rfl⟩
 case round =>
  obtain ⟨k, s, hk, rfl, rfl, HS⟩ := hrel
  by_cases hlt : k < n
  ·
   have hkl : k < L.length := by rw [HL.out]; exact hlt
   obtain ⟨b, off, rfl, _, h1⟩ := HR.out.get hkl
   have hy := HOK.out L[k] (List.getElem_mem hkl)
   have hc := cat_take hkl
   have hle := cat_le L (k + 1)
   have hll := HT.out
   obtain ⟨y, hyy⟩ : ∃ y, L[k] = y := ⟨_, rfl⟩
   rw [hyy] at h1 hy hc
   obtain ⟨Ay, ny, cy, ly⟩ := y
   obtain ⟨hly, _⟩ := hy
   simp only [] at h1 hly hc
   obtain ⟨s', hs'⟩ : ∃ x, s + ny = x := ⟨_, rfl⟩
   have q1 : (s : Int) + (ny : Int) = (s' : Int) := by omega
   have hs2 : s' = (catL (L.take (k + 1))).length := by rw [hc, List.length_append, ← HS.out]; omega
   have w1 : IntKind.i64.wrap (s' : Int) = (s' : Int) := IntWalk.i64_in _ (by omega)
   have n1 : ¬ ((s' : Int) < 0) := by omega
   have i0 : (0 : Int) ≤ (k : Int) := by omega
   have i1 : (k : Int) < (n : Int) := by omega
   have HS2 := Lib.hid hs2
   clear hc hle hll hyy hly hs' hs2 hkl
   go_wp2_with fail
   go_round
   case rel => exact ⟨k + 1, s', by omega, rfl, by go_num, HS2.out⟩
   case measure => simp [intOf]; omega
  ·
   obtain rfl : k = n := by omega
   have hsl : s = (catL L).length := by rw [HS.out, List.take_of_length_le (by rw [HL.out]; exact Nat.le_refl _)]
   have HG := Lib.hid (growR_any s (by rw [hsl]; exact HT.out) w)
   have HSL := Lib.hid hsl
   clear hsl
   go_wp2_with (go_at_call 119; refine HG.out.mono ?_; rintro e w1 ⟨A1, c1, rfl, own1, b1⟩)
   have HO1 := Lib.hid own1
   have HB1 := Lib.hid b1
   clear own1 b1
   go_loopw [6, 27] (fun u6 u27 wr => ∃ (j m : Nat) (A' : Option Addr) (c' : Nat), j ≤ k ∧ u6 = .slice A' m c' ∧ u27 = .int .i64 j ∧ Hid (m = (catL (L.take j)).length ∧ wr.ownsRow w.heap.size 76 2 (.slice A' m c') m (rfs (catL (L.take j)))) ∧ Below w.heap.size w wr) (fun _ u27 _ => k - (intOf u27).toNat)
   case atStart => exact ⟨0, 0, A1, c1, Nat.zero_le _, rfl, rfl, ⟨rfl, HO1.out⟩, HB1.out⟩
   case round =>
    obtain ⟨j, m, A', c', hj, rfl, rfl, HM, hbr⟩ := hrel
    by_cases hlt2 : j < k
    ·
     have hkl : j < L.length := by rw [HL.out]; exact hlt2
     obtain ⟨b, off, rfl, _, h1⟩ := (HR.out.below (hbr.mono hB)).get hkl
     have hy := HOK.out L[j] (List.getElem_mem hkl)
     have hc := cat_take hkl
     have hle := cat_le L (j + 1)
     have hll := HT.out
     obtain ⟨y, hyy⟩ : ∃ y, L[j] = y := ⟨_, rfl⟩
     rw [hyy] at h1 hy hc
     obtain ⟨Ay, ny, cy, ly⟩ := y
     obtain ⟨hly, hry⟩ := hy
     simp only [] at h1 hly hc hry
     have hmn : m + ny ≤ 1073741824 := by rw [hc, List.length_append, ← HM.out.1] at hle; omega
     have hry' := hry.below (hbr.mono hB)
     have own2 := HM.out.2
     have hsz := hbr.size
     have i0 : (0 : Int) ≤ (j : Int) := by omega
     have i1 : (j : Int) < (k : Int) := by omega
     have HC := Lib.hid hc
     have HLY := Lib.hid hly
     clear hc hle hll hyy hly hkl hry
     go_wp2_with (at_builtin; refine wpList_appR rfl (.tmp 31) (.tmp 32) 66 rfl w.heap.size 76 _ 2 16 refT A' m c' _ Ay ny cy _ rfl rfl own2 hry' (rfs_one _) hbr (by omega) (Nat.le_refl _) hsz ?_; intro A7 c7 w7 own7 hb7)
     go_roundw
     case rel => exact ⟨j + 1, m + ny, A7, c7, by omega, rfl, by go_num, ⟨by rw [HC.out, List.length_append, ← HM.out.1, HLY.out], by rw [HC.out, rfs_app]; exact own7⟩, hb7⟩
     case measure => simp [intOf]; omega
    ·
     obtain rfl : j = k := by omega
     have he : L.take j = L := List.take_of_length_le (by rw [HL.out]; exact Nat.le_refl _)
     have hm := HM.out
     rw [he] at hm
     obtain ⟨rfl, hm2⟩ := hm
     have HM2 := Lib.hid hm2
     have HBR := Lib.hid hbr
     clear hm2 hbr
     go_wp2_with fail
     go_ret
     exact ⟨A', c', rfl, HM2.out, HBR.out⟩
end Go.Proofs.YtfllkaeaanahmaaGreat
