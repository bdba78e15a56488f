/- Joined texts: GrowB, ConcB, BilE. Conditions: as each part says. -/
import Derived.Shelf.Spec.SlicesGrow
import Derived.Test.YtkjomnakolhdcaaDoorProg
import Derived.Test.YtkjomnakolhdcaaDoorBase
import Derived.Test.YtkjomnakolhdcaaDoorMaps
import Derived.WalkKit
import Derived.WalkSpells
import Derived.WalkLawsBesides
import Derived.Deep.QuietTactic
import Derived.BigQuiet
import Derived.RegionTactic
import Derived.Test.YtkjomnakolhdcaaDoorWireEnc
namespace Go.Proofs
set_option linter.unusedVariables false
set_option linter.unusedSimpArgs false
open Go.Shelf
def Tryd.growB_ren : Go.Shelf.Ren := ⟨fun | 4 => 83 | n => n, fun | 0 => 0 | 3 => 3 | 4 => 4 | 9 => 9 | 20 => 20 | 22 => 58 | 25 => 5 | n => n, fun | n => n⟩
theorem Tryd.growB : Go.Proofs.Lays8.n4 Tryd.prog Tryd.growB_ren := {
  mixed := by kernel_rfl
  f4 := ⟨ "slices.Grow[[]byte,byte]", by kernel_rfl, Tryd.func83.trans (congrArg some (by kernel_rfl))⟩
  t0 := Tryd.underlying0
  a0 := Tryd.isAgg0
  z0 := Tryd.sizeOf0
  v0 := Tryd.zeroValue0
  t3 := Tryd.underlying3
  a3 := Tryd.isAgg3
  z3 := Tryd.sizeOf3
  v3 := Tryd.zeroValue3
  t4 := Tryd.underlying4
  a4 := Tryd.isAgg4
  z4 := Tryd.sizeOf4
  v4 := Tryd.zeroValue4
  t9 := Tryd.underlying9
  a9 := Tryd.isAgg9
  z9 := Tryd.sizeOf9
  v9 := Tryd.zeroValue9
  t20 := Tryd.underlying20
  a20 := Tryd.isAgg20
  z20 := Tryd.sizeOf20
  v20 := Tryd.zeroValue20
  t22 := Tryd.underlying58
  a22 := Tryd.isAgg58
  z22 := Tryd.sizeOf58
  v22 := Tryd.zeroValue58 }
end Go.Proofs
namespace Go.Proofs.YtkjomnakolhdcaaDoor
/-! slices.Grow of the nil slice, at bytes, by the library's contract. No condition. -/
section
open Go.RowKit
theorem byteT : ElemT Tryd.prog 58 5 (.int .u8 0) 1 1 := ⟨Tryd.underlying58, by kernel_rfl, rfl, by decide, by decide⟩
/-- Grow of the nil slice: an empty row of the call's own, with room -/
theorem growB_any (n : Nat) (hn : n ≤ 1099511627776) (w : World) : Calls Tryd.prog 83 #[.slice none 0 0, .int .i64 (n : Int)] w fun e w' => ∃ A c, e = .returned (.slice A 0 c) ∧ w'.ownsRow w.heap.size 5 1 (.slice A 0 c) 0 [] ∧ Below w.heap.size w w' := by
  rcases Nat.eq_zero_or_pos n with h0 | h0
  · subst h0
    refine (Any8.slices_Grow_room Tryd.growB none 0 0 0 w (by omega) (by omega) (by omega) (by omega)).mono ?_
    rintro e w' ⟨rfl, rfl⟩
    exact ⟨none, 0, rfl, World.ownsRow_nil _ _ _ _, Below.refl _ _⟩
  · have hi := byteT.info
    cases h : Tryd.prog.info? 5 with
    | none => rw [h] at hi; simp at hi
    | some i =>
      rw [h] at hi
      simp only [Option.map_some, Option.some.injEq, Prod.mk.injEq] at hi
      obtain ⟨hz, hs, hb⟩ := hi
      refine (Any8.slices_Grow_grow Tryd.growB i (.int .u8 0) h hz (by omega) none 0 0 n [] w (by omega) (by omega) (by rw [hb]; omega) (by omega) (by simp) (fun _ => rfl) (fun a ha => by cases ha)).mono ?_
      rintro e w' ⟨rfl, rfl⟩
      have hc1 := grownCap_ge w (0 + n) 0 (Tryd.growB_ren.t 25)
      have hc2 := grownCap_le_maxLen w (0 + n) 0 (Tryd.growB_ren.t 25) (by unfold maxLen; omega)
      refine ⟨_, _, rfl, ⟨rfl, Or.inr ⟨w.heap.size, _, _, rfl, Nat.le_refl _, heap_alloc_new w.drew _, Nat.zero_le _, hc2, ?_, rfl⟩⟩, (Below.refl _ _).drew.alloc (Nat.le_refl _) _⟩
      have hz1 : (Value.int IntKind.u8 0).cells.size = 1 := rfl
      rw [Array.size_append, Array.size_append, size_zeroCells, size_zeroCells, hz1]
      simp only [Nat.zero_add] at hc1 ⊢
      simp
      omega
end
/-! slices.Concat at bytes. Conditions: at most 1000 slices, together at most 2^40 bytes. -/
section
open Go.RowKit
/-- a slice of bytes among others -/
structure BSl where
  A : Option Addr
  n : Nat
  c : Nat
  l : List UInt8
abbrev bsl (y : BSl) : Value := .slice y.A y.n y.c
/-- it reads its bytes -/
def BSlOk (w : World) (B : Nat) (y : BSl) : Prop := y.l.length = y.n ∧ Rd w B 1 y.A y.n (y.l.map fun x => Value.int .u8 (x.toNat : Int))
def catL (L : List BSl) : List UInt8 := L.flatMap fun y => y.l
theorem cat_take {L : List BSl} {k : Nat} (h : k < L.length) : catL (L.take (k + 1)) = catL (L.take k) ++ L[k].l := by
  unfold catL; rw [List.take_succ_eq_append_getElem h, List.flatMap_append]; simp
theorem cat_le (L : List BSl) (k : Nat) : (catL (L.take k)).length ≤ (catL L).length := by
  unfold catL
  have h : L.flatMap (fun y => y.l) = (L.take k).flatMap (fun y => y.l) ++ (L.drop k).flatMap (fun y => y.l) := by rw [← List.flatMap_append, List.take_append_drop]
  rw [h, List.length_append]; omega
theorem byte_one (l : List UInt8) : ∀ u ∈ l.map (fun x => Value.int .u8 (x.toNat : Int)), u.oneCell' = true := by
  intro u hu; simp only [List.mem_map] at hu; obtain ⟨x, _, rfl⟩ := hu; rfl
set_option maxRecDepth 100000 in
set_option maxHeartbeats 1600000 in
theorem concat_any (A : Option Addr) (n c : Nat) (L : List BSl) (hL : L.length = n) (hn : n ≤ 1000) (B : Nat) (w : World) (hr : Rd w B 1 A n (L.map bsl)) (hok : ∀ y ∈ L, BSlOk w B y) (hB : B ≤ w.heap.size) (ht : (catL L).length ≤ 1099511627776) :
    Calls Tryd.prog 57 #[.slice A n c] w fun e w' => ∃ A' c', e = .returned (.slice A' (catL L).length c') ∧ w'.ownsRow w.heap.size 5 1 (.slice A' (catL L).length c') (catL L).length ((catL L).map fun x => Value.int .u8 (x.toNat : Int)) ∧ Below w.heap.size w w' := by
  have HR := Lib.hid hr
  have HOK := Lib.hid hok
  have HL := Lib.hid hL
  have HT := Lib.hid ht
  clear hr hok hL ht
  go_enter Tryd.func57, Tryd.ntmps57
  go_wp2
  go_loop [3, 11] (fun u3 u11 => ∃ k s : Nat, k ≤ n ∧ u3 = .int .i64 s ∧ u11 = .int .i64 k ∧ Hid (s = (catL (L.take k)).length)) (fun _ u11 => n - (intOf u11).toNat)
  case atStart => exact ⟨0, 0, Nat.zero_le _, rfl, rfl, rfl⟩
  case round =>
    obtain ⟨k, s, hk, rfl, rfl, HS⟩ := hrel
    by_cases hlt : k < n
    · have hkl : k < L.length := by rw [HL.out]; exact hlt
      obtain ⟨b, off, rfl, _, h1⟩ := HR.out.get hkl
      have hy := HOK.out L[k] (List.getElem_mem hkl)
      have hc := cat_take hkl
      have hle := cat_le L (k + 1)
      have hll := HT.out
      obtain ⟨y, hyy⟩ : ∃ y, L[k] = y := ⟨_, rfl⟩
      rw [hyy] at h1 hy hc
      obtain ⟨Ay, ny, cy, ly⟩ := y
      obtain ⟨hly, _⟩ := hy
      simp only [] at h1 hly hc
      obtain ⟨s', hs'⟩ : ∃ x, s + ny = x := ⟨_, rfl⟩
      have q1 : (s : Int) + (ny : Int) = (s' : Int) := by omega
      have hs2 : s' = (catL (L.take (k + 1))).length := by rw [hc, List.length_append, ← HS.out]; omega
      have w1 : IntKind.i64.wrap (s' : Int) = (s' : Int) := IntWalk.i64_in _ (by omega)
      have n1 : ¬ ((s' : Int) < 0) := by omega
      have i0 : (0 : Int) ≤ (k : Int) := by omega
      have i1 : (k : Int) < (n : Int) := by omega
      have HS2 := Lib.hid hs2
      clear hc hle hll hyy hly hs' hs2 hkl
      go_wp2_with fail
      go_round
      case rel => exact ⟨k + 1, s', by omega, rfl, by go_num, HS2.out⟩
      case measure => simp [intOf]; omega
    · obtain rfl : k = n := by omega
      have hsl : s = (catL L).length := by rw [HS.out, List.take_of_length_le (by rw [HL.out]; exact Nat.le_refl _)]
      have HG := Lib.hid (growB_any s (by rw [hsl]; exact HT.out) w)
      have HSL := Lib.hid hsl
      clear hsl
      go_wp2_with (go_at_call 83; refine HG.out.mono ?_; rintro e w1 ⟨A1, c1, rfl, own1, b1⟩)
      have HO1 := Lib.hid own1
      have HB1 := Lib.hid b1
      clear own1 b1
      go_loopw [6, 27] (fun u6 u27 wr => ∃ (j m : Nat) (A' : Option Addr) (c' : Nat), j ≤ k ∧ u6 = .slice A' m c' ∧ u27 = .int .i64 j ∧ Hid (m = (catL (L.take j)).length ∧ wr.ownsRow w.heap.size 5 1 (.slice A' m c') m ((catL (L.take j)).map fun x => Value.int .u8 (x.toNat : Int))) ∧ Below w.heap.size w wr) (fun _ u27 _ => k - (intOf u27).toNat)
      case atStart => exact ⟨0, 0, A1, c1, Nat.zero_le _, rfl, rfl, ⟨rfl, HO1.out⟩, HB1.out⟩
      case round =>
        obtain ⟨j, m, A', c', hj, rfl, rfl, HM, hbr⟩ := hrel
        by_cases hlt2 : j < k
        · have hkl : j < L.length := by rw [HL.out]; exact hlt2
          obtain ⟨b, off, rfl, _, h1⟩ := (HR.out.below (hbr.mono hB)).get hkl
          have hy := HOK.out L[j] (List.getElem_mem hkl)
          have hc := cat_take hkl
          have hle := cat_le L (j + 1)
          have hll := HT.out
          obtain ⟨y, hyy⟩ : ∃ y, L[j] = y := ⟨_, rfl⟩
          rw [hyy] at h1 hy hc
          obtain ⟨Ay, ny, cy, ly⟩ := y
          obtain ⟨hly, hry⟩ := hy
          simp only [] at h1 hly hc hry
          have hmn : m + ny ≤ 1099511627776 := by rw [hc, List.length_append, ← HM.out.1] at hle; omega
          have hry' := hry.below (hbr.mono hB)
          have own2 := HM.out.2
          have hsz := hbr.size
          have i0 : (0 : Int) ≤ (j : Int) := by omega
          have i1 : (j : Int) < (k : Int) := by omega
          have HC := Lib.hid hc
          have HLY := Lib.hid hly
          clear hc hle hll hyy hly hkl hry
          go_wp2_with (at_builtin; refine wpList_appR rfl (.tmp 31) (.tmp 32) 58 rfl w.heap.size 5 _ 1 1 byteT A' m c' _ Ay ny cy _ rfl rfl own2 hry' (byte_one _) hbr (by omega) (Nat.le_refl _) hsz ?_; intro A7 c7 w7 own7 hb7)
          go_roundw
          case rel => exact ⟨j + 1, m + ny, A7, c7, by omega, rfl, by go_num, ⟨by rw [HC.out, List.length_append, ← HM.out.1, HLY.out], by rw [HC.out, List.map_append]; exact own7⟩, hb7⟩
          case measure => simp [intOf]; omega
        · obtain rfl : j = k := by omega
          have he : L.take j = L := List.take_of_length_le (by rw [HL.out]; exact Nat.le_refl _)
          have hm := HM.out
          rw [he] at hm
          obtain ⟨rfl, hm2⟩ := hm
          have HM2 := Lib.hid hm2
          have HBR := Lib.hid hbr
          clear hm2 hbr
          go_wp2_with fail
          go_ret
          exact ⟨A', c', rfl, HM2.out, HBR.out⟩
end
/-! Layer 35's encodings of bookings. Conditions: numbers of 64 bits, at most 1000 charges. -/
section
open Go.RowKit
def encClose (media house : Int) (charges : List Int) : List UInt8 := Wire.enc 1 ++ (Wire.enc media ++ (Wire.enc house ++ Wire.encI charges))
def encCredit (period tenant units : Int) : List UInt8 := Wire.enc 2 ++ (Wire.enc period ++ (Wire.enc tenant ++ Wire.enc units))
theorem encI_len (l : List Int) : (Wire.encI l).length ≤ 9 + 9 * l.length := by
  have h0 := Wire.enc_length_le l.length
  have h : ∀ l : List Int, (l.flatMap Wire.enc).length ≤ 9 * l.length := by
    intro l
    induction l with
    | nil => simp
    | cons a l ih =>
      have := Wire.enc_length_le a
      rw [List.flatMap_cons, List.length_append, List.length_cons]; omega
  have := h l
  show (Wire.enc l.length ++ l.flatMap Wire.enc).length ≤ _
  rw [List.length_append]; omega
/-- four byte slices put together, as a string -/
theorem cat4 {w : World} {A1 A2 A3 A4 : Option Addr} {n1 n2 n3 n4 c1 c2 c3 c4 : Nat} {l1 l2 l3 l4 : List UInt8} {B1 B2 B3 B4 : Nat} (h1 : l1.length = n1) (h2 : l2.length = n2) (h3 : l3.length = n3) (h4 : l4.length = n4)
    (r1 : Rd w B1 1 A1 n1 (bvs l1)) (r2 : Rd w B2 1 A2 n2 (bvs l2)) (r3 : Rd w B3 1 A3 n3 (bvs l3)) (r4 : Rd w B4 1 A4 n4 (bvs l4)) (b1 : B1 ≤ w.heap.size) (b2 : B2 ≤ w.heap.size) (b3 : B3 ≤ w.heap.size) (b4 : B4 ≤ w.heap.size) (ht : n1 + n2 + n3 + n4 ≤ 1099511627776) :
    Calls Tryd.prog 57 #[.slice (some ⟨w.heap.size, 0, none⟩) 4 4] (w.alloc (.cells #[.slice A1 n1 c1, .slice A2 n2 c2, .slice A3 n3 c3, .slice A4 n4 c4] 58)) fun e w' => ∃ A' N c', e = .returned (.slice A' N c') ∧ Rd w' w'.heap.size 1 A' N (bvs (l1 ++ l2 ++ l3 ++ l4)) ∧ Below w.heap.size w w' := by
  have hb : Below w.heap.size w (w.alloc (.cells #[.slice A1 n1 c1, .slice A2 n2 c2, .slice A3 n3 c3, .slice A4 n4 c4] 58)) := (Below.refl _ _).alloc (Nat.le_refl _) _
  have hcat : catL [⟨A1, n1, c1, l1⟩, ⟨A2, n2, c2, l2⟩, ⟨A3, n3, c3, l3⟩, ⟨A4, n4, c4, l4⟩] = l1 ++ l2 ++ l3 ++ l4 := by simp [catL]
  have hz : (w.alloc (.cells #[.slice A1 n1 c1, .slice A2 n2 c2, .slice A3 n3 c3, .slice A4 n4 c4] 58)).heap.size = w.heap.size + 1 := by simp
  have h := concat_any (some ⟨w.heap.size, 0, none⟩) 4 4 [⟨A1, n1, c1, l1⟩, ⟨A2, n2, c2, l2⟩, ⟨A3, n3, c3, l3⟩, ⟨A4, n4, c4, l4⟩] rfl (by decide) (w.heap.size + 1) _ (Rd.new w _ 58 4 (size := 1) rfl) (fun y hy => by
      simp only [List.mem_cons, List.not_mem_nil, or_false] at hy
      rcases hy with rfl | rfl | rfl | rfl
      · exact ⟨h1, (r1.below (hb.mono b1)).more (Nat.le_succ_of_le b1)⟩
      · exact ⟨h2, (r2.below (hb.mono b2)).more (Nat.le_succ_of_le b2)⟩
      · exact ⟨h3, (r3.below (hb.mono b3)).more (Nat.le_succ_of_le b3)⟩
      · exact ⟨h4, (r4.below (hb.mono b4)).more (Nat.le_succ_of_le b4)⟩) (by simp) (by rw [hcat]; simp; omega)
  rw [hcat] at h
  refine h.mono ?_
  rintro e w' ⟨A', c', rfl, own, b'⟩
  exact ⟨A', _, c', rfl, Rd.of_own own, hb.trans (b'.mono hb.size)⟩
set_option maxRecDepth 100000 in
set_option maxHeartbeats 1600000 in
theorem encodeClose_any (media house : Int) (m1 : -9223372036854775808 ≤ media) (m2 : media ≤ 9223372036854775807) (h1 : -9223372036854775808 ≤ house) (h2 : house ≤ 9223372036854775807) (A : Option Addr) (n c : Nat) (l : List Int) (hl : l.length = n) (hn : n ≤ 1000) (hi : I64s l) (B : Nat) (w : World) (rd : Rd w B 1 A n (ivs l)) (hB : B ≤ w.heap.size) :
    Calls Tryd.prog 52 #[.int .i64 media, .int .i64 house, .slice A n c] w fun e w' => e = .returned (.string ⟨(encClose media house l).toArray⟩) ∧ Below w.heap.size w w' := by
  have HI := Lib.hid (fun (W : World) (hW : Below w.heap.size w W) => by have h := wireInts_any A c l (by omega) hi W (by rw [hl]; exact (rd.below (hW.mono hB)).more (Nat.le_trans hB hW.size)); rw [hl] at h; exact h)
  have hle := encI_len l
  have hle1 := Wire.enc_length_le 1
  have hle2 := Wire.enc_length_le media
  have hle3 := Wire.enc_length_le house
  clear rd hi
  have hcv := fun (W : World) (A' : Option Addr) (m cc BB : Nat) (x : List UInt8) (h : Rd W BB 1 A' m (bvs x)) => run_toS W 58 9 5 Tryd.underlying58 Tryd.underlying5 Tryd.underlying9 A' m cc BB x h
  have HCV := Lib.hid hcv
  clear hcv
  go_enter Tryd.func52, Tryd.ntmps52
  go_wp2_with fail
  refine (wireInt_any 1 (by omega) (by omega) _).mono ?_
  rintro e w1 ⟨A1, c1, rfl, own1, b1⟩
  have z1 := b1.size
  have hb1 := b1
  have r1 := Rd.of_own own1
  clear own1 b1
  go_wp2_with fail
  refine (wireInt_any media (by omega) (by omega) _).mono ?_
  rintro e w2 ⟨A2, c2, rfl, own2, b2⟩
  have z2 := b2.size
  have hb2 := hb1.trans (b2.mono hb1.size)
  have r1 := r1.below (b2.mono (by omega))
  have r2 := Rd.of_own own2
  clear own2 b2
  go_wp2_with fail
  refine (wireInt_any house (by omega) (by omega) _).mono ?_
  rintro e w3 ⟨A3, c3, rfl, own3, b3⟩
  have z3 := b3.size
  have hb3 := hb2.trans (b3.mono hb2.size)
  have r1 := r1.below (b3.mono (by omega))
  have r2 := r2.below (b3.mono (by omega))
  have r3 := Rd.of_own own3
  clear own3 b3
  go_wp2_with fail
  refine (HI.out w3 hb3).mono ?_
  rintro e w4 ⟨A4, c4, rfl, own4, b4⟩
  have z4 := b4.size
  have hb4 := hb3.trans (b4.mono hb3.size)
  have r1 := r1.below (b4.mono (by omega))
  have r2 := r2.below (b4.mono (by omega))
  have r3 := r3.below (b4.mono (by omega))
  have r4 := Rd.of_own own4
  clear own4 b4
  have HC4 := Lib.hid (cat4 (c1 := c1) (c2 := c2) (c3 := c3) (c4 := c4) rfl rfl rfl rfl r1 r2 r3 r4 (by omega) (by omega) (by omega) (by omega) (by omega))
  have HB4 := Lib.hid hb4
  clear r1 r2 r3 r4 hb1 hb2 hb3 hb4 z1 z2 z3 z4
  go_wp2_with fail
  refine HC4.out.mono ?_
  rintro e w5 ⟨A5, N5, c5, rfl, r5, b5⟩
  have hcc := HCV.out w5 A5 _ c5 _ _ r5
  have HB5 := Lib.hid (HB4.out.trans (b5.mono HB4.out.size))
  clear r5 b5
  go_wp2_with fail
  go_ret
  exact ⟨rfl, HB5.out⟩
set_option maxRecDepth 100000 in
set_option maxHeartbeats 1600000 in
theorem encodeCredit_any (period tenant units : Int) (m1 : -9223372036854775808 ≤ period) (m2 : period ≤ 9223372036854775807) (h1 : -9223372036854775808 ≤ tenant) (h2 : tenant ≤ 9223372036854775807) (u1 : -9223372036854775808 ≤ units) (u2 : units ≤ 9223372036854775807) (w : World) :
    Calls Tryd.prog 51 #[.int .i64 period, .int .i64 tenant, .int .i64 units] w fun e w' => e = .returned (.string ⟨(encCredit period tenant units).toArray⟩) ∧ Below w.heap.size w w' := by
  have hle1 := Wire.enc_length_le 2
  have hle2 := Wire.enc_length_le period
  have hle3 := Wire.enc_length_le tenant
  have hle := Wire.enc_length_le units
  have hcv := fun (W : World) (A' : Option Addr) (m cc BB : Nat) (x : List UInt8) (h : Rd W BB 1 A' m (bvs x)) => run_toS W 58 9 5 Tryd.underlying58 Tryd.underlying5 Tryd.underlying9 A' m cc BB x h
  have HCV := Lib.hid hcv
  clear hcv
  go_enter Tryd.func51, Tryd.ntmps51
  go_wp2_with fail
  refine (wireInt_any 2 (by omega) (by omega) _).mono ?_
  rintro e w1 ⟨A1, c1, rfl, own1, b1⟩
  have z1 := b1.size
  have hb1 := b1
  have r1 := Rd.of_own own1
  clear own1 b1
  go_wp2_with fail
  refine (wireInt_any period (by omega) (by omega) _).mono ?_
  rintro e w2 ⟨A2, c2, rfl, own2, b2⟩
  have z2 := b2.size
  have hb2 := hb1.trans (b2.mono hb1.size)
  have r1 := r1.below (b2.mono (by omega))
  have r2 := Rd.of_own own2
  clear own2 b2
  go_wp2_with fail
  refine (wireInt_any tenant (by omega) (by omega) _).mono ?_
  rintro e w3 ⟨A3, c3, rfl, own3, b3⟩
  have z3 := b3.size
  have hb3 := hb2.trans (b3.mono hb2.size)
  have r1 := r1.below (b3.mono (by omega))
  have r2 := r2.below (b3.mono (by omega))
  have r3 := Rd.of_own own3
  clear own3 b3
  go_wp2_with fail
  refine (wireInt_any units (by omega) (by omega) _).mono ?_
  rintro e w4 ⟨A4, c4, rfl, own4, b4⟩
  have z4 := b4.size
  have hb4 := hb3.trans (b4.mono hb3.size)
  have r1 := r1.below (b4.mono (by omega))
  have r2 := r2.below (b4.mono (by omega))
  have r3 := r3.below (b4.mono (by omega))
  have r4 := Rd.of_own own4
  clear own4 b4
  have HC4 := Lib.hid (cat4 (c1 := c1) (c2 := c2) (c3 := c3) (c4 := c4) rfl rfl rfl rfl r1 r2 r3 r4 (by omega) (by omega) (by omega) (by omega) (by omega))
  have HB4 := Lib.hid hb4
  clear r1 r2 r3 r4 hb1 hb2 hb3 hb4 z1 z2 z3 z4
  go_wp2_with fail
  refine HC4.out.mono ?_
  rintro e w5 ⟨A5, N5, c5, rfl, r5, b5⟩
  have hcc := HCV.out w5 A5 _ c5 _ _ r5
  have HB5 := Lib.hid (HB4.out.trans (b5.mono HB4.out.size))
  clear r5 b5
  go_wp2_with fail
  go_ret
  exact ⟨rfl, HB5.out⟩
end
end Go.Proofs.YtkjomnakolhdcaaDoor
