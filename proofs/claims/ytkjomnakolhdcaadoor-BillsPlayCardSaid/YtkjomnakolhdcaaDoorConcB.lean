/- slices.Concat at bytes. Conditions: at most 1000 slices, together at most 2^40 bytes. -/
import Derived.Test.YtkjomnakolhdcaaDoorGrowB
import Derived.WalkKit
import Derived.WalkSpells
import Derived.WalkLawsBesides
import Derived.Deep.QuietTactic
import Derived.BigQuiet
import Derived.RegionTactic
namespace Go.Proofs.YtkjomnakolhdcaaDoor
set_option linter.unusedVariables false
set_option linter.unusedSimpArgs false
open Go.RowKit
/-- a slice of bytes among others -/
structure BSl where
  A : Option Addr
  n : Nat
  c : Nat
  l : List UInt8
abbrev bsl (y : BSl) : Value := .slice y.A y.n y.c
/-- it reads its bytes -/
def BSlOk (w : World) (B : Nat) (y : BSl) : Prop := y.l.length = y.n ∧ Rd w B 1 y.A y.n (y.l.map fun x => Value.int .u8 (x.toNat : Int))
def catL (L : List BSl) : List UInt8 := L.flatMap fun y => y.l
theorem cat_take {L : List BSl} {k : Nat} (h : k < L.length) : catL (L.take (k + 1)) = catL (L.take k) ++ L[k].l := by
  unfold catL; rw [List.take_succ_eq_append_getElem h, List.flatMap_append]; simp
theorem cat_le (L : List BSl) (k : Nat) : (catL (L.take k)).length ≤ (catL L).length := by
  unfold catL
  have h : L.flatMap (fun y => y.l) = (L.take k).flatMap (fun y => y.l) ++ (L.drop k).flatMap (fun y => y.l) := by rw [← List.flatMap_append, List.take_append_drop]
  rw [h, List.length_append]; omega
theorem byte_one (l : List UInt8) : ∀ u ∈ l.map (fun x => Value.int .u8 (x.toNat : Int)), u.oneCell' = true := by
  intro u hu; simp only [List.mem_map] at hu; obtain ⟨x, _, rfl⟩ := hu; rfl
set_option maxRecDepth 100000 in
set_option maxHeartbeats 1600000 in
theorem concat_any (A : Option Addr) (n c : Nat) (L : List BSl) (hL : L.length = n) (hn : n ≤ 1000) (B : Nat) (w : World) (hr : Rd w B 1 A n (L.map bsl)) (hok : ∀ y ∈ L, BSlOk w B y) (hB : B ≤ w.heap.size) (ht : (catL L).length ≤ 1099511627776) :
    Calls Tryd.prog 57 #[.slice A n c] w fun e w' => ∃ A' c', e = .returned (.slice A' (catL L).length c') ∧ w'.ownsRow w.heap.size 5 1 (.slice A' (catL L).length c') (catL L).length ((catL L).map fun x => Value.int .u8 (x.toNat : Int)) ∧ Below w.heap.size w w' := by
  have HR := Lib.hid hr
  have HOK := Lib.hid hok
  have HL := Lib.hid hL
  have HT := Lib.hid ht
  clear hr hok hL ht
  go_enter Tryd.func57, Tryd.ntmps57
  go_wp2
  go_loop [3, 11] (fun u3 u11 => ∃ k s : Nat, k ≤ n ∧ u3 = .int .i64 s ∧ u11 = .int .i64 k ∧ Hid (s = (catL (L.take k)).length)) (fun _ u11 => n - (intOf u11).toNat)
  case atStart => exact ⟨0, 0, Nat.zero_le _, rfl, rfl, rfl⟩
  case round =>
    obtain ⟨k, s, hk, rfl, rfl, HS⟩ := hrel
    by_cases hlt : k < n
    · have hkl : k < L.length := by rw [HL.out]; exact hlt
      obtain ⟨b, off, rfl, _, h1⟩ := HR.out.get hkl
      have hy := HOK.out L[k] (List.getElem_mem hkl)
      have hc := cat_take hkl
      have hle := cat_le L (k + 1)
      have hll := HT.out
      obtain ⟨y, hyy⟩ : ∃ y, L[k] = y := ⟨_, rfl⟩
      rw [hyy] at h1 hy hc
      obtain ⟨Ay, ny, cy, ly⟩ := y
      obtain ⟨hly, _⟩ := hy
      simp only [] at h1 hly hc
      obtain ⟨s', hs'⟩ : ∃ x, s + ny = x := ⟨_, rfl⟩
      have q1 : (s : Int) + (ny : Int) = (s' : Int) := by omega
      have hs2 : s' = (catL (L.take (k + 1))).length := by rw [hc, List.length_append, ← HS.out]; omega
      have w1 : IntKind.i64.wrap (s' : Int) = (s' : Int) := IntWalk.i64_in _ (by omega)
      have n1 : ¬ ((s' : Int) < 0) := by omega
      have i0 : (0 : Int) ≤ (k : Int) := by omega
      have i1 : (k : Int) < (n : Int) := by omega
      have HS2 := Lib.hid hs2
      clear hc hle hll hyy hly hs' hs2 hkl
      go_wp2_with fail
      go_round
      case rel => exact ⟨k + 1, s', by omega, rfl, by go_num, HS2.out⟩
      case measure => simp [intOf]; omega
    · obtain rfl : k = n := by omega
      have hsl : s = (catL L).length := by rw [HS.out, List.take_of_length_le (by rw [HL.out]; exact Nat.le_refl _)]
      have HG := Lib.hid (growB_any s (by rw [hsl]; exact HT.out) w)
      have HSL := Lib.hid hsl
      clear hsl
      go_wp2_with (go_at_call 83; refine HG.out.mono ?_; rintro e w1 ⟨A1, c1, rfl, own1, b1⟩)
      have HO1 := Lib.hid own1
      have HB1 := Lib.hid b1
      clear own1 b1
      go_loopw [6, 27] (fun u6 u27 wr => ∃ (j m : Nat) (A' : Option Addr) (c' : Nat), j ≤ k ∧ u6 = .slice A' m c' ∧ u27 = .int .i64 j ∧ Hid (m = (catL (L.take j)).length ∧ wr.ownsRow w.heap.size 5 1 (.slice A' m c') m ((catL (L.take j)).map fun x => Value.int .u8 (x.toNat : Int))) ∧ Below w.heap.size w wr) (fun _ u27 _ => k - (intOf u27).toNat)
      case atStart => exact ⟨0, 0, A1, c1, Nat.zero_le _, rfl, rfl, ⟨rfl, HO1.out⟩, HB1.out⟩
      case round =>
        obtain ⟨j, m, A', c', hj, rfl, rfl, HM, hbr⟩ := hrel
        by_cases hlt2 : j < k
        · have hkl : j < L.length := by rw [HL.out]; exact hlt2
          obtain ⟨b, off, rfl, _, h1⟩ := (HR.out.below (hbr.mono hB)).get hkl
          have hy := HOK.out L[j] (List.getElem_mem hkl)
          have hc := cat_take hkl
          have hle := cat_le L (j + 1)
          have hll := HT.out
          obtain ⟨y, hyy⟩ : ∃ y, L[j] = y := ⟨_, rfl⟩
          rw [hyy] at h1 hy hc
          obtain ⟨Ay, ny, cy, ly⟩ := y
          obtain ⟨hly, hry⟩ := hy
          simp only [] at h1 hly hc hry
          have hmn : m + ny ≤ 1099511627776 := by rw [hc, List.length_append, ← HM.out.1] at hle; omega
          have hry' := hry.below (hbr.mono hB)
          have own2 := HM.out.2
          have hsz := hbr.size
          have i0 : (0 : Int) ≤ (j : Int) := by omega
          have i1 : (j : Int) < (k : Int) := by omega
          have HC := Lib.hid hc
          have HLY := Lib.hid hly
          clear hc hle hll hyy hly hkl hry
          go_wp2_with (at_builtin; refine wpList_appR rfl (.tmp 31) (.tmp 32) 58 rfl w.heap.size 5 _ 1 1 byteT A' m c' _ Ay ny cy _ rfl rfl own2 hry' (byte_one _) hbr (by omega) (Nat.le_refl _) hsz ?_; intro A7 c7 w7 own7 hb7)
          go_roundw
          case rel => exact ⟨j + 1, m + ny, A7, c7, by omega, rfl, by go_num, ⟨by rw [HC.out, List.length_append, ← HM.out.1, HLY.out], by rw [HC.out, List.map_append]; exact own7⟩, hb7⟩
          case measure => simp [intOf]; omega
        · obtain rfl : j = k := by omega
          have he : L.take j = L := List.take_of_length_le (by rw [HL.out]; exact Nat.le_refl _)
          have hm := HM.out
          rw [he] at hm
          obtain ⟨rfl, hm2⟩ := hm
          have HM2 := Lib.hid hm2
          have HBR := Lib.hid hbr
          clear hm2 hbr
          go_wp2_with fail
          go_ret
          exact ⟨A', c', rfl, HM2.out, HBR.out⟩
end Go.Proofs.YtkjomnakolhdcaaDoor
