/- Layer 35's encodings of bookings. Conditions: numbers of 64 bits, at most 1000 charges. -/
import Derived.Test.YtkjomnakolhdcaaDoorConcB
import Derived.Test.YtkjomnakolhdcaaDoorWireEnc
namespace Go.Proofs.YtkjomnakolhdcaaDoor
set_option linter.unusedVariables false
set_option linter.unusedSimpArgs false
open Go.RowKit
def encClose (media house : Int) (charges : List Int) : List UInt8 := Wire.enc 1 ++ (Wire.enc media ++ (Wire.enc house ++ Wire.encI charges))
def encCredit (period tenant units : Int) : List UInt8 := Wire.enc 2 ++ (Wire.enc period ++ (Wire.enc tenant ++ Wire.enc units))
theorem encI_len (l : List Int) : (Wire.encI l).length ≤ 9 + 9 * l.length := by
  have h0 := Wire.enc_length_le l.length
  have h : ∀ l : List Int, (l.flatMap Wire.enc).length ≤ 9 * l.length := by
    intro l
    induction l with
    | nil => simp
    | cons a l ih =>
      have := Wire.enc_length_le a
      rw [List.flatMap_cons, List.length_append, List.length_cons]; omega
  have := h l
  show (Wire.enc l.length ++ l.flatMap Wire.enc).length ≤ _
  rw [List.length_append]; omega
/-- four byte slices put together, as a string -/
theorem cat4 {w : World} {A1 A2 A3 A4 : Option Addr} {n1 n2 n3 n4 c1 c2 c3 c4 : Nat} {l1 l2 l3 l4 : List UInt8} {B1 B2 B3 B4 : Nat} (h1 : l1.length = n1) (h2 : l2.length = n2) (h3 : l3.length = n3) (h4 : l4.length = n4)
    (r1 : Rd w B1 1 A1 n1 (bvs l1)) (r2 : Rd w B2 1 A2 n2 (bvs l2)) (r3 : Rd w B3 1 A3 n3 (bvs l3)) (r4 : Rd w B4 1 A4 n4 (bvs l4)) (b1 : B1 ≤ w.heap.size) (b2 : B2 ≤ w.heap.size) (b3 : B3 ≤ w.heap.size) (b4 : B4 ≤ w.heap.size) (ht : n1 + n2 + n3 + n4 ≤ 1099511627776) :
    Calls Tryd.prog 57 #[.slice (some ⟨w.heap.size, 0, none⟩) 4 4] (w.alloc (.cells #[.slice A1 n1 c1, .slice A2 n2 c2, .slice A3 n3 c3, .slice A4 n4 c4] 58)) fun e w' => ∃ A' N c', e = .returned (.slice A' N c') ∧ Rd w' w'.heap.size 1 A' N (bvs (l1 ++ l2 ++ l3 ++ l4)) ∧ Below w.heap.size w w' := by
  have hb : Below w.heap.size w (w.alloc (.cells #[.slice A1 n1 c1, .slice A2 n2 c2, .slice A3 n3 c3, .slice A4 n4 c4] 58)) := (Below.refl _ _).alloc (Nat.le_refl _) _
  have hcat : catL [⟨A1, n1, c1, l1⟩, ⟨A2, n2, c2, l2⟩, ⟨A3, n3, c3, l3⟩, ⟨A4, n4, c4, l4⟩] = l1 ++ l2 ++ l3 ++ l4 := by simp [catL]
  have hz : (w.alloc (.cells #[.slice A1 n1 c1, .slice A2 n2 c2, .slice A3 n3 c3, .slice A4 n4 c4] 58)).heap.size = w.heap.size + 1 := by simp
  have h := concat_any (some ⟨w.heap.size, 0, none⟩) 4 4 [⟨A1, n1, c1, l1⟩, ⟨A2, n2, c2, l2⟩, ⟨A3, n3, c3, l3⟩, ⟨A4, n4, c4, l4⟩] rfl (by decide) (w.heap.size + 1) _ (Rd.new w _ 58 4 (size := 1) rfl) (fun y hy => by
      simp only [List.mem_cons, List.not_mem_nil, or_false] at hy
      rcases hy with rfl | rfl | rfl | rfl
      · exact ⟨h1, (r1.below (hb.mono b1)).more (Nat.le_succ_of_le b1)⟩
      · exact ⟨h2, (r2.below (hb.mono b2)).more (Nat.le_succ_of_le b2)⟩
      · exact ⟨h3, (r3.below (hb.mono b3)).more (Nat.le_succ_of_le b3)⟩
      · exact ⟨h4, (r4.below (hb.mono b4)).more (Nat.le_succ_of_le b4)⟩) (by simp) (by rw [hcat]; simp; omega)
  rw [hcat] at h
  refine h.mono ?_
  rintro e w' ⟨A', c', rfl, own, b'⟩
  exact ⟨A', _, c', rfl, Rd.of_own own, hb.trans (b'.mono hb.size)⟩
set_option maxRecDepth 100000 in
set_option maxHeartbeats 1600000 in
theorem encodeClose_any (media house : Int) (m1 : -9223372036854775808 ≤ media) (m2 : media ≤ 9223372036854775807) (h1 : -9223372036854775808 ≤ house) (h2 : house ≤ 9223372036854775807) (A : Option Addr) (n c : Nat) (l : List Int) (hl : l.length = n) (hn : n ≤ 1000) (hi : I64s l) (B : Nat) (w : World) (rd : Rd w B 1 A n (ivs l)) (hB : B ≤ w.heap.size) :
    Calls Tryd.prog 52 #[.int .i64 media, .int .i64 house, .slice A n c] w fun e w' => e = .returned (.string ⟨(encClose media house l).toArray⟩) ∧ Below w.heap.size w w' := by
  have HI := Lib.hid (fun (W : World) (hW : Below w.heap.size w W) => by have h := wireInts_any A c l (by omega) hi W (by rw [hl]; exact (rd.below (hW.mono hB)).more (Nat.le_trans hB hW.size)); rw [hl] at h; exact h)
  have hle := encI_len l
  have hle1 := Wire.enc_length_le 1
  have hle2 := Wire.enc_length_le media
  have hle3 := Wire.enc_length_le house
  clear rd hi
  have hcv := fun (W : World) (A' : Option Addr) (m cc BB : Nat) (x : List UInt8) (h : Rd W BB 1 A' m (bvs x)) => run_toS W 58 9 5 Tryd.underlying58 Tryd.underlying5 Tryd.underlying9 A' m cc BB x h
  have HCV := Lib.hid hcv
  clear hcv
  go_enter Tryd.func52, Tryd.ntmps52
  go_wp2_with fail
  refine (wireInt_any 1 (by omega) (by omega) _).mono ?_
  rintro e w1 ⟨A1, c1, rfl, own1, b1⟩
  have z1 := b1.size
  have hb1 := b1
  have r1 := Rd.of_own own1
  clear own1 b1
  go_wp2_with fail
  refine (wireInt_any media (by omega) (by omega) _).mono ?_
  rintro e w2 ⟨A2, c2, rfl, own2, b2⟩
  have z2 := b2.size
  have hb2 := hb1.trans (b2.mono hb1.size)
  have r1 := r1.below (b2.mono (by omega))
  have r2 := Rd.of_own own2
  clear own2 b2
  go_wp2_with fail
  refine (wireInt_any house (by omega) (by omega) _).mono ?_
  rintro e w3 ⟨A3, c3, rfl, own3, b3⟩
  have z3 := b3.size
  have hb3 := hb2.trans (b3.mono hb2.size)
  have r1 := r1.below (b3.mono (by omega))
  have r2 := r2.below (b3.mono (by omega))
  have r3 := Rd.of_own own3
  clear own3 b3
  go_wp2_with fail
  refine (HI.out w3 hb3).mono ?_
  rintro e w4 ⟨A4, c4, rfl, own4, b4⟩
  have z4 := b4.size
  have hb4 := hb3.trans (b4.mono hb3.size)
  have r1 := r1.below (b4.mono (by omega))
  have r2 := r2.below (b4.mono (by omega))
  have r3 := r3.below (b4.mono (by omega))
  have r4 := Rd.of_own own4
  clear own4 b4
  have HC4 := Lib.hid (cat4 (c1 := c1) (c2 := c2) (c3 := c3) (c4 := c4) rfl rfl rfl rfl r1 r2 r3 r4 (by omega) (by omega) (by omega) (by omega) (by omega))
  have HB4 := Lib.hid hb4
  clear r1 r2 r3 r4 hb1 hb2 hb3 hb4 z1 z2 z3 z4
  go_wp2_with fail
  refine HC4.out.mono ?_
  rintro e w5 ⟨A5, N5, c5, rfl, r5, b5⟩
  have hcc := HCV.out w5 A5 _ c5 _ _ r5
  have HB5 := Lib.hid (HB4.out.trans (b5.mono HB4.out.size))
  clear r5 b5
  go_wp2_with fail
  go_ret
  exact ⟨rfl, HB5.out⟩
set_option maxRecDepth 100000 in
set_option maxHeartbeats 1600000 in
theorem encodeCredit_any (period tenant units : Int) (m1 : -9223372036854775808 ≤ period) (m2 : period ≤ 9223372036854775807) (h1 : -9223372036854775808 ≤ tenant) (h2 : tenant ≤ 9223372036854775807) (u1 : -9223372036854775808 ≤ units) (u2 : units ≤ 9223372036854775807) (w : World) :
    Calls Tryd.prog 51 #[.int .i64 period, .int .i64 tenant, .int .i64 units] w fun e w' => e = .returned (.string ⟨(encCredit period tenant units).toArray⟩) ∧ Below w.heap.size w w' := by
  have hle1 := Wire.enc_length_le 2
  have hle2 := Wire.enc_length_le period
  have hle3 := Wire.enc_length_le tenant
  have hle := Wire.enc_length_le units
  have hcv := fun (W : World) (A' : Option Addr) (m cc BB : Nat) (x : List UInt8) (h : Rd W BB 1 A' m (bvs x)) => run_toS W 58 9 5 Tryd.underlying58 Tryd.underlying5 Tryd.underlying9 A' m cc BB x h
  have HCV := Lib.hid hcv
  clear hcv
  go_enter Tryd.func51, Tryd.ntmps51
  go_wp2_with fail
  refine (wireInt_any 2 (by omega) (by omega) _).mono ?_
  rintro e w1 ⟨A1, c1, rfl, own1, b1⟩
  have z1 := b1.size
  have hb1 := b1
  have r1 := Rd.of_own own1
  clear own1 b1
  go_wp2_with fail
  refine (wireInt_any period (by omega) (by omega) _).mono ?_
  rintro e w2 ⟨A2, c2, rfl, own2, b2⟩
  have z2 := b2.size
  have hb2 := hb1.trans (b2.mono hb1.size)
  have r1 := r1.below (b2.mono (by omega))
  have r2 := Rd.of_own own2
  clear own2 b2
  go_wp2_with fail
  refine (wireInt_any tenant (by omega) (by omega) _).mono ?_
  rintro e w3 ⟨A3, c3, rfl, own3, b3⟩
  have z3 := b3.size
  have hb3 := hb2.trans (b3.mono hb2.size)
  have r1 := r1.below (b3.mono (by omega))
  have r2 := r2.below (b3.mono (by omega))
  have r3 := Rd.of_own own3
  clear own3 b3
  go_wp2_with fail
  refine (wireInt_any units (by omega) (by omega) _).mono ?_
  rintro e w4 ⟨A4, c4, rfl, own4, b4⟩
  have z4 := b4.size
  have hb4 := hb3.trans (b4.mono hb3.size)
  have r1 := r1.below (b4.mono (by omega))
  have r2 := r2.below (b4.mono (by omega))
  have r3 := r3.below (b4.mono (by omega))
  have r4 := Rd.of_own own4
  clear own4 b4
  have HC4 := Lib.hid (cat4 (c1 := c1) (c2 := c2) (c3 := c3) (c4 := c4) rfl rfl rfl rfl r1 r2 r3 r4 (by omega) (by omega) (by omega) (by omega) (by omega))
  have HB4 := Lib.hid hb4
  clear r1 r2 r3 r4 hb1 hb2 hb3 hb4 z1 z2 z3 z4
  go_wp2_with fail
  refine HC4.out.mono ?_
  rintro e w5 ⟨A5, N5, c5, rfl, r5, b5⟩
  have hcc := HCV.out w5 A5 _ c5 _ _ r5
  have HB5 := Lib.hid (HB4.out.trans (b5.mono HB4.out.size))
  clear r5 b5
  go_wp2_with fail
  go_ret
  exact ⟨rfl, HB5.out⟩
end Go.Proofs.YtkjomnakolhdcaaDoor
