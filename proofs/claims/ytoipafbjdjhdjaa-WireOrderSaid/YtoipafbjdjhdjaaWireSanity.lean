/- The walk of the sanity example of the statements about layer 1: it returns true. -/
import Derived.Test.YtoipafbjdjhdjaaWireDig3
namespace Go.Proofs.Ytoipafbjdjhdjaa
set_option linter.unusedVariables false
set_option linter.unusedSimpArgs false
open Go.RowKit

theorem Rd.lit (w : World) (l : List UInt8) (cs : Array Value) (h : cs = (bvs l).toArray) (n : Nat) (hn : l.length = n) (e : TypeId) (g : Nat) (hg : g = w.heap.size) : Rd (w.alloc (.cells cs e)) (g + 1) 1 (some ⟨g, 0, none⟩) n (bvs l) := by
  subst h hg; exact Rd.new w _ e n (by simp [hn])
theorem Rd.litI (w : World) (l : List Int) (cs : Array Value) (h : cs = (ivs l).toArray) (n : Nat) (hn : l.length = n) (e : TypeId) (g : Nat) (hg : g = w.heap.size) : Rd (w.alloc (.cells cs e)) (g + 1) 1 (some ⟨g, 0, none⟩) n (ivs l) := by
  subst h hg; exact Rd.new w _ e n (by simp [hn])
theorem wireGetBytes_len (A : Option Addr) (c n0 : Nat) (b : List UInt8) (w : World) (B : Nat) (hn0 : b.length = n0) (hr : Rd w B 1 A n0 (bvs b)) (hL : n0 ≤ 1099511627776) (hc : n0 ≤ c) (hcm : c ≤ maxLen)
    (l : List UInt8) (v : Nat) (er : Int) (hd : Wire.decB b = (l, v, er)) :
    Calls Try.prog 23 #[.slice A n0 c] w fun e w' => e = .returned (.tuple #[.string ⟨l.toArray⟩, .int .i64 v, .int .i64 er]) ∧ w = w' := by
  subst hn0; exact wireGetBytes_any A c b w B hr hL hc hcm l v er hd
theorem wireGetInts_len (A : Option Addr) (c n0 : Nat) (b : List UInt8) (w : World) (B : Nat) (hB : B ≤ w.heap.size) (hn0 : b.length = n0) (hr : Rd w B 1 A n0 (bvs b)) (hL : n0 ≤ 1099511627776) (hc : n0 ≤ c) (hcm : c ≤ maxLen)
    (l : List Int) (v : Nat) (er : Int) (hd : Wire.decI b = (l, v, er)) (k : Nat) (hk : l.length = k) :
    Calls Try.prog 25 #[.slice A n0 c] w fun e w' => ∃ A' c', e = .returned (.tuple #[.slice A' k c', .int .i64 v, .int .i64 er]) ∧
      w'.ownsRow w.heap.size 3 1 (.slice A' k c') k (ivs l) ∧ Below w.heap.size w w' := by
  subst hn0 hk; exact wireGetInts_any A c b w (hr.more hB) hL hc hcm l v er hd
theorem wireGetDigests_len (A : Option Addr) (c n0 : Nat) (b : List UInt8) (w : World) (B : Nat) (hB : B ≤ w.heap.size) (hn0 : b.length = n0) (hr : Rd w B 1 A n0 (bvs b)) (hL : n0 ≤ 1099511627776) (hc : n0 ≤ c) (hcm : c ≤ maxLen)
    (l : List (List UInt8)) (v : Nat) (er : Int) (hd : Wire.decD b = (l, v, er)) (k : Nat) (hk : l.length = k) :
    Calls Try.prog 28 #[.slice A n0 c] w fun e w' => ∃ A' c', e = .returned (.tuple #[.slice A' k c', .int .i64 v, .int .i64 er]) ∧
      w'.ownsRow w.heap.size 51 16 (.slice A' k c') k (dvs l) ∧ Below w.heap.size w w' := by
  subst hn0 hk; exact wireGetDigests_any A c b w (hr.more hB) hL hc hcm l v er hd
theorem wireInt_len (n : Int) (h1 : -9223372036854775808 ≤ n) (h2 : n ≤ 9223372036854775807) (E : List UInt8) (hE : Wire.enc n = E) (k : Nat) (hk : E.length = k) (w : World) :
    Calls Try.prog 13 #[.int .i64 n] w fun e w' => ∃ A c, e = .returned (.slice A k c) ∧ w'.ownsRow w.heap.size 5 1 (.slice A k c) k (bvs E) ∧ Below w.heap.size w w' := by
  subst hE hk; exact wireInt_any n h1 h2 w
theorem wireBytes_len (s : ByteArray) (hs : s.size ≤ 1099511627776) (E : List UInt8) (hE : Wire.encB s.data.toList = E) (k : Nat) (hk : E.length = k) (w : World) :
    Calls Try.prog 15 #[.string s] w fun e w' => ∃ A c, e = .returned (.slice A k c) ∧ w'.ownsRow w.heap.size 5 1 (.slice A k c) k (bvs E) ∧ Below w.heap.size w w' := by
  subst hE hk; exact wireBytes_any s hs w
theorem wireInts_len (A : Option Addr) (c n0 : Nat) (l : List Int) (w : World) (B : Nat) (hB : B ≤ w.heap.size) (hn0 : l.length = n0) (hl : n0 ≤ 1099511627776) (hr : I64s l) (ha : Rd w B 1 A n0 (ivs l)) (E : List UInt8) (hE : Wire.encI l = E) (k : Nat) (hk : E.length = k) :
    Calls Try.prog 17 #[.slice A n0 c] w fun e w' => ∃ A c, e = .returned (.slice A k c) ∧ w'.ownsRow w.heap.size 5 1 (.slice A k c) k (bvs E) ∧ Below w.heap.size w w' := by
  subst hn0 hE hk; exact wireInts_any A c l hl hr w (ha.more hB)
theorem wireDigests_len (A : Option Addr) (c n0 : Nat) (l : List (List UInt8)) (w : World) (B : Nat) (hB : B ≤ w.heap.size) (hn0 : l.length = n0) (hl : n0 ≤ 1099511627776) (hr : D16 l) (ha : Rd w B 16 A n0 (dvs l)) (E : List UInt8) (hE : Wire.encD l = E) (k : Nat) (hk : E.length = k) :
    Calls Try.prog 19 #[.slice A n0 c] w fun e w' => ∃ A c, e = .returned (.slice A k c) ∧ w'.ownsRow w.heap.size 5 1 (.slice A k c) k (bvs E) ∧ Below w.heap.size w w' := by
  subst hn0 hE hk; exact wireDigests_any A c l hl hr w (ha.more hB)
theorem Rd.litD (w : World) (l : List (List UInt8)) (cs : Array Value) (h : cs = (dvs l).toArray) (n : Nat) (hn : (dvs l).length = n * 16) (e : TypeId) (g : Nat) (hg : g = w.heap.size) : Rd (w.alloc (.cells cs e)) (g + 1) 16 (some ⟨g, 0, none⟩) n (dvs l) := by
  subst h hg; exact Rd.new w _ e n hn
theorem own_maxLen {w : World} {base n c size : Nat} {e : TypeId} {A : Option Addr} {xs : List Value} (h : w.ownsRow base e size (.slice A n c) n xs) : c ≤ maxLen := (own_cap h).2
theorem own_le {w : World} {base n c size : Nat} {e : TypeId} {A : Option Addr} {xs : List Value} (h : w.ownsRow base e size (.slice A n c) n xs) : n ≤ c := (own_cap h).1
def dEx : List UInt8 := [1, 2, 0, 0, 0, 0, 0, 0, 0, 0, 0, 0, 0, 0, 0, 0]
theorem dEx_cells : [Value.int .u8 1, .int .u8 2, .int .u8 0, .int .u8 0, .int .u8 0, .int .u8 0, .int .u8 0, .int .u8 0, .int .u8 0, .int .u8 0, .int .u8 0, .int .u8 0, .int .u8 0, .int .u8 0, .int .u8 0, .int .u8 0] = dvs [dEx] := rfl
theorem dEx_16 : D16 [dEx] := by intro d hd; simp at hd; subst hd; rfl

theorem g1 : Wire.dec [130, 1, 0, 9] = (256, 3, 0) := by decide +kernel
theorem g2 : Wire.dec [130, 1] = (0, 0, 5) := by decide +kernel
theorem g3 : Wire.dec [129, 0] = (0, 0, 6) := by decide +kernel
theorem g4 : Wire.decB [129, 2, 97, 98, 7] = ([97, 98], 4, 0) := by decide +kernel
theorem g5 : Wire.decI [129, 2, 129, 1, 127] = ([1, -1], 5, 0) := by decide +kernel
theorem g6 : Wire.decD (Wire.encD [dEx]) = ([dEx], 18, 0) := by decide +kernel
theorem g8 : Wire.encB [97, 98] = [129, 2, 97, 98] := by decide +kernel
theorem g9 : Wire.encI [1, -1] = [129, 2, 129, 1, 127] := by decide +kernel
theorem i64_ex : I64s [1, -1] := by intro x hx; simp at hx; omega
theorem g7 : Wire.enc (-257) = [125, 254, 255] := by decide +kernel
set_option maxRecDepth 100000 in
set_option maxHeartbeats 1600000 in
theorem sanity_any (w : World) : Calls Try.prog 11 #[] w fun e w' => e = .returned (.bool true) ∧ Below w.heap.size w w' := by
  go_enter Try.func11, Try.ntmps11
  go_wp2_with fail
  refine (wireGetInt_len _ 4 4 [130, 1, 0, 9] _ _ rfl (Rd.lit _ [130, 1, 0, 9] _ (by rfl) 4 rfl _ _ (by simp)) (by omega) (by omega) (by decide) 256 3 0 g1).mono ?_
  rintro e w1 ⟨rfl, rfl⟩
  go_wp2_with fail
  refine (wireGetInt_len _ 2 2 [130, 1] _ _ rfl (Rd.lit _ [130, 1] _ (by rfl) 2 rfl _ _ (by simp)) (by omega) (by omega) (by decide) 0 0 5 g2).mono ?_
  rintro e w1 ⟨rfl, rfl⟩
  go_wp2_with fail
  refine (wireGetInt_len _ 2 2 [129, 0] _ _ rfl (Rd.lit _ [129, 0] _ (by rfl) 2 rfl _ _ (by simp)) (by omega) (by omega) (by decide) 0 0 6 g3).mono ?_
  rintro e w1 ⟨rfl, rfl⟩
  go_wp2_with fail
  refine (wireGetBytes_len _ 5 5 [129, 2, 97, 98, 7] _ _ rfl (Rd.lit _ [129, 2, 97, 98, 7] _ (by rfl) 5 rfl _ _ (by simp)) (by omega) (by omega) (by decide) [97, 98] 4 0 g4).mono ?_
  rintro e w1 ⟨rfl, rfl⟩
  go_wp2_with fail
  refine (wireGetInts_len _ 5 5 [129, 2, 129, 1, 127] _ _ (by simp) rfl (Rd.lit _ [129, 2, 129, 1, 127] _ (by rfl) 5 rfl _ _ (by simp)) (by omega) (by omega) (by decide) [1, -1] 5 0 g5 2 rfl).mono ?_
  rintro e w5 ⟨A5, c5, rfl, own5, hb5⟩
  have hB5 : Below w.heap.size w w5 := (((((((Below.refl _ _).alloc (by simp) _).alloc (by simp <;> omega) _).alloc (by simp <;> omega) _).alloc (by simp <;> omega) _).alloc (by simp <;> omega) _)).trans (hb5.mono (by simp; omega))
  have rd5 := Rd.of_own own5
  clear own5 hb5
  have hs5 := hB5.size
  go_wp2_with fail
  refine (wireDigests_len _ 1 1 [dEx] _ _ (by simp) rfl (by omega) dEx_16 (Rd.litD _ [dEx] _ (by rfl) 1 rfl _ _ (by simp)) (Wire.encD [dEx]) rfl 18 (by decide)).mono ?_
  rintro e w6 ⟨A6, c6, rfl, own6, hb6⟩
  have hB6 : Below w5.heap.size w5 w6 := (((Below.refl _ _).alloc (by simp) _).alloc (by simp) _).trans (hb6.mono (by simp; omega))
  have rd6 := Rd.of_own own6
  have c6a := own_le own6
  have c6b := own_maxLen own6
  have hblk6 : w6.heap[w5.heap.size]? = some (.cells #[Value.int .u8 1, .int .u8 2, .int .u8 0, .int .u8 0, .int .u8 0, .int .u8 0, .int .u8 0, .int .u8 0, .int .u8 0, .int .u8 0, .int .u8 0, .int .u8 0, .int .u8 0, .int .u8 0, .int .u8 0, .int .u8 0] 51) := (hb6.block _ (by simp <;> omega)).trans (heap_alloc2_old w5 _ _)
  have HBLK6 := Lib.hid hblk6
  have hs56 : w5.heap.size < w6.heap.size := by have := hb6.size; simp at this; omega
  clear own6 hb6 hblk6
  go_wp2_with fail
  refine (wireGetDigests_len _ c6 18 (Wire.encD [dEx]) _ _ (Nat.le_refl _) (by decide) rd6 (by omega) c6a c6b [dEx] 18 0 g6 1 rfl).mono ?_
  rintro e w7 ⟨A7, c7, rfl, own7, hb7⟩
  have rd7 := Rd.of_own own7
  clear own7 rd6
  go_wp2_with fail
  refine (wireInt_len (-257) (by omega) (by omega) [125, 254, 255] g7 3 rfl _).mono ?_
  rintro e w8 ⟨A8, c8, rfl, own8, hb8⟩
  have rd8 := Rd.of_own own8
  clear own8
  have hB8 : Below w6.heap.size w6 w8 := hb7.trans (hb8.mono hb7.size)
  have hs6 := hB6.size
  have hs7 := hb7.size
  have hs8 := hb8.size
  go_wp2_with fail
  refine (same_len _ _ c8 3 3 3 [125, 254, 255] [125, 254, 255] _ rfl rfl (by decide) _ _ (rd8.alloc (Nat.le_refl _) _) (Rd.lit _ [125, 254, 255] _ (by rfl) 3 rfl _ _ (by simp)) true (by decide)).mono ?_
  rintro e w9 ⟨rfl, n9, hw9⟩
  have hB9 : Below w8.heap.size w8 w9 := by rw [hw9]; exact below_drewN ((Below.refl _ _).alloc (Nat.le_refl _) _) _
  clear hw9 rd8
  have hB59 : Below w5.heap.size w5 w9 := hB6.trans ((hB8.mono hs6).trans (hB9.mono (by omega)))
  have hs9 := hB9.size
  have rd5' := rd5.below hB59
  have hB69 : Below w6.heap.size w6 w9 := hB8.trans (hB9.mono (by omega))
  have rd7' : Rd w9 w7.heap.size 16 A7 1 (dvs [dEx]) := rd7.below (hb8.trans (hB9.mono (by omega)))
  have HBLK9 := Lib.hid ((hB69.block _ hs56).trans HBLK6.out)
  have hB19 : Below w.heap.size w w9 := hB5.trans (hB59.mono hs5)
  clear hB6 hB8 hb7 hb8 hB9 rd5 rd7 hB69
  go_wp2_with fail
  refine (sameInts_len _ _ c5 2 2 2 [1, -1] [1, -1] _ rfl rfl (by decide) _ _ (rd5'.alloc (by omega) _) (Rd.litI _ [1, -1] _ (by rfl) 2 rfl _ _ (by simp)) true (by decide)).mono ?_
  rintro e w10 ⟨rfl, n10, hw10⟩
  have hB10 : Below w9.heap.size w9 w10 := by rw [hw10]; exact below_drewN ((Below.refl _ _).alloc (Nat.le_refl _) _) _
  clear hw10 rd5'
  go_wp2_with fail
  refine (wireBytes_len ⟨#[97, 98]⟩ (by decide) [129, 2, 97, 98] g8 4 rfl _).mono ?_
  rintro e w11 ⟨A11, c11, rfl, own11, hb11⟩
  have rd11 := Rd.of_own own11
  clear own11
  go_wp2_with fail
  refine (same_len _ _ c11 4 4 4 [129, 2, 97, 98] [129, 2, 97, 98] _ rfl rfl (by decide) _ _ (rd11.alloc (Nat.le_refl _) _) (Rd.lit _ [129, 2, 97, 98] _ (by rfl) 4 rfl _ _ (by simp)) true (by decide)).mono ?_
  rintro e w12 ⟨rfl, n12, hw12⟩
  have hB12 : Below w11.heap.size w11 w12 := by rw [hw12]; exact below_drewN ((Below.refl _ _).alloc (Nat.le_refl _) _) _
  clear hw12 rd11
  go_wp2_with fail
  refine (wireInts_len _ 2 2 [1, -1] _ _ (by simp) rfl (by omega) i64_ex (Rd.litI _ [1, -1] _ (by rfl) 2 rfl _ _ (by simp)) [129, 2, 129, 1, 127] g9 5 rfl).mono ?_
  rintro e w13 ⟨A13, c13, rfl, own13, hb13⟩
  have rd13 := Rd.of_own own13
  have hB13 : Below w12.heap.size w12 w13 := ((Below.refl _ _).alloc (Nat.le_refl _) _).trans (hb13.mono (by simp))
  clear own13 hb13
  go_wp2_with fail
  refine (same_len _ _ c13 5 5 5 [129, 2, 129, 1, 127] [129, 2, 129, 1, 127] _ rfl rfl (by decide) _ _ (rd13.alloc (Nat.le_refl _) _) (Rd.lit _ [129, 2, 129, 1, 127] _ (by rfl) 5 rfl _ _ (by simp)) true (by decide)).mono ?_
  rintro e w14 ⟨rfl, n14, hw14⟩
  have hB14 : Below w13.heap.size w13 w14 := by rw [hw14]; exact below_drewN ((Below.refl _ _).alloc (Nat.le_refl _) _) _
  clear hw14 rd13
  have hs10 := hB10.size
  have hs11 := hb11.size
  have hs12 := hB12.size
  have hs13 := hB13.size
  have hs14 := hB14.size
  have hB914 : Below w9.heap.size w9 w14 := hB10.trans ((hb11.mono hs10).trans ((hB12.mono (by omega)).trans ((hB13.mono (by omega)).trans (hB14.mono (by omega)))))
  clear hB10 hb11 hB12 hB13 hB14
  have rd7'' := rd7'.below (hB914.mono (by omega))
  have hbk14 := (hB914.block w5.heap.size (by omega)).trans HBLK9.out
  have hc14 := fun j => cell_of_row w14 w5.heap.size j _ _ _ hbk14
  clear hbk14
  go_wp2_with fail
  refine (sameDigests_len _ _ c7 1 1 1 [dEx] [dEx] _ rfl rfl (by omega) _ _ dEx_16 dEx_16 (rd7''.alloc (by omega) _) (Rd.litD _ [dEx] _ (by rfl) 1 rfl _ _ (by simp)) true (by decide)).mono ?_
  rintro e w15 ⟨rfl, n15, hw15⟩
  have hB15 : Below w14.heap.size w14 w15 := by rw [hw15]; exact below_drewN ((Below.refl _ _).alloc (Nat.le_refl _) _) _
  clear hw15
  go_wp2
  go_ret
  exact ⟨rfl, hB19.trans ((hB914.mono (by omega)).trans (hB15.mono (by omega)))⟩
end Go.Proofs.Ytoipafbjdjhdjaa
