/- The walk of the statement WireDecodeMatchesSpec: it returns true. Conditions: none beyond what the argument is. -/
import Derived.Test.YtoipafbjdjhdjaaWireSanity
import Derived.Test.YtoipafbjdjhdjaaWireLaws
namespace Go.Proofs.Ytoipafbjdjhdjaa
set_option linter.unusedVariables false
set_option linter.unusedSimpArgs false
open Go.RowKit

theorem refGetBytes_len (A : Option Addr) (c n0 : Nat) (b : List UInt8) (w : World) (B : Nat) (hB : B ≤ w.heap.size) (hn0 : b.length = n0) (hr : Rd w B 1 A n0 (bvs b)) (hL : n0 ≤ 1099511627776) (hc : n0 ≤ c) (hcm : c ≤ maxLen)
    (l : List UInt8) (v : Nat) (er : Int) (hd : Wire.decB b = (l, v, er)) :
    Calls Try.prog 24 #[.slice A n0 c] w fun e w' => e = .returned (.tuple #[.string ⟨l.toArray⟩, .int .i64 v, .int .i64 er]) ∧ Below w.heap.size w w' := by
  subst hn0; exact refGetBytes_any A c b w B hB hr hL hc hcm l v er hd
theorem refGetInts_len (A : Option Addr) (c n0 : Nat) (b : List UInt8) (w : World) (B : Nat) (hB : B ≤ w.heap.size) (hn0 : b.length = n0) (hr : Rd w B 1 A n0 (bvs b)) (hL : n0 ≤ 1099511627776) (hc : n0 ≤ c) (hcm : c ≤ maxLen)
    (l : List Int) (v : Nat) (er : Int) (hd : Wire.decI b = (l, v, er)) (k : Nat) (hk : l.length = k) :
    Calls Try.prog 26 #[.slice A n0 c] w fun e w' => ∃ A' c', e = .returned (.tuple #[.slice A' k c', .int .i64 v, .int .i64 er]) ∧
      w'.ownsRow w.heap.size 3 1 (.slice A' k c') k (ivs l) ∧ Below w.heap.size w w' := by
  subst hn0 hk; exact refGetInts_any A c b w (hr.more hB) hL hc hcm l v er hd
theorem refGetDigests_len (A : Option Addr) (c n0 : Nat) (b : List UInt8) (w : World) (B : Nat) (hB : B ≤ w.heap.size) (hn0 : b.length = n0) (hr : Rd w B 1 A n0 (bvs b)) (hL : n0 ≤ 1099511627776) (hc : n0 ≤ c) (hcm : c ≤ maxLen)
    (l : List (List UInt8)) (v : Nat) (er : Int) (hd : Wire.decD b = (l, v, er)) (k : Nat) (hk : l.length = k) :
    Calls Try.prog 29 #[.slice A n0 c] w fun e w' => ∃ A' c', e = .returned (.tuple #[.slice A' k c', .int .i64 v, .int .i64 er]) ∧
      w'.ownsRow w.heap.size 51 16 (.slice A' k c') k (dvs l) ∧ Below w.heap.size w w' := by
  subst hn0 hk; exact refGetDigests_any A c b w (hr.more hB) hL hc hcm l v er hd

set_option maxRecDepth 100000 in
set_option maxHeartbeats 3200000 in
theorem lawDecode (A : Option Addr) (m c : Nat) (b : List UInt8) (hl : b.length = m) (hmc : m ≤ c) (hc : c ≤ 140737488355328) (w : World) (hr : Rd w w.heap.size 1 A m (bvs b)) :
    Calls Try.prog 4 #[.slice A m c] w fun e w' => e = .returned (.bool true) ∧ Below w.heap.size w w' := by
  have HL := Lib.hid hl
  clear hl
  by_cases hbig : 2000 < m
  · go_enter Try.func4, Try.ntmps4
    go_wp2_with (go_at_call 11; refine (sanity_any _).mono ?_; rintro e w1 ⟨rfl, hb1⟩)
    go_ret
    exact ⟨rfl, hb1⟩
  · obtain ⟨n1, u1, r1, d1⟩ : ∃ n u e, Wire.dec b = (n, u, e) := ⟨_, _, _, rfl⟩
    obtain ⟨n2, u2, r2, d2⟩ : ∃ n u e, Wire.decB b = (n, u, e) := ⟨_, _, _, rfl⟩
    obtain ⟨n3, u3, r3, d3⟩ : ∃ n u e, Wire.decI b = (n, u, e) := ⟨_, _, _, rfl⟩
    obtain ⟨n4, u4, r4, d4⟩ : ∃ n u e, Wire.decD b = (n, u, e) := ⟨_, _, _, rfl⟩
    have l3 : n3.length ≤ 1099511627776 := by have := Wire.decI_len d3; have := HL.out; omega
    have l4 : n4.length ≤ 1099511627776 := by have := Wire.decD_len d4; have := HL.out; omega
    have D16_4 : Hid (D16 n4) := Wire.decD_16 d4
    have K1 := Lib.hid d1; have K2 := Lib.hid d2; have K3 := Lib.hid d3; have K4 := Lib.hid d4
    clear d1 d2 d3 d4
    go_enter Try.func4, Try.ntmps4
    go_wp2_with fail
    refine (wireGetInt_len A c m b _ _ HL.out hr (by omega) hmc (by unfold maxLen; omega) n1 u1 r1 K1.out).mono ?_
    rintro e w1 ⟨rfl, rfl⟩
    go_wp2_with fail
    refine (refGetInt_len A c m b _ _ (Nat.le_refl _) HL.out hr (by omega) hmc (by unfold maxLen; omega) n1 u1 r1 K1.out).mono ?_
    rintro e w1 ⟨rfl, hb1⟩
    go_wp2_with fail
    refine (wireGetBytes_len A c m b _ _ HL.out (hr.below hb1) (by omega) hmc (by unfold maxLen; omega) n2 u2 r2 K2.out).mono ?_
    rintro e w2 ⟨rfl, rfl⟩
    go_wp2_with fail
    refine (refGetBytes_len A c m b _ _ hb1.size HL.out (hr.below hb1) (by omega) hmc (by unfold maxLen; omega) n2 u2 r2 K2.out).mono ?_
    rintro e w2 ⟨rfl, hx2⟩
    have hb2 := hb1.trans (hx2.mono hb1.size)
    clear hx2 hb1
    go_wp2_with fail
    refine (wireGetInts_len A c m b _ _ hb2.size HL.out (hr.below hb2) (by omega) hmc (by unfold maxLen; omega) n3 u3 r3 K3.out _ rfl).mono ?_
    rintro e w3 ⟨A3, c3, rfl, own3, hx3⟩
    have hb3 := hb2.trans (hx3.mono hb2.size)
    have rd3 := Rd.of_own own3
    clear own3 hx3 hb2
    go_wp2_with fail
    refine (refGetInts_len A c m b _ _ hb3.size HL.out (hr.below hb3) (by omega) hmc (by unfold maxLen; omega) n3 u3 r3 K3.out _ rfl).mono ?_
    rintro e w4 ⟨A4, c4, rfl, own4, hx4⟩
    have hb4 := hb3.trans (hx4.mono hb3.size)
    have rd4 := Rd.of_own own4
    have rd3' := rd3.below hx4
    clear own4 hx4 hb3 rd3
    go_wp2_with fail
    refine (sameInts_len A3 A4 c3 c4 _ _ n3 n3 _ rfl rfl (by unfold maxLen; omega) _ _ rd3' rd4 true (by simp)).mono ?_
    rintro e w5 ⟨rfl, k5, hw5⟩
    have hb5 : Below w.heap.size w w5 := by rw [hw5]; exact below_drewN hb4 _
    clear hw5 rd3' rd4 hb4
    go_wp2_with fail
    refine (wireGetDigests_len A c m b _ _ hb5.size HL.out (hr.below hb5) (by omega) hmc (by unfold maxLen; omega) n4 u4 r4 K4.out _ rfl).mono ?_
    rintro e w6 ⟨A6, c6, rfl, own6, hx6⟩
    have hb6 := hb5.trans (hx6.mono hb5.size)
    have rd6 := Rd.of_own own6
    clear own6 hx6 hb5
    go_wp2_with fail
    refine (refGetDigests_len A c m b _ _ hb6.size HL.out (hr.below hb6) (by omega) hmc (by unfold maxLen; omega) n4 u4 r4 K4.out _ rfl).mono ?_
    rintro e w7 ⟨A7, c7, rfl, own7, hx7⟩
    have hb7 := hb6.trans (hx7.mono hb6.size)
    have rd7 := Rd.of_own own7
    have rd6' := rd6.below hx7
    have hs7 := hx7.size
    clear own7 hx7 hb6 rd6
    go_wp2_with fail
    refine (sanity_any _).mono ?_
    rintro e w8 ⟨rfl, hx8⟩
    have hb8 := hb7.trans (hx8.mono hb7.size)
    have hs8 := hx8.size
    go_wp2_with fail
    refine (sameDigests_len A6 A7 c6 c7 _ _ n4 n4 _ rfl rfl l4 _ _ D16_4.out D16_4.out (rd6'.below (hx8.mono hs7)) (rd7.below hx8) true (by simp)).mono ?_
    rintro e w9 ⟨rfl, k9, hw9⟩
    have hb9 : Below w.heap.size w w9 := by rw [hw9]; exact below_drewN hb8 _
    clear hw9
    go_wp2
    go_ret
    exact ⟨rfl, hb9⟩
end Go.Proofs.Ytoipafbjdjhdjaa
