/- Walks of layer 1's decoders of lengths and byte strings, the program's and the reference's. Conditions: the slice reads as a list of at most 2^40 bytes. -/
import Derived.Test.YtkjomnakolhdcaaDoorRefGetInt
import Derived.Test.YtkjomnakolhdcaaDoorWireDecPlain
namespace Go.Proofs.YtkjomnakolhdcaaDoor
set_option linter.unusedVariables false
set_option linter.unusedSimpArgs false
open Go.RowKit

theorem refGetInt_any (A : Option Addr) (c : Nat) (b : List UInt8) (w : World) (B : Nat) (hB : B ≤ w.heap.size) (hr : Rd w B 1 A b.length (bvs b)) (hL : b.length ≤ 1099511627776) (hc : b.length ≤ c) (hcm : c ≤ maxLen)
    (n : Int) (u : Nat) (er : Int) (hd : Wire.dec b = (n, u, er)) :
    Calls Tryd.prog 86 #[.slice A b.length c] w fun e w' => e = .returned (.tuple #[.int .i64 n, .int .i64 u, .int .i64 er]) ∧ Below w.heap.size w w' := by
  cases b with
  | nil =>
    simp only [Wire.dec, Prod.mk.injEq] at hd
    obtain ⟨rfl, rfl, rfl⟩ := hd
    go_enter Tryd.func86, Tryd.ntmps86
    go_wp2
    go_ret3
    exact ⟨rfl, Below.refl _ _⟩
  | cons x t =>
    obtain ⟨bb, off, rfl, hbb, h0, ht⟩ := hr.get0
    have hl : (x :: t).length = t.length + 1 := rfl
    rw [hl] at hL hc ⊢
    have key : Calls Tryd.prog 86 #[.slice (some ⟨bb, off, none⟩) (t.length + 1) c] w fun e w' =>
        e = .returned (.tuple #[.int .i64 (Wire.dec (x :: t)).1, .int .i64 ((Wire.dec (x :: t)).2.1 : Nat), .int .i64 (Wire.dec (x :: t)).2.2]) ∧ Below w.heap.size w w' := by
      cases hneg : decide (x < 128)
      · exact refGetInt_false bb off c x t w (by omega) hc hcm (by omega) h0 ht hneg
      · exact refGetInt_true bb off c x t w (by omega) hc hcm (by omega) h0 ht hneg
    rw [hd] at key
    exact key

/-- the test of a count, as the program makes it -/
theorem quo_test {L u k size : Nat} (hs : 1 ≤ size) (hu : u ≤ L) : (((L : Int) - u) / (size : Int) < (k : Int)) ↔ L - u < k * size := by
  have e : ((L : Int) - u) = ((L - u : Nat) : Int) := by omega
  rw [e, ← Int.natCast_ediv, Int.ofNat_lt, Nat.div_lt_iff_lt_mul (by omega)]

set_option maxHeartbeats 800000 in
theorem wireCount_any (A : Option Addr) (c : Nat) (b : List UInt8) (w : World) (B : Nat) (hr : Rd w B 1 A b.length (bvs b)) (hL : b.length ≤ 1099511627776) (hc : b.length ≤ c) (hcm : c ≤ maxLen)
    (size : Nat) (hs : 1 ≤ size) (hs2 : size ≤ 64) (k u : Nat) (er : Int) (hd : Wire.cnt size b = (k, u, er)) :
    Calls Tryd.prog 91 #[.slice A b.length c, .int .i64 size] w fun e w' => (∃ x y, e = .returned (.tuple #[.int .i64 x, .int .i64 y, .int .i64 er]) ∧ (er = 0 → x = k ∧ y = u)) ∧ w = w' := by
  obtain ⟨n, u0, e0, hd0⟩ : ∃ n u e, Wire.dec b = (n, u, e) := ⟨_, _, _, rfl⟩
  have HD := Lib.hid hd0
  have hcnt : (k, u, er) = if e0 ≠ 0 then (0, 0, e0) else if n < 0 then (0, 0, 6) else if b.length - u0 < n.toNat * size then (0, 0, 5) else (n.toNat, u0, 0) := by
    rw [← hd, Wire.cnt, hd0]
  have HC := Lib.hid hcnt
  clear hcnt hd
  have hb : -9223372036854775808 ≤ n ∧ n ≤ 9223372036854775807 ∧ u0 ≤ 9 ∧ u0 ≤ b.length := by
    rcases Wire.dec_err hd0 with rfl | ⟨_, rfl, rfl⟩
    · have := Wire.dec_ok hd0; omega
    · omega
  obtain ⟨hn1, hn2, hu9, hul⟩ := hb
  rcases Wire.dec_err hd0 with rfl | ⟨he, rfl, rfl⟩
  · clear hd0
    by_cases hneg : n < 0
    · go_enter Tryd.func91, Tryd.ntmps91
      go_wp2_with (go_at_call 80; refine (wireGetInt_any A c b _ B hr hL hc hcm n u0 0 HD.out).mono ?_; rintro e w1 ⟨rfl, rfl⟩)
      go_ret3
      have := HC.out
      rw [if_neg (by simp), if_pos hneg] at this
      simp only [Prod.mk.injEq] at this
      obtain ⟨rfl, rfl, rfl⟩ := this
      exact ⟨⟨_, _, rfl, by simp⟩, rfl⟩
    · obtain ⟨N, rfl⟩ := Int.eq_ofNat_of_zero_le (by omega : 0 ≤ n)
      by_cases hq : ((b.length : Int) - u0) / (size : Int) < (N : Int)
      · have HQ := Lib.hid ((quo_test hs hul).1 hq)
        go_enter Tryd.func91, Tryd.ntmps91
        go_wp2_with (go_at_call 80; refine (wireGetInt_any A c b _ B hr hL hc hcm N u0 0 HD.out).mono ?_; rintro e w1 ⟨rfl, rfl⟩)
        go_ret3
        have := HC.out
        rw [if_neg (by simp), if_neg (by omega), if_pos (by simpa using HQ.out)] at this
        simp only [Prod.mk.injEq] at this
        obtain ⟨rfl, rfl, rfl⟩ := this
        exact ⟨⟨_, _, rfl, by simp⟩, rfl⟩
      · have HQ := Lib.hid (fun h => hq ((quo_test hs hul).2 h))
        go_enter Tryd.func91, Tryd.ntmps91
        go_wp2_with (go_at_call 80; refine (wireGetInt_any A c b _ B hr hL hc hcm N u0 0 HD.out).mono ?_; rintro e w1 ⟨rfl, rfl⟩)
        go_ret3
        have := HC.out
        rw [if_neg (by simp), if_neg (by omega), if_neg (by simpa using HQ.out)] at this
        simp only [Prod.mk.injEq, Int.toNat_natCast] at this
        obtain ⟨rfl, rfl, rfl⟩ := this
        exact ⟨⟨_, _, rfl, fun _ => ⟨rfl, rfl⟩⟩, rfl⟩
  · have he0 : (e0 != 0) = true := by rw [bne_iff_ne]; omega
    have he1 : (e0 == 0) = false := by rw [beq_eq_false_iff_ne]; omega
    clear hd0
    go_enter Tryd.func91, Tryd.ntmps91
    go_wp2_with (go_at_call 80; refine (wireGetInt_any A c b _ B hr hL hc hcm 0 0 e0 HD.out).mono ?_; rintro e w1 ⟨rfl, rfl⟩)
    go_ret3
    have := HC.out
    rw [if_pos (by omega)] at this
    simp only [Prod.mk.injEq] at this
    obtain ⟨rfl, rfl, rfl⟩ := this
    exact ⟨⟨_, _, rfl, fun h => by omega⟩, rfl⟩
set_option maxHeartbeats 800000 in
theorem refCount_any (A : Option Addr) (c : Nat) (b : List UInt8) (w : World) (B : Nat) (hB : B ≤ w.heap.size) (hr : Rd w B 1 A b.length (bvs b)) (hL : b.length ≤ 1099511627776) (hc : b.length ≤ c) (hcm : c ≤ maxLen)
    (size : Nat) (hs : 1 ≤ size) (hs2 : size ≤ 64) (k u : Nat) (er : Int) (hd : Wire.cnt size b = (k, u, er)) :
    Calls Tryd.prog 93 #[.slice A b.length c, .int .i64 size] w fun e w' => e = .returned (.tuple #[.int .i64 k, .int .i64 u, .int .i64 er]) ∧ Below w.heap.size w w' := by
  obtain ⟨n, u0, e0, hd0⟩ : ∃ n u e, Wire.dec b = (n, u, e) := ⟨_, _, _, rfl⟩
  have HD := Lib.hid hd0
  have hcnt : (k, u, er) = if e0 ≠ 0 then (0, 0, e0) else if n < 0 then (0, 0, 6) else if b.length - u0 < n.toNat * size then (0, 0, 5) else (n.toNat, u0, 0) := by
    rw [← hd, Wire.cnt, hd0]
  have HC := Lib.hid hcnt
  clear hcnt hd
  have hb : -9223372036854775808 ≤ n ∧ n ≤ 9223372036854775807 ∧ u0 ≤ 9 ∧ u0 ≤ b.length := by
    rcases Wire.dec_err hd0 with rfl | ⟨_, rfl, rfl⟩
    · have := Wire.dec_ok hd0; omega
    · omega
  obtain ⟨hn1, hn2, hu9, hul⟩ := hb
  rcases Wire.dec_err hd0 with rfl | ⟨he, rfl, rfl⟩
  · clear hd0
    by_cases hneg : n < 0
    · go_enter Tryd.func93, Tryd.ntmps93
      go_wp2_with (go_at_call 86; refine (refGetInt_any A c b _ B hB hr hL hc hcm n u0 0 HD.out).mono ?_; rintro e w1 ⟨rfl, hb1⟩)
      go_ret3
      have := HC.out
      rw [if_neg (by simp), if_pos hneg] at this
      simp only [Prod.mk.injEq] at this
      obtain ⟨rfl, rfl, rfl⟩ := this
      exact ⟨rfl, hb1⟩
    · obtain ⟨N, rfl⟩ := Int.eq_ofNat_of_zero_le (by omega : 0 ≤ n)
      by_cases hq : b.length - u0 < N * size
      · have HQ := Lib.hid hq
        by_cases hN : b.length < N
        · clear hq
          go_enter Tryd.func93, Tryd.ntmps93
          go_wp2_with (go_at_call 86; refine (refGetInt_any A c b _ B hB hr hL hc hcm N u0 0 HD.out).mono ?_; rintro e w1 ⟨rfl, hb1⟩)
          go_ret3
          have := HC.out
          rw [if_neg (by simp), if_neg (by omega), if_pos (by simpa using HQ.out)] at this
          simp only [Prod.mk.injEq] at this
          obtain ⟨rfl, rfl, rfl⟩ := this
          exact ⟨rfl, hb1⟩
        · have hm : N * size ≤ 1099511627776 * 64 := Nat.mul_le_mul (by omega) hs2
          have hwr : IntKind.i64.wrap ((N : Int) * (size : Int)) = (N : Int) * (size : Int) := IntWalk.i64_in _ (by rw [← Int.natCast_mul]; omega)
          have hq1 : (b.length : Int) - u0 < (N : Int) * (size : Int) := by rw [← Int.natCast_mul]; omega
          clear hm hq
          go_enter Tryd.func93, Tryd.ntmps93
          go_wp2_with (go_at_call 86; refine (refGetInt_any A c b _ B hB hr hL hc hcm N u0 0 HD.out).mono ?_; rintro e w1 ⟨rfl, hb1⟩)
          go_ret3
          have := HC.out
          rw [if_neg (by simp), if_neg (by omega), if_pos (by simpa using HQ.out)] at this
          simp only [Prod.mk.injEq] at this
          obtain ⟨rfl, rfl, rfl⟩ := this
          exact ⟨rfl, hb1⟩
      · have HQ := Lib.hid hq
        have hm0 : N * 1 ≤ N * size := Nat.mul_le_mul_left _ hs
        have hm : N * size ≤ 1099511627776 := by omega
        have hN : N ≤ b.length := by omega
        have hwr : IntKind.i64.wrap ((N : Int) * (size : Int)) = (N : Int) * (size : Int) := IntWalk.i64_in _ (by rw [← Int.natCast_mul]; omega)
        have hq1 : ¬ (b.length : Int) - u0 < (N : Int) * (size : Int) := by rw [← Int.natCast_mul]; omega
        clear hm hq hm0
        go_enter Tryd.func93, Tryd.ntmps93
        go_wp2_with (go_at_call 86; refine (refGetInt_any A c b _ B hB hr hL hc hcm N u0 0 HD.out).mono ?_; rintro e w1 ⟨rfl, hb1⟩)
        go_ret3
        have := HC.out
        rw [if_neg (by simp), if_neg (by omega), if_neg (by simpa using HQ.out)] at this
        simp only [Prod.mk.injEq, Int.toNat_natCast] at this
        obtain ⟨rfl, rfl, rfl⟩ := this
        exact ⟨rfl, hb1⟩
  · have he0 : (e0 != 0) = true := by rw [bne_iff_ne]; omega
    clear hd0
    go_enter Tryd.func93, Tryd.ntmps93
    go_wp2_with (go_at_call 86; refine (refGetInt_any A c b _ B hB hr hL hc hcm 0 0 e0 HD.out).mono ?_; rintro e w1 ⟨rfl, hb1⟩)
    go_ret3
    have := HC.out
    rw [if_pos (by omega)] at this
    simp only [Prod.mk.injEq] at this
    obtain ⟨rfl, rfl, rfl⟩ := this
    exact ⟨rfl, hb1⟩
end Go.Proofs.YtkjomnakolhdcaaDoor
