/- The walk of the statement WireOrder: it returns true. Conditions: none beyond what the arguments are. -/
import Derived.Test.YtoipafbjdjhdjaaWireSanity
import Derived.Test.YtoipafbjdjhdjaaWireOrder
import Derived.Deep.DeepCutAuto
import Derived.Deep.RegionHeld3
namespace Go.Proofs.Ytoipafbjdjhdjaa
set_option linter.unusedVariables false
set_option linter.unusedSimpArgs false
open Go.RowKit

theorem ext_take (l : List UInt8) (k : Nat) : ((⟨l.toArray⟩ : ByteArray).extract 0 k).toList = l.take k := by
  rw [ByteArray.toList_eq]; simp

set_option maxHeartbeats 1600000 in
theorem lawOrder (m : Int) (l1 : -9223372036854775808 ≤ m) (u1 : m ≤ 9223372036854775807) (n : Int) (l2 : -9223372036854775808 ≤ n) (u2 : n ≤ 9223372036854775807) (w : World) :
    Calls Try.prog 5 #[.int .i64 m, .int .i64 n] w fun e w' => e = .returned (.bool true) ∧ Below w.heap.size w w' := by
  have q1 := Wire.enc_length_le m
  have q2 := Wire.enc_length_le n
  have o1 := Wire.enc_order (m := m) (n := n) ⟨l1, u1⟩ ⟨l2, u2⟩
  have o2 := Wire.enc_inj (m := m) (n := n) ⟨l1, u1⟩ ⟨l2, u2⟩
  have o3 := Wire.enc_prefix (m := m) (n := n) ⟨l1, u1⟩ ⟨l2, u2⟩
  obtain ⟨E1, e1⟩ : ∃ E, Wire.enc m = E := ⟨_, rfl⟩
  obtain ⟨E2, e2⟩ : ∃ E, Wire.enc n = E := ⟨_, rfl⟩
  rw [e1] at q1; rw [e2] at q2; rw [e1, e2] at o1 o2 o3
  have H1 := Lib.hid e1; have H2 := Lib.hid e2; have O1 := Lib.hid o1; have O2 := Lib.hid o2; have O3 := Lib.hid o3
  clear e1 e2 o1 o2 o3
  go_enter Try.func5, Try.ntmps5
  go_upto_region 1 with fail
  go_cut [5, 6] (fun a b wx => a = .string ⟨E1.toArray⟩ ∧ b = .string ⟨E2.toArray⟩ ∧ Below w.heap.size w wx)
  case first =>
    go_region_with (first
          | (go_at_call 13; have hrd := rd1; refine (wireInt_len n l2 u2 E2 H2.out _ rfl _).mono ?_; rintro e w2 ⟨A2, c2, rfl, own2, hb2⟩; have rd2 := Rd.of_own own2; clear own2 hrd; have cv2 := run_toS (P := Try.prog) w2 26 9 5 (by kernel_rfl) (by kernel_rfl) (by kernel_rfl) A2 E2.length c2 _ E2 rd2
             have cv1' := run_toS (P := Try.prog) w2 26 9 5 (by kernel_rfl) (by kernel_rfl) (by kernel_rfl) A1 E1.length c1 _ E1 (rd1.below hb2))
          | (go_at_call 13; refine (wireInt_len m l1 u1 E1 H1.out _ rfl _).mono ?_; rintro e w1 ⟨A1, c1, rfl, own1, hb1⟩; have rd1 := Rd.of_own own1; clear own1; have cv1 := run_toS (P := Try.prog) w1 26 9 5 (by kernel_rfl) (by kernel_rfl) (by kernel_rfl) A1 E1.length c1 _ E1 rd1))
    all_goals (go_wp2_with fail; go_meet; exact ⟨rfl, rfl, below_l_drew (hb1.trans (hb2.mono hb1.size))⟩)
  case rest =>
    obtain ⟨rfl, rfl, hb⟩ := hcut
    have hx1 : (decide (m < n) == Op.bytesLess E1 E2) = true := by rw [O1.out]; simp
    have hx2 : ((m == n) == (E1 == E2)) = true := by rw [O2.out]; simp
    by_cases hlt : E2.length < E1.length
    · have hi1 : (E2.length : Int) ≤ E1.length := by omega
      have hi2 : E2.length ≤ E1.length := by omega
      have hx3 : (((⟨E1.toArray⟩ : ByteArray).extract 0 E2.length).toList == ((⟨E2.toArray⟩ : ByteArray).extract 0 E2.length).toList) = (m == n) := by
        rw [ext_take, ext_take, ← O3.out, Nat.min_eq_right hi2]
      have HX3 := Lib.hid hx3
      clear hx3
      go_upto_region 3 with fail
      go_region_held3 (fun _ => True) (trivial) (first | (go_at_call 11; refine (sanity_any _).mono ?_; rintro e w4 ⟨rfl, hb4⟩))
      go_wp2
      go_ret
      exact ⟨ret_bool (by rw [HX3.out]; simp), hb.trans ((below_l_drew hb4).mono hb.size)⟩
    · have hi1 : (E1.length : Int) ≤ E2.length := by omega
      have hi2 : E1.length ≤ E2.length := by omega
      have hx3 : (((⟨E1.toArray⟩ : ByteArray).extract 0 E1.length).toList == ((⟨E2.toArray⟩ : ByteArray).extract 0 E1.length).toList) = (m == n) := by
        rw [ext_take, ext_take, ← O3.out, Nat.min_eq_left hi2]
      have HX3 := Lib.hid hx3
      clear hx3
      go_upto_region 3 with fail
      go_region_held3 (fun _ => True) (trivial) (first | (go_at_call 11; refine (sanity_any _).mono ?_; rintro e w4 ⟨rfl, hb4⟩))
      go_wp2
      go_ret
      exact ⟨ret_bool (by rw [HX3.out]; simp), hb.trans ((below_l_drew hb4).mono hb.size)⟩
end Go.Proofs.Ytoipafbjdjhdjaa
