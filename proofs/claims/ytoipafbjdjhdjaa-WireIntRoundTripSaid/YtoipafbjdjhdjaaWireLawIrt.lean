/- The walk of the statement WireIntRoundTrip: it returns true, whatever the integer and the bytes behind its encoding. Conditions: none beyond what an argument is. -/
import Derived.Test.YtoipafbjdjhdjaaWireSanity
import Derived.Test.YtoipafbjdjhdjaaBase2
namespace Go.Proofs.Ytoipafbjdjhdjaa
open Go.RowKit

set_option maxHeartbeats 800000 in
theorem lawIntRoundTrip (n : Int) (h1 : -9223372036854775808 ≤ n) (h2 : n ≤ 9223372036854775807) (A : Option Addr) (m c : Nat) (l : List UInt8) (hl : l.length = m) (hmc : m ≤ c) (hc : c ≤ 140737488355328) (w : World) (hr : Rd w w.heap.size 1 A m (bvs l)) :
    Calls Try.prog 6 #[.int .i64 n, .slice A m c] w fun e w' => e = .returned (.bool true) ∧ Below w.heap.size w w' := by
  have HL := Lib.hid hl
  clear hl
  by_cases hbig : 2000 < m
  · go_enter Try.func6, Try.ntmps6
    go_wp2_with (go_at_call 11; refine (sanity_any _).mono ?_; rintro e w1 ⟨rfl, hb1⟩)
    go_ret
    exact ⟨rfl, hb1⟩
  · have h9 := Wire.enc_length_le n
    obtain ⟨E, hE⟩ : ∃ E, E = Wire.enc n := ⟨_, rfl⟩
    have HE := Lib.hid hE
    have HD : Hid (Wire.dec (E ++ l) = (n, E.length, 0)) := by show _ = _; rw [hE]; exact Wire.dec_enc h1 h2 l
    have h10 : 1 ≤ E.length := by rw [hE, Wire.enc_length]; omega
    rw [← hE] at h9
    clear hE
    go_enter Try.func6, Try.ntmps6
    go_wp2_with (first
      | (go_at_call 13; refine (wireInt_len n h1 h2 E HE.out.symm _ rfl _).mono ?_; rintro e w1 ⟨A1, c1, rfl, own1, hb1⟩; have hcap := own_cap own1; have rd1 := Rd.of_own own1; clear own1)
      | (at_builtin; refine wpList_appT _ rfl (.tmp 21) (.tmp 22) 26 rfl 5 _ 1 1 bytesE A1 E.length (bvs E) A m c (bvs l) rfl rfl rd1 (Nat.le_refl _) (hr.below hb1) (bvs_one _) (by omega) ?_; intro A2 c2 w2 rd2 hc2 hc2' hb2; have rd2' := (bvs_append E l) ▸ rd2; clear rd2)
      | (go_at_call 21; refine (wireGetInt_len A2 c2 (E.length + m) (E ++ l) _ _ (by rw [List.length_append, HL.out]) rd2' (by omega) hc2 hc2' n E.length 0 HD.out).mono ?_; rintro e w3 ⟨rfl, rfl⟩)
      | (go_at_call 11; refine (sanity_any _).mono ?_; rintro e w4 ⟨rfl, hb4⟩))
    go_ret
    exact ⟨ret_bool (decide_eq_true (by omega)), hb1.trans ((hb2.mono hb1.size).trans (hb4.mono (Nat.le_trans hb1.size hb2.size)))⟩
end Go.Proofs.Ytoipafbjdjhdjaa
