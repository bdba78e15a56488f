/- The walk of the statement WireEncodeMatchesSpec: it returns true. Conditions: none beyond what the arguments are. -/
import Derived.Test.YtoipafbjdjhdjaaWireSanity
namespace Go.Proofs.Ytoipafbjdjhdjaa
set_option linter.unusedVariables false
set_option linter.unusedSimpArgs false
open Go.RowKit

theorem refInt_len (n : Int) (h1 : -9223372036854775808 ≤ n) (h2 : n ≤ 9223372036854775807) (E : List UInt8) (hE : Wire.enc n = E) (k : Nat) (hk : E.length = k) (w : World) :
    Calls Try.prog 14 #[.int .i64 n] w fun e w' => ∃ A c, e = .returned (.slice A k c) ∧ w'.ownsRow w.heap.size 5 1 (.slice A k c) k (bvs E) ∧ Below w.heap.size w w' := by
  subst hE hk; exact refInt_any n h1 h2 w
theorem refBytes_len (s : ByteArray) (hs : s.size ≤ 1099511627776) (E : List UInt8) (hE : Wire.encB s.data.toList = E) (k : Nat) (hk : E.length = k) (w : World) :
    Calls Try.prog 16 #[.string s] w fun e w' => ∃ A c, e = .returned (.slice A k c) ∧ w'.ownsRow w.heap.size 5 1 (.slice A k c) k (bvs E) ∧ Below w.heap.size w w' := by
  subst hE hk; exact refBytes_any s hs w
theorem refInts_len (A : Option Addr) (c n0 : Nat) (l : List Int) (w : World) (B : Nat) (hB : B ≤ w.heap.size) (hn0 : l.length = n0) (hl : n0 ≤ 1099511627776) (hr : I64s l) (ha : Rd w B 1 A n0 (ivs l)) (E : List UInt8) (hE : Wire.encI l = E) (k : Nat) (hk : E.length = k) :
    Calls Try.prog 18 #[.slice A n0 c] w fun e w' => ∃ A c, e = .returned (.slice A k c) ∧ w'.ownsRow w.heap.size 5 1 (.slice A k c) k (bvs E) ∧ Below w.heap.size w w' := by
  subst hn0 hE hk; exact refInts_any A c l hl hr w (ha.more hB)
theorem refDigests_len (A : Option Addr) (c n0 : Nat) (l : List (List UInt8)) (w : World) (B : Nat) (hB : B ≤ w.heap.size) (hn0 : l.length = n0) (hl : n0 ≤ 1099511627776) (hr : D16 l) (ha : Rd w B 16 A n0 (dvs l)) (E : List UInt8) (hE : Wire.encD l = E) (k : Nat) (hk : E.length = k) :
    Calls Try.prog 20 #[.slice A n0 c] w fun e w' => ∃ A c, e = .returned (.slice A k c) ∧ w'.ownsRow w.heap.size 5 1 (.slice A k c) k (bvs E) ∧ Below w.heap.size w w' := by
  subst hn0 hE hk; exact refDigests_any A c l hl hr w (ha.more hB)
theorem encB_len (l : List UInt8) : (Wire.encB l).length ≤ 9 + l.length := by have := Wire.enc_length_le l.length; simp only [Wire.encB, List.length_append]; omega
theorem encI_len (l : List Int) : (Wire.encI l).length ≤ 9 + 9 * l.length := by have := Wire.enc_length_le l.length; have := Wire.flat_len l; simp only [Wire.encI, List.length_append]; omega
theorem encD_len {l : List (List UInt8)} (h : D16 l) : (Wire.encD l).length ≤ 9 + 16 * l.length := by
  have h1 := Wire.enc_length_le l.length
  have h2 : l.flatten.length = 16 * l.length := by
    induction l with
    | nil => rfl
    | cons x l ih =>
      have := ih (fun d hd => h d (by simp [hd])) (Wire.enc_length_le _)
      have h3 := h x (by simp)
      simp only [List.flatten_cons, List.length_append, List.length_cons]; omega
  simp only [Wire.encD, List.length_append]; omega

set_option maxHeartbeats 1600000 in
theorem lawEncode (n : Int) (h1 : -9223372036854775808 ≤ n) (h2 : n ≤ 9223372036854775807) (s : ByteArray) (hs : s.size ≤ 140737488355328)
    (A : Option Addr) (m c : Nat) (l : List Int) (hl : l.length = m) (hmc : m ≤ c) (hc : c ≤ 140737488355328) (hlr : ∀ x ∈ l, -9223372036854775808 ≤ x ∧ x ≤ 9223372036854775807)
    (A' : Option Addr) (m' c' : Nat) (d : List (List UInt8)) (hd : d.length = m') (hmc' : m' ≤ c') (hc' : c' ≤ 140737488355328) (hdr : ∀ x ∈ d, x.length = 16)
    (w : World) (hr : Rd w w.heap.size 1 A m (ivs l)) (hr' : Rd w w.heap.size 16 A' m' (d.flatMap bvs)) :
    Calls Try.prog 3 #[.int .i64 n, .string s, .slice A m c, .slice A' m' c'] w fun e w' => e = .returned (.bool true) ∧ Below w.heap.size w w' := by
  have HL := Lib.hid hl; have HD := Lib.hid hd; have HLR : Hid (I64s l) := hlr; have HDR : Hid (D16 d) := hdr
  clear hl hd hlr hdr
  by_cases hbig : 2000 < (s.size : Int) + m + m'
  · go_enter Try.func3, Try.ntmps3
    go_wp2_with (go_at_call 11; refine (sanity_any _).mono ?_; rintro e w1 ⟨rfl, hb1⟩)
    go_ret
    exact ⟨rfl, hb1⟩
  · have q1 := Wire.enc_length_le n
    have q2 := encB_len s.data.toList
    have q2' : s.data.toList.length = s.size := by simp
    have q3 := encI_len l
    have q4 := encD_len HDR.out
    rw [q2'] at q2; rw [HL.out] at q3; rw [HD.out] at q4
    obtain ⟨E1, e1⟩ : ∃ E, Wire.enc n = E := ⟨_, rfl⟩
    obtain ⟨E2, e2⟩ : ∃ E, Wire.encB s.data.toList = E := ⟨_, rfl⟩
    obtain ⟨E3, e3⟩ : ∃ E, Wire.encI l = E := ⟨_, rfl⟩
    obtain ⟨E4, e4⟩ : ∃ E, Wire.encD d = E := ⟨_, rfl⟩
    rw [e1] at q1; rw [e2] at q2; rw [e3] at q3; rw [e4] at q4
    have H1 := Lib.hid e1; have H2 := Lib.hid e2; have H3 := Lib.hid e3; have H4 := Lib.hid e4
    clear e1 e2 e3 e4 q2'
    go_enter Try.func3, Try.ntmps3
    go_wp2_with fail
    refine (sanity_any _).mono ?_
    rintro e w0 ⟨rfl, hb0⟩
    go_wp2_with fail
    refine (wireInt_len n h1 h2 E1 H1.out _ rfl _).mono ?_
    rintro e w1 ⟨A1, c1, rfl, own1, hx1⟩
    have rd1 := Rd.of_own own1
    have hb1 := hb0.trans (hx1.mono hb0.size)
    clear own1
    go_wp2_with fail
    refine (refInt_len n h1 h2 E1 H1.out _ rfl _).mono ?_
    rintro e w2 ⟨A2, c2, rfl, own2, hx2⟩
    have rd2 := Rd.of_own own2
    have hb2 := hb1.trans (hx2.mono hb1.size)
    clear own2
    go_wp2_with fail
    refine (same_len A1 A2 c1 c2 _ _ E1 E1 _ rfl rfl (by unfold maxLen; omega) _ _ (rd1.below hx2) rd2 true (by simp)).mono ?_
    rintro e w2' ⟨rfl, n2, hw2⟩
    have hb2' : Below w.heap.size w w2' := by rw [hw2]; exact below_drewN hb2 _
    clear hw2 hx1 hx2 rd1 rd2 hb1 hb2 hb0
    go_wp2_with fail
    refine (wireBytes_len s (by omega) E2 H2.out _ rfl _).mono ?_
    rintro e w3 ⟨A3, c3, rfl, own3, hx3⟩
    have rd3 := Rd.of_own own3
    have hb3 := hb2'.trans (hx3.mono hb2'.size)
    clear own3
    go_wp2_with fail
    refine (refBytes_len s (by omega) E2 H2.out _ rfl _).mono ?_
    rintro e w4 ⟨A4, c4, rfl, own4, hx4⟩
    have rd4 := Rd.of_own own4
    have hb4 := hb3.trans (hx4.mono hb3.size)
    clear own4
    go_wp2_with fail
    refine (same_len A3 A4 c3 c4 _ _ E2 E2 _ rfl rfl (by unfold maxLen; omega) _ _ (rd3.below hx4) rd4 true (by simp)).mono ?_
    rintro e w4' ⟨rfl, n4, hw4⟩
    have hb4' : Below w.heap.size w w4' := by rw [hw4]; exact below_drewN hb4 _
    clear hw4 hx3 hx4 rd3 rd4 hb3 hb4 hb2'
    go_wp2_with fail
    refine (wireInts_len A c m l _ _ hb4'.size HL.out (by omega) HLR.out (hr.below hb4') E3 H3.out _ rfl).mono ?_
    rintro e w5 ⟨A5, c5, rfl, own5, hx5⟩
    have rd5 := Rd.of_own own5
    have hb5 := hb4'.trans (hx5.mono hb4'.size)
    clear own5
    go_wp2_with fail
    refine (refInts_len A c m l _ _ hb5.size HL.out (by omega) HLR.out (hr.below hb5) E3 H3.out _ rfl).mono ?_
    rintro e w6 ⟨A6, c6, rfl, own6, hx6⟩
    have rd6 := Rd.of_own own6
    have hb6 := hb5.trans (hx6.mono hb5.size)
    clear own6
    go_wp2_with fail
    refine (same_len A5 A6 c5 c6 _ _ E3 E3 _ rfl rfl (by unfold maxLen; omega) _ _ (rd5.below hx6) rd6 true (by simp)).mono ?_
    rintro e w6' ⟨rfl, n6, hw6⟩
    have hb6' : Below w.heap.size w w6' := by rw [hw6]; exact below_drewN hb6 _
    clear hw6 hx5 hx6 rd5 rd6 hb5 hb6 hb4'
    go_wp2_with fail
    refine (wireDigests_len A' c' m' d _ _ hb6'.size HD.out (by omega) HDR.out (hr'.below hb6') E4 H4.out _ rfl).mono ?_
    rintro e w7 ⟨A7, c7, rfl, own7, hx7⟩
    have rd7 := Rd.of_own own7
    have hb7 := hb6'.trans (hx7.mono hb6'.size)
    clear own7
    go_wp2_with fail
    refine (refDigests_len A' c' m' d _ _ hb7.size HD.out (by omega) HDR.out (hr'.below hb7) E4 H4.out _ rfl).mono ?_
    rintro e w8 ⟨A8, c8, rfl, own8, hx8⟩
    have rd8 := Rd.of_own own8
    have hb8 := hb7.trans (hx8.mono hb7.size)
    clear own8
    go_wp2_with fail
    refine (same_len A7 A8 c7 c8 _ _ E4 E4 _ rfl rfl (by unfold maxLen; omega) _ _ (rd7.below hx8) rd8 true (by simp)).mono ?_
    rintro e w8' ⟨rfl, n8, hw8⟩
    have hb8' : Below w.heap.size w w8' := by rw [hw8]; exact below_drewN hb8 _
    clear hw8 hx7 hx8 rd7 rd8 hb7 hb8 hb6'
    go_wp2
    go_ret
    exact ⟨rfl, hb8'⟩
end Go.Proofs.Ytoipafbjdjhdjaa
