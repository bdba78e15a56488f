/- The walk of the statement WireListRoundTrip: it returns true. Conditions: none beyond what the arguments are. -/
import Derived.Test.YtoipafbjdjhdjaaWireLawCat
namespace Go.Proofs.Ytoipafbjdjhdjaa
set_option linter.unusedVariables false
set_option linter.unusedSimpArgs false
open Go.RowKit

set_option maxHeartbeats 3200000 in
theorem lawListRoundTrip (s : ByteArray) (hs : s.size ≤ 140737488355328)
    (A : Option Addr) (m c : Nat) (l : List Int) (hl : l.length = m) (hmc : m ≤ c) (hc : c ≤ 140737488355328) (hlr : ∀ x ∈ l, -9223372036854775808 ≤ x ∧ x ≤ 9223372036854775807)
    (A' : Option Addr) (m' c' : Nat) (d : List (List UInt8)) (hd : d.length = m') (hmc' : m' ≤ c') (hc' : c' ≤ 140737488355328) (hdr : ∀ x ∈ d, x.length = 16)
    (At : Option Addr) (mt ct : Nat) (t : List UInt8) (ht : t.length = mt) (hmct : mt ≤ ct) (hct : ct ≤ 140737488355328)
    (w : World) (hr : Rd w w.heap.size 1 A m (ivs l)) (hr' : Rd w w.heap.size 16 A' m' (d.flatMap bvs)) (hrt : Rd w w.heap.size 1 At mt (bvs t)) :
    Calls Try.prog 8 #[.string s, .slice A m c, .slice A' m' c', .slice At mt ct] w fun e w' => e = .returned (.bool true) ∧ Below w.heap.size w w' := by
  have HL := Lib.hid hl; have HLR : Hid (I64s l) := hlr; have HD := Lib.hid hd; have HDR : Hid (D16 d) := hdr; have HT := Lib.hid ht
  clear hl hlr hd hdr ht
  by_cases hbig : 2000 < (s.size : Int) + m + m' + mt
  · go_enter Try.func8, Try.ntmps8
    go_wp2_with (go_at_call 11; refine (sanity_any _).mono ?_; rintro e w1 ⟨rfl, hb1⟩)
    go_ret
    exact ⟨rfl, hb1⟩
  · have q2 := encB_len s.data.toList
    have q2' : s.data.toList.length = s.size := by simp
    have q3 := encI_len l
    have q4 := encD_len HDR.out
    rw [q2'] at q2; rw [HL.out] at q3; rw [HD.out] at q4
    obtain ⟨E1, e1⟩ : ∃ E, Wire.encB s.data.toList = E := ⟨_, rfl⟩
    obtain ⟨E2, e2⟩ : ∃ E, Wire.encI l = E := ⟨_, rfl⟩
    obtain ⟨E3, e3⟩ : ∃ E, Wire.encD d = E := ⟨_, rfl⟩
    have HB : Hid (Wire.decB (E1 ++ t) = (s.data.toList, E1.length, 0)) := by show _ = _; rw [← e1]; exact Wire.decB_enc (by omega) _
    have HI : Hid (Wire.decI (E2 ++ t) = (l, E2.length, 0)) := by show _ = _; rw [← e2]; exact Wire.decI_enc HLR.out (by have := HL.out; omega) _
    have HDD : Hid (Wire.decD (E3 ++ t) = (d, E3.length, 0)) := by show _ = _; rw [← e3]; exact Wire.decD_enc HDR.out (by have := HD.out; omega) _
    rw [e1] at q2; rw [e2] at q3; rw [e3] at q4
    have H1 := Lib.hid e1; have H2 := Lib.hid e2; have H3 := Lib.hid e3
    clear e1 e2 e3 q2'
    have L1 : Hid ((E1 ++ t).length = E1.length + mt) := by show _ = _; rw [List.length_append, HT.out]
    have L2 : Hid ((E2 ++ t).length = E2.length + mt) := by show _ = _; rw [List.length_append, HT.out]
    have L3 : Hid ((E3 ++ t).length = E3.length + mt) := by show _ = _; rw [List.length_append, HT.out]
    go_enter Try.func8, Try.ntmps8
    go_wp2_with fail
    refine (wireBytes_len s (by omega) E1 H1.out _ rfl _).mono ?_
    rintro e w1 ⟨A1, c1, rfl, own1, hb1⟩
    have rd1 := Rd.of_own own1; have cap1 := own_cap own1
    clear own1
    go_wp2_with fail
    refine (wireInts_len A c m l _ _ hb1.size HL.out (by omega) HLR.out (hr.below hb1) E2 H2.out _ rfl).mono ?_
    rintro e w2 ⟨A2, c2, rfl, own2, hx2⟩
    have rd2 := Rd.of_own own2; have cap2 := own_cap own2; have hb2 := hb1.trans (hx2.mono hb1.size); have rd1' := rd1.below hx2; have k2 := hx2.size
    clear own2 rd1
    go_wp2_with fail
    refine (wireDigests_len A' c' m' d _ _ hb2.size HD.out (by omega) HDR.out (hr'.below hb2) E3 H3.out _ rfl).mono ?_
    rintro e w3 ⟨A3, c3, rfl, own3, hx3⟩
    have rd3 := Rd.of_own own3; have cap3 := own_cap own3; have hb3 := hb2.trans (hx3.mono hb2.size); have rd1 := rd1'.below (hx3.mono k2); have rd2' := rd2.below hx3; have k3 := hx3.size
    clear own3 rd1' rd2
    go_wp2_with (
      at_builtin
      refine wpList_appT _ rfl (.tmp 46) (.tmp 47) 26 rfl 5 _ 1 1 bytesE A1 E1.length (bvs E1) At mt ct (bvs t) rfl rfl rd1 (by omega) (hrt.below hb3) (bvs_one _) (by omega) ?_
      intro B1 d1 w4 ra1 hc1 hc1' hx4
      have rb1 := (bvs_append E1 t) ▸ ra1
      have hb4 := hb3.trans (hx4.mono hb3.size); have rd2 := rd2'.below (hx4.mono k3); have rd3' := rd3.below hx4; have k4 := hx4.size
      clear ra1 rd1 rd2' rd3
      )
    refine (wireGetBytes_len B1 d1 (E1.length + mt) (E1 ++ t) _ _ L1.out rb1 (by omega) hc1 hc1' _ _ _ HB.out).mono ?_
    rintro e w5 ⟨he, rfl⟩
    rw [str_back] at he
    subst he
    clear rb1
    go_wp2_with (
      at_builtin
      refine wpList_appT _ rfl (.tmp 59) (.tmp 60) 26 rfl 5 _ 1 1 bytesE A2 E2.length (bvs E2) At mt ct (bvs t) rfl rfl rd2 (by omega) (hrt.below hb4) (bvs_one _) (by omega) ?_
      intro B2 d2 w5 ra2 hc2 hc2' hx5
      have rb2 := (bvs_append E2 t) ▸ ra2
      have hb5 := hb4.trans (hx5.mono hb4.size); have rd3 := rd3'.below (hx5.mono k4); have k5 := hx5.size
      clear ra2 rd2 rd3'
      )
    refine (wireGetInts_len B2 d2 (E2.length + mt) (E2 ++ t) _ _ (Nat.le_refl _) L2.out rb2 (by omega) hc2 hc2' _ _ _ HI.out _ HL.out).mono ?_
    rintro e w6 ⟨A6, c6, rfl, own6, hx6⟩
    have rd6 := Rd.of_own own6; have hb6 := hb5.trans (hx6.mono hb5.size); have rd3' := rd3.below (hx6.mono (by omega)); have k6 := hx6.size
    clear own6 rb2 rd3
    go_wp2_with (
      at_builtin
      refine wpList_appT _ rfl (.tmp 72) (.tmp 73) 26 rfl 5 _ 1 1 bytesE A3 E3.length (bvs E3) At mt ct (bvs t) rfl rfl rd3' (by omega) (hrt.below hb6) (bvs_one _) (by omega) ?_
      intro B3 d3 w7 ra3 hc3 hc3' hx7
      have rb3 := (bvs_append E3 t) ▸ ra3
      have hb7 := hb6.trans (hx7.mono hb6.size); have rd6' := rd6.below hx7; have k7 := hx7.size
      clear ra3 rd3' rd6
      )
    refine (wireGetDigests_len B3 d3 (E3.length + mt) (E3 ++ t) _ _ (Nat.le_refl _) L3.out rb3 (by omega) hc3 hc3' _ _ _ HDD.out _ HD.out).mono ?_
    rintro e w8 ⟨A8, c8, rfl, own8, hx8⟩
    have rd8 := Rd.of_own own8; have hb8 := hb7.trans (hx8.mono hb7.size); have rd6 := rd6'.below (hx8.mono k7); have k8 := hx8.size
    clear own8 rb3 rd6'
    go_wp2_with fail
    refine (sanity_any _).mono ?_
    rintro e w9 ⟨rfl, hx9⟩
    have hb9 := hb8.trans (hx9.mono hb8.size); have rd6' := rd6.below (hx9.mono (Nat.le_trans k7 k8)); have rd8' := rd8.below hx9
    clear rd6 rd8
    go_wp2_with fail
    refine (sameInts_len A6 A c6 c _ _ l l _ HL.out HL.out (by unfold maxLen; omega) _ _ rd6' (hr.below hb9) true (by simp)).mono ?_
    rintro e w10 ⟨rfl, n10, hw10⟩
    have hb10 : Below w.heap.size w w10 := by rw [hw10]; exact below_drewN hb9 _
    have rd10 : Rd w10 w8.heap.size 16 A8 m' (d.flatMap bvs) := by rw [hw10]; exact rd8'.drewN _
    clear hw10 rd8' rd6'
    go_wp2_with fail
    refine (sameDigests_len A8 A' c8 c' _ _ d d _ HD.out HD.out (by omega) _ _ HDR.out HDR.out rd10 (hr'.below hb10) true (by simp)).mono ?_
    rintro e w11 ⟨rfl, n11, hw11⟩
    have hb11 : Below w.heap.size w w11 := by rw [hw11]; exact below_drewN hb10 _
    clear hw11
    go_wp2
    go_ret
    exact ⟨rfl, hb11⟩
end Go.Proofs.Ytoipafbjdjhdjaa
