/- The walk of the statement WireTruncated: it returns true. Conditions: none beyond what the arguments are. -/
import Derived.Test.YtoipafbjdjhdjaaWireLawEnc
import Derived.Test.YtoipafbjdjhdjaaWireLaws
namespace Go.Proofs.Ytoipafbjdjhdjaa
set_option linter.unusedVariables false
set_option linter.unusedSimpArgs false
open Go.RowKit

set_option maxRecDepth 100000 in
set_option maxHeartbeats 6400000 in
theorem lawTruncated (n : Int) (h1 : -9223372036854775808 ≤ n) (h2 : n ≤ 9223372036854775807) (s : ByteArray) (hs : s.size ≤ 140737488355328)
    (A : Option Addr) (m c : Nat) (l : List Int) (hl : l.length = m) (hmc : m ≤ c) (hc : c ≤ 140737488355328) (hlr : ∀ x ∈ l, -9223372036854775808 ≤ x ∧ x ≤ 9223372036854775807)
    (A' : Option Addr) (m' c' : Nat) (d : List (List UInt8)) (hd : d.length = m') (hmc' : m' ≤ c') (hc' : c' ≤ 140737488355328) (hdr : ∀ x ∈ d, x.length = 16)
    (w : World) (hr : Rd w w.heap.size 1 A m (ivs l)) (hr' : Rd w w.heap.size 16 A' m' (d.flatMap bvs)) :
    Calls Try.prog 9 #[.int .i64 n, .string s, .slice A m c, .slice A' m' c'] w fun e w' => e = .returned (.bool true) ∧ Below w.heap.size w w' := by
  have HL := Lib.hid hl; have HD := Lib.hid hd; have HLR : Hid (I64s l) := hlr; have HDR : Hid (D16 d) := hdr
  clear hl hd hlr hdr
  by_cases hbig : 400 < (s.size : Int) + 9 * m + 16 * m'
  · go_enter Try.func9, Try.ntmps9
    go_wp2_with (go_at_call 11; refine (sanity_any _).mono ?_; rintro e w1 ⟨rfl, hb1⟩)
    go_ret
    exact ⟨rfl, hb1⟩
  · have q1 := Wire.enc_length_le n
    have q2 := encB_len s.data.toList
    have q2' : s.data.toList.length = s.size := by simp
    have q3 := encI_len l
    have q4 := encD_len HDR.out
    rw [q2'] at q2; rw [HL.out] at q3; rw [HD.out] at q4
    obtain ⟨E1, e1⟩ : ∃ E, Wire.enc n = E := ⟨_, rfl⟩
    obtain ⟨E2, e2⟩ : ∃ E, Wire.encB s.data.toList = E := ⟨_, rfl⟩
    obtain ⟨E3, e3⟩ : ∃ E, Wire.encI l = E := ⟨_, rfl⟩
    obtain ⟨E4, e4⟩ : ∃ E, Wire.encD d = E := ⟨_, rfl⟩
    obtain ⟨n1, f1⟩ : ∃ k, E1.length = k := ⟨_, rfl⟩
    obtain ⟨n2, f2⟩ : ∃ k, E2.length = k := ⟨_, rfl⟩
    obtain ⟨n3, f3⟩ : ∃ k, E3.length = k := ⟨_, rfl⟩
    obtain ⟨n4, f4⟩ : ∃ k, E4.length = k := ⟨_, rfl⟩
    rw [e1, f1] at q1; rw [e2, f2] at q2; rw [e3, f3] at q3; rw [e4, f4] at q4
    have SH1 : Hid (∀ j, j < n1 → Hid (Wire.dec (E1.take j) = (0, 0, 5))) := by
      intro j hj; rw [← f1] at hj; show _ = _; rw [← e1] at hj ⊢; exact Wire.dec_short h1 h2 hj
    have SH2 : Hid (∀ j, j < n2 → Hid (Wire.decB (E2.take j) = ([], 0, 5))) := by
      intro j hj; rw [← f2] at hj; show _ = _; rw [← e2] at hj ⊢; exact Wire.decB_short (by omega) hj
    have SH3 : Hid (∀ j, j < n3 → Hid (Wire.decI (E3.take j) = ([], 0, 5))) := by
      intro j hj; rw [← f3] at hj; show _ = _; rw [← e3] at hj ⊢; exact Wire.decI_short HLR.out (by have := HL.out; omega) hj
    have SH4 : Hid (∀ j, j < n4 → Hid (Wire.decD (E4.take j) = ([], 0, 5))) := by
      intro j hj; rw [← f4] at hj; show _ = _; rw [← e4] at hj ⊢; exact Wire.decD_short HDR.out (by have := HD.out; omega) hj
    have H1 := Lib.hid e1; have H2 := Lib.hid e2; have H3 := Lib.hid e3; have H4 := Lib.hid e4
    have HN1 := Lib.hid f1; have HN2 := Lib.hid f2; have HN3 := Lib.hid f3; have HN4 := Lib.hid f4
    clear e1 e2 e3 e4 f1 f2 f3 f4 q2'
    go_enter Try.func9, Try.ntmps9
    go_wp2_with fail
    refine (wireInt_len n h1 h2 E1 H1.out n1 HN1.out _).mono ?_
    rintro e w1 ⟨A1, c1, rfl, own1, hb1⟩
    have cap1 := own_cap own1; have rd1 := Rd.of_own own1
    clear own1
    go_wp2_with fail
    refine (wireBytes_len s (by omega) E2 H2.out n2 HN2.out _).mono ?_
    rintro e w2 ⟨A2, c2, rfl, own2, hx2⟩
    have cap2 := own_cap own2; have rd2 := Rd.of_own own2; have hb2 := hb1.trans (hx2.mono hb1.size); have z2 := hx2.size
    have rd1' := rd1.below hx2
    clear own2 hx2 rd1 hb1
    go_wp2_with fail
    refine (wireInts_len A c m l _ _ hb2.size HL.out (by omega) HLR.out (hr.below hb2) E3 H3.out n3 HN3.out).mono ?_
    rintro e w3 ⟨A3, c3, rfl, own3, hx3⟩
    have cap3 := own_cap own3; have rd3 := Rd.of_own own3; have hb3 := hb2.trans (hx3.mono hb2.size); have z3 := hx3.size
    have rd1 := rd1'.below (hx3.mono z2); have rd2' := rd2.below hx3
    clear own3 hx3 rd1' rd2 hb2
    go_wp2_with fail
    refine (wireDigests_len A' c' m' d _ _ hb3.size HD.out (by omega) HDR.out (hr'.below hb3) E4 H4.out n4 HN4.out).mono ?_
    rintro e w4 ⟨A4, c4, rfl, own4, hx4⟩
    have cap4 := own_cap own4; have rd4' := Rd.of_own own4; have hb4 := hb3.trans (hx4.mono hb3.size); have z4 := hx4.size
    have rd1' := rd1.below (hx4.mono (Nat.le_trans z2 z3)); have rd2 := rd2'.below (hx4.mono z3); have rd3' := rd3.below hx4
    clear own4 hx4 rd1 rd2' rd3 hb3
    obtain ⟨w5, hw5⟩ : ∃ w5, w5 = w4.alloc (.cells #[.slice A1 n1 c1, .slice A2 n2 c2, .slice A3 n3 c3, .slice A4 n4 c4] 26) := ⟨_, rfl⟩
    obtain ⟨g, hg⟩ : ∃ g, g = w4.heap.size := ⟨_, rfl⟩
    have hz5 : w5.heap.size = g + 1 := by rw [hw5, hg]; simp
    have hb45 : Below g w4 w5 := by rw [hw5, hg]; exact (Below.refl _ _).alloc (Nat.le_refl _) _
    have hb5 : Below w.heap.size w w5 := hb4.trans (hb45.mono (by rw [hg]; exact hb4.size))
    have rd1 : Rd w5 (g + 1) 1 A1 n1 (bvs E1) := (rd1'.below (hb45.mono (by omega))).more (by omega)
    have rd2'' : Rd w5 (g + 1) 1 A2 n2 (bvs E2) := (rd2.below (hb45.mono (by omega))).more (by omega)
    have rd3 : Rd w5 (g + 1) 1 A3 n3 (bvs E3) := (rd3'.below (hb45.mono (by omega))).more (by omega)
    have rd4 : Rd w5 (g + 1) 1 A4 n4 (bvs E4) := (rd4'.below (hb45.mono (by omega))).more (by omega)
    clear rd1' rd2 rd3' rd4'
    have rd2 := rd2''
    clear rd2''
    have HC : Hid (w5.cell? ⟨g, 0, none⟩ = some (.slice A1 n1 c1) ∧ w5.cell? ⟨g, 1, none⟩ = some (.slice A2 n2 c2) ∧ w5.cell? ⟨g, 2, none⟩ = some (.slice A3 n3 c3) ∧ w5.cell? ⟨g, 3, none⟩ = some (.slice A4 n4 c4)) := by
      show _ ∧ _
      rw [hw5, hg]
      refine ⟨?_, ?_, ?_, ?_⟩ <;> (rw [cell_of_row _ _ _ _ _ _ (heap_alloc_new w4 _)]; rfl)
    have HG := Lib.hid hg; have HW5 := Lib.hid hw5
    clear hg hw5 hb4 z2 z3 z4
    go_wp2_with fail
    rw [← HW5.out, ← HG.out]
    go_loopw [35] (fun u35 wr => ∃ i : Nat, i ≤ 4 ∧ u35 = .int .i64 i ∧ Below (g + 1) w5 wr) (fun u35 _ => 4 - (intOf u35).toNat)
    case atStart => exact ⟨0, by omega, rfl, Below.refl _ _⟩
    case round =>
      obtain ⟨i, hi, rfl, hbel⟩ := hrel
      rcases (by omega : i = 0 ∨ i = 1 ∨ i = 2 ∨ i = 3 ∨ i = 4) with rfl | rfl | rfl | rfl | rfl
      · -- table row 0
        have hck : wr.cell? ⟨g, 0, none⟩ = some (.slice A1 n1 c1) := (hbel.cell (p := ⟨g, 0, none⟩) (by show g < g + 1; omega)).trans (HC.out.1)
        have hmin : min (n1 : Int) 500 = n1 := by omega
        go_wp2_with fail
        obtain ⟨wo, hwo⟩ : ∃ wo, wo = wr := ⟨_, rfl⟩
        subst hwo
        go_loopw [43] (fun u43 wi => ∃ j : Nat, j ≤ n1 ∧ u43 = .int .i64 j ∧ Below (g + 1) w5 wi) (fun u43 _ => n1 - (intOf u43).toNat)
        case atStart => exact ⟨0, by omega, rfl, hbel⟩
        case round =>
          obtain ⟨j, hj, rfl, hbi⟩ := hrel
          by_cases hjn : j < n1
          · have DJ := SH1.out j hjn
            have HJ : Hid ((E1.take j).length = j) := by show _ = _; rw [List.length_take, HN1.out]; omega
            have RJ : Hid (Rd wr (g + 1) 1 A1 j (bvs (E1.take j))) := by
              show Rd wr (g + 1) 1 A1 j (bvs (E1.take j))
              have := (rd1.below hbi).take hj
              rwa [Nat.mul_one, ← List.map_take] at this
            go_wp2_with fail
            refine (wireGetInt_len A1 c1 j (E1.take j) _ _ HJ.out RJ.out (by omega) (by have := cap1.1; omega) cap1.2 0 0 5 DJ.out).mono ?_
            rintro e w6 ⟨rfl, rfl⟩
            go_wp2
            refine ⟨?_, ?measure⟩
            (repeat apply Exists.intro)
            refine ⟨?rel, rfl⟩
            case rel => exact ⟨j + 1, by omega, by go_num, hbi⟩
            case measure => simp [intOf] <;> omega
          · obtain rfl : j = n1 := by omega
            go_wp2
            go_roundw
            case rel => exact ⟨1, by omega, by go_num, hbi⟩
            case measure => simp [intOf] <;> omega
      · -- table row 1
        have hck : wr.cell? ⟨g, 1, none⟩ = some (.slice A2 n2 c2) := (hbel.cell (p := ⟨g, 1, none⟩) (by show g < g + 1; omega)).trans (HC.out.2.1)
        have hmin : min (n2 : Int) 500 = n2 := by omega
        go_wp2_with fail
        obtain ⟨wo, hwo⟩ : ∃ wo, wo = wr := ⟨_, rfl⟩
        subst hwo
        go_loopw [43] (fun u43 wi => ∃ j : Nat, j ≤ n2 ∧ u43 = .int .i64 j ∧ Below (g + 1) w5 wi) (fun u43 _ => n2 - (intOf u43).toNat)
        case atStart => exact ⟨0, by omega, rfl, hbel⟩
        case round =>
          obtain ⟨j, hj, rfl, hbi⟩ := hrel
          by_cases hjn : j < n2
          · have DJ := SH2.out j hjn
            have HJ : Hid ((E2.take j).length = j) := by show _ = _; rw [List.length_take, HN2.out]; omega
            have RJ : Hid (Rd wr (g + 1) 1 A2 j (bvs (E2.take j))) := by
              show Rd wr (g + 1) 1 A2 j (bvs (E2.take j))
              have := (rd2.below hbi).take hj
              rwa [Nat.mul_one, ← List.map_take] at this
            go_wp2_with fail
            refine (wireGetBytes_len A2 c2 j (E2.take j) _ _ HJ.out RJ.out (by omega) (by have := cap2.1; omega) cap2.2 [] 0 5 DJ.out).mono ?_
            rintro e w6 ⟨rfl, rfl⟩
            go_wp2
            refine ⟨?_, ?measure⟩
            (repeat apply Exists.intro)
            refine ⟨?rel, rfl⟩
            case rel => exact ⟨j + 1, by omega, by go_num, hbi⟩
            case measure => simp [intOf] <;> omega
          · obtain rfl : j = n2 := by omega
            go_wp2
            go_roundw
            case rel => exact ⟨2, by omega, by go_num, hbi⟩
            case measure => simp [intOf] <;> omega
      · -- table row 2
        have hck : wr.cell? ⟨g, 2, none⟩ = some (.slice A3 n3 c3) := (hbel.cell (p := ⟨g, 2, none⟩) (by show g < g + 1; omega)).trans (HC.out.2.2.1)
        have hmin : min (n3 : Int) 500 = n3 := by omega
        go_wp2_with fail
        obtain ⟨wo, hwo⟩ : ∃ wo, wo = wr := ⟨_, rfl⟩
        subst hwo
        go_loopw [43] (fun u43 wi => ∃ j : Nat, j ≤ n3 ∧ u43 = .int .i64 j ∧ Below (g + 1) w5 wi) (fun u43 _ => n3 - (intOf u43).toNat)
        case atStart => exact ⟨0, by omega, rfl, hbel⟩
        case round =>
          obtain ⟨j, hj, rfl, hbi⟩ := hrel
          by_cases hjn : j < n3
          · have DJ := SH3.out j hjn
            have HJ : Hid ((E3.take j).length = j) := by show _ = _; rw [List.length_take, HN3.out]; omega
            have RJ : Hid (Rd wr (g + 1) 1 A3 j (bvs (E3.take j))) := by
              show Rd wr (g + 1) 1 A3 j (bvs (E3.take j))
              have := (rd3.below hbi).take hj
              rwa [Nat.mul_one, ← List.map_take] at this
            go_wp2_with fail
            refine (wireGetInts_len A3 c3 j (E3.take j) _ _ (Nat.le_trans (Nat.le_of_eq hz5.symm) hbi.size) HJ.out RJ.out (by omega) (by have := cap3.1; omega) cap3.2 [] 0 5 DJ.out 0 rfl).mono ?_
            rintro e w6 ⟨A6, c6, rfl, _, hx6⟩
            go_wp2
            refine ⟨?_, ?measure⟩
            (repeat apply Exists.intro)
            refine ⟨?rel, rfl⟩
            case rel => exact ⟨j + 1, by omega, by go_num, hbi.trans (hx6.mono (Nat.le_trans (Nat.le_of_eq hz5.symm) hbi.size))⟩
            case measure => simp [intOf] <;> omega
          · obtain rfl : j = n3 := by omega
            go_wp2
            go_roundw
            case rel => exact ⟨3, by omega, by go_num, hbi⟩
            case measure => simp [intOf] <;> omega
      · -- table row 3
        have hck : wr.cell? ⟨g, 3, none⟩ = some (.slice A4 n4 c4) := (hbel.cell (p := ⟨g, 3, none⟩) (by show g < g + 1; omega)).trans (HC.out.2.2.2)
        have hmin : min (n4 : Int) 500 = n4 := by omega
        go_wp2_with fail
        obtain ⟨wo, hwo⟩ : ∃ wo, wo = wr := ⟨_, rfl⟩
        subst hwo
        go_loopw [43] (fun u43 wi => ∃ j : Nat, j ≤ n4 ∧ u43 = .int .i64 j ∧ Below (g + 1) w5 wi) (fun u43 _ => n4 - (intOf u43).toNat)
        case atStart => exact ⟨0, by omega, rfl, hbel⟩
        case round =>
          obtain ⟨j, hj, rfl, hbi⟩ := hrel
          by_cases hjn : j < n4
          · have DJ := SH4.out j hjn
            have HJ : Hid ((E4.take j).length = j) := by show _ = _; rw [List.length_take, HN4.out]; omega
            have RJ : Hid (Rd wr (g + 1) 1 A4 j (bvs (E4.take j))) := by
              show Rd wr (g + 1) 1 A4 j (bvs (E4.take j))
              have := (rd4.below hbi).take hj
              rwa [Nat.mul_one, ← List.map_take] at this
            go_wp2_with fail
            refine (wireGetDigests_len A4 c4 j (E4.take j) _ _ (Nat.le_trans (Nat.le_of_eq hz5.symm) hbi.size) HJ.out RJ.out (by omega) (by have := cap4.1; omega) cap4.2 [] 0 5 DJ.out 0 rfl).mono ?_
            rintro e w6 ⟨A6, c6, rfl, _, hx6⟩
            go_wp2
            refine ⟨?_, ?measure⟩
            (repeat apply Exists.intro)
            refine ⟨?rel, rfl⟩
            case rel => exact ⟨j + 1, by omega, by go_num, hbi.trans (hx6.mono (Nat.le_trans (Nat.le_of_eq hz5.symm) hbi.size))⟩
            case measure => simp [intOf] <;> omega
          · obtain rfl : j = n4 := by omega
            go_wp2
            go_roundw
            case rel => exact ⟨4, by omega, by go_num, hbi⟩
            case measure => simp [intOf] <;> omega
      · have hb6 : Below w.heap.size w wr := hb5.trans (hbel.mono (by have := hb5.size; omega))
        go_wp2_with (go_at_call 11; refine (sanity_any _).mono ?_; rintro e w7 ⟨rfl, hb7⟩)
        go_ret
        exact ⟨rfl, hb6.trans (hb7.mono hb6.size)⟩
end Go.Proofs.Ytoipafbjdjhdjaa
