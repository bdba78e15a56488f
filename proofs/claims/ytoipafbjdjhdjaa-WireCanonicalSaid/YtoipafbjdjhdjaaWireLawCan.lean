/- The walk of the statement WireCanonical: it returns true. Conditions: none beyond what the argument is. -/
import Derived.Test.YtoipafbjdjhdjaaWireLawEnc
import Derived.Test.YtoipafbjdjhdjaaWireLaws
namespace Go.Proofs.Ytoipafbjdjhdjaa
set_option linter.unusedVariables false
set_option linter.unusedSimpArgs false
open Go.RowKit

set_option maxHeartbeats 800000 in
/-- the closure 'is' of the statement: the consumed bytes are the encoding, or there was an error -/
theorem canon_is (b0 : Nat) (A : Option Addr) (m c : Nat) (b : List UInt8) (hmb : b.length = m) (hm : m ≤ 2000) (hmc : m ≤ c) (w : World) (hcell : w.cell? ⟨b0, 0, none⟩ = some (.slice A m c)) (B : Nat) (hr : Rd w B 1 A m (bvs b))
    (A1 : Option Addr) (k1 c1 : Nat) (x : List UInt8) (hk1 : x.length = k1) (hk : k1 ≤ maxLen) (B1 : Nat) (hx : Rd w B1 1 A1 k1 (bvs x)) (u : Nat) (er : Int) (h : er ≠ 0 ∨ (u ≤ m ∧ b.take u = x)) :
    Calls Try.prog 31 #[.slice A1 k1 c1, .int .i64 u, .int .i64 er, .pointer (some ⟨b0, 0, none⟩)] w fun e w' => e = .returned (.bool true) ∧ ∃ n, w' = w.drewN n := by
  have HM := Lib.hid hmb; have HK := Lib.hid hk1
  clear hmb hk1
  by_cases he : er = 0
  · subst he
    have h2 : u ≤ m := by rcases h with h | h; · exact absurd rfl h
                          · exact h.1
    have HX : Hid (b.take u = x) := by rcases h with h | h; · exact absurd rfl h
                                       · exact h.2
    clear h
    have HR : Hid (Rd w B 1 A u (bvs (b.take u))) := by
      show Rd _ _ _ _ _ _
      have := hr.take h2
      rwa [Nat.mul_one, ← List.map_take] at this
    have HU : Hid ((b.take u).length = u) := by show _ = _; rw [List.length_take, HM.out]; omega
    have hmax : max 0 (min (u : Int) (m : Int)) = u := by omega
    rcases Nat.eq_zero_or_pos u with h0 | h0
    · subst h0
      go_enter Try.func31, Try.ntmps31
      go_wp2_with fail
      refine (same_len A1 A c1 c _ _ x (b.take 0) _ HK.out HU.out hk _ _ hx HR.out true (by simp [← HX.out])).mono ?_
      rintro e w1 ⟨rfl, n, rfl⟩
      go_wp2
      go_ret
      exact ⟨rfl, _, rfl⟩
    · go_enter Try.func31, Try.ntmps31
      go_wp2_with fail
      refine (same_len A1 A c1 c _ _ x (b.take u) _ HK.out HU.out hk _ _ hx HR.out true (by simp [HX.out])).mono ?_
      rintro e w1 ⟨rfl, n, rfl⟩
      go_wp2
      go_ret
      exact ⟨rfl, _, rfl⟩
  · have he0 : (er != 0) = true := by rw [bne_iff_ne]; exact he
    clear h he
    go_enter Try.func31, Try.ntmps31
    go_wp2
    go_ret
    exact ⟨rfl, 0, rfl⟩

/-- w1 has grown out of w, above w's blocks, and the box at w's first new block still holds v -/
def BoxSt (w : World) (v : Value) (w1 : World) : Prop := Below w.heap.size w w1 ∧ w1.cell? ⟨w.heap.size, 0, none⟩ = some v ∧ w.heap.size + 1 ≤ w1.heap.size
theorem BoxSt.step {w w1 w2 : World} {v : Value} (h : BoxSt w v w1) (hb : Below w1.heap.size w1 w2) : BoxSt w v w2 :=
  ⟨h.1.trans (hb.mono h.1.size), (hb.cell (p := ⟨w.heap.size, 0, none⟩) (by show w.heap.size < w1.heap.size; have := h.2.2; omega)).trans h.2.1, Nat.le_trans h.2.2 hb.size⟩
theorem BoxSt.drewN {w w1 : World} {v : Value} (h : BoxSt w v w1) (n : Nat) : BoxSt w v (w1.drewN n) := ⟨below_drewN h.1 n, h.2.1, h.2.2⟩

set_option maxRecDepth 100000 in
set_option maxHeartbeats 3200000 in
theorem lawCanonical (A : Option Addr) (m c : Nat) (b : List UInt8) (hl : b.length = m) (hmc : m ≤ c) (hc : c ≤ 140737488355328) (w : World) (hr : Rd w w.heap.size 1 A m (bvs b)) :
    Calls Try.prog 7 #[.slice A m c] w fun e w' => e = .returned (.bool true) ∧ Below w.heap.size w w' := by
  have HL := Lib.hid hl
  clear hl
  have st1 : BoxSt w (.slice A m c) (w.alloc (.cells #[.slice A m c] 26)) :=
    ⟨(Below.refl _ _).alloc (Nat.le_refl _) _, by rw [cell_of_row _ _ _ _ _ _ (heap_alloc_new w _)]; rfl, by simp⟩
  by_cases hbig : 2000 < m
  · go_enter Try.func7, Try.ntmps7
    go_wp2_with (go_at_call 11; refine (sanity_any _).mono ?_; rintro e w1 ⟨rfl, hb1⟩)
    go_ret
    exact ⟨rfl, (st1.step hb1).1⟩
  · obtain ⟨n1, u1, r1, d1⟩ : ∃ n u e, Wire.dec b = (n, u, e) := ⟨_, _, _, rfl⟩
    obtain ⟨n2, u2, r2, d2⟩ : ∃ n u e, Wire.decB b = (n, u, e) := ⟨_, _, _, rfl⟩
    obtain ⟨n3, u3, r3, d3⟩ : ∃ n u e, Wire.decI b = (n, u, e) := ⟨_, _, _, rfl⟩
    obtain ⟨n4, u4, r4, d4⟩ : ∃ n u e, Wire.decD b = (n, u, e) := ⟨_, _, _, rfl⟩
    have l2 : n2.length ≤ 2000 := by have := Wire.decB_len d2; have := HL.out; omega
    have l3 : n3.length ≤ 2000 := by have := Wire.decI_len d3; have := HL.out; omega
    have l4 : n4.length ≤ 2000 := by have := Wire.decD_len d4; have := HL.out; omega
    have D16_4 : Hid (D16 n4) := Wire.decD_16 d4
    have I1 : -9223372036854775808 ≤ n1 ∧ n1 ≤ 9223372036854775807 := by
      by_cases he : r1 = 0
      · subst he; have := Wire.dec_ok d1; exact ⟨this.1, this.2.1⟩
      · rcases Wire.dec_err d1 with h | ⟨_, h, _⟩
        · exact absurd h he
        · omega
    have I3 : Hid (I64s n3) := by
      show I64s n3
      by_cases he : r3 = 0
      · subst he; exact (Wire.decI_ok d3).2.2.1
      · rw [(Wire.decI_err' d3 he).1]; intro x hx; cases hx
    have T1 : Hid (r1 ≠ 0 ∨ (u1 ≤ m ∧ b.take u1 = Wire.enc n1)) := by
      by_cases he : r1 = 0
      · subst he; have := Wire.dec_ok d1; have := HL.out; exact .inr ⟨by omega, by simp_all⟩
      · exact .inl he
    have T2 : Hid (r2 ≠ 0 ∨ (u2 ≤ m ∧ b.take u2 = Wire.encB n2)) := by
      by_cases he : r2 = 0
      · subst he; have hk := Wire.decB_okay d2; have := HL.out; exact .inr ⟨by omega, hk.2.2⟩
      · exact .inl he
    have T3 : Hid (r3 ≠ 0 ∨ (u3 ≤ m ∧ b.take u3 = Wire.encI n3)) := by
      by_cases he : r3 = 0
      · subst he; have hk := Wire.decI_ok d3; have := HL.out; exact .inr ⟨by omega, hk.2.2.2⟩
      · exact .inl he
    have T4 : Hid (r4 ≠ 0 ∨ (u4 ≤ m ∧ b.take u4 = Wire.encD n4)) := by
      by_cases he : r4 = 0
      · subst he; have hk := Wire.decD_okay d4; have := HL.out; exact .inr ⟨by omega, hk.2.2.2⟩
      · exact .inl he
    have q1 := Wire.enc_length_le n1
    have q2 := encB_len n2
    have q3 := encI_len n3
    have q4 := encD_len D16_4.out
    obtain ⟨E1, e1⟩ : ∃ E, Wire.enc n1 = E := ⟨_, rfl⟩
    obtain ⟨E2, e2⟩ : ∃ E, Wire.encB n2 = E := ⟨_, rfl⟩
    obtain ⟨E3, e3⟩ : ∃ E, Wire.encI n3 = E := ⟨_, rfl⟩
    obtain ⟨E4, e4⟩ : ∃ E, Wire.encD n4 = E := ⟨_, rfl⟩
    rw [e1] at q1 T1; rw [e2] at q2 T2; rw [e3] at q3 T3; rw [e4] at q4 T4
    obtain ⟨s2, hs2⟩ : ∃ s : ByteArray, s = ⟨n2.toArray⟩ := ⟨_, rfl⟩
    have hz2 : s2.size = n2.length := by rw [hs2]; simp [ByteArray.size]
    have e2' : Wire.encB s2.data.toList = E2 := by rw [hs2]; exact e2
    have H1 := Lib.hid e1; have H2 := Lib.hid e2'; have H3 := Lib.hid e3; have H4 := Lib.hid e4
    have K1 := Lib.hid d1; have K2 := Lib.hid d2; have K3 := Lib.hid d3; have K4 := Lib.hid d4
    have HS2 := Lib.hid hs2
    clear d1 d2 d3 d4 e1 e2 e2' e3 e4 hs2
    go_enter Try.func7, Try.ntmps7
    go_wp2_with fail
    refine (wireGetInt_len A c m b _ _ HL.out (hr.below st1.1) (by omega) hmc (by unfold maxLen; omega) n1 u1 r1 K1.out).mono ?_
    rintro e w1 ⟨rfl, rfl⟩
    go_wp2_with fail
    refine (wireGetBytes_len A c m b _ _ HL.out (hr.below st1.1) (by omega) hmc (by unfold maxLen; omega) n2 u2 r2 K2.out).mono ?_
    rintro e w2 ⟨he, rfl⟩
    rw [← HS2.out] at he
    subst he
    go_wp2_with fail
    refine (wireGetInts_len A c m b _ _ st1.1.size HL.out (hr.below st1.1) (by omega) hmc (by unfold maxLen; omega) n3 u3 r3 K3.out _ rfl).mono ?_
    rintro e w3 ⟨A3, c3, rfl, own3, hx3⟩
    have rd3 := Rd.of_own own3
    have st3 := st1.step hx3
    have hc3 := st3.2.1
    clear own3 hx3
    go_wp2_with fail
    refine (wireGetDigests_len A c m b _ _ st3.1.size HL.out (hr.below st3.1) (by omega) hmc (by unfold maxLen; omega) n4 u4 r4 K4.out _ rfl).mono ?_
    rintro e w4 ⟨A4, c4, rfl, own4, hx4⟩
    have rd4 := Rd.of_own own4
    have st4 := st3.step hx4
    have rd3' := rd3.below hx4
    have z4 := hx4.size
    clear own4 hx4 st3 hc3 rd3
    go_wp2_with fail
    refine (sanity_any _).mono ?_
    rintro e w5 ⟨rfl, hx5⟩
    have st5 := st4.step hx5
    have rd3 := rd3'.below (hx5.mono z4)
    have rd4' := rd4.below hx5
    have z5 := hx5.size
    clear hx5 st4 rd3' rd4
    go_wp2_with fail
    refine (wireInt_len n1 I1.1 I1.2 E1 H1.out _ rfl _).mono ?_
    rintro e w6 ⟨A6, c6, rfl, own6, hx6⟩
    have rd6 := Rd.of_own own6
    have st6 := st5.step hx6
    have rd3' := rd3.below (hx6.mono (Nat.le_trans z4 z5))
    have rd4 := rd4'.below (hx6.mono z5)
    have z6 := hx6.size
    clear own6 hx6 st5 rd3 rd4'
    go_wp2_with fail
    refine (canon_is _ A m c b HL.out (by omega) hmc _ st6.2.1 _ (hr.below st6.1) A6 _ c6 E1 rfl (by unfold maxLen; omega) _ rd6 u1 r1 T1.out).mono ?_
    rintro e w7 ⟨rfl, k7, hw7⟩
    have st7 : BoxSt w (.slice A m c) w7 := by rw [hw7]; exact st6.drewN _
    have rd3 : Rd w7 w3.heap.size 1 A3 n3.length (ivs n3) := by rw [hw7]; exact rd3'.drewN _
    have rd4' : Rd w7 w4.heap.size 16 A4 n4.length (dvs n4) := by rw [hw7]; exact rd4.drewN _
    have z7 : w6.heap.size = w7.heap.size := by rw [hw7]; rfl
    clear hw7 st6 rd3' rd4 rd6
    go_wp2_with fail
    refine (wireBytes_len s2 (by omega) E2 H2.out _ rfl _).mono ?_
    rintro e w8 ⟨A8, c8, rfl, own8, hx8⟩
    have rd8 := Rd.of_own own8
    have st8 := st7.step hx8
    have rd3' := rd3.below (hx8.mono (by omega))
    have rd4 := rd4'.below (hx8.mono (by omega))
    have z8 := hx8.size
    clear own8 hx8 st7 rd3 rd4'
    go_wp2_with fail
    refine (canon_is _ A m c b HL.out (by omega) hmc _ st8.2.1 _ (hr.below st8.1) A8 _ c8 E2 rfl (by unfold maxLen; omega) _ rd8 u2 r2 T2.out).mono ?_
    rintro e w9 ⟨rfl, k9, hw9⟩
    have st9 : BoxSt w (.slice A m c) w9 := by rw [hw9]; exact st8.drewN _
    have rd3 : Rd w9 w3.heap.size 1 A3 n3.length (ivs n3) := by rw [hw9]; exact rd3'.drewN _
    have rd4' : Rd w9 w4.heap.size 16 A4 n4.length (dvs n4) := by rw [hw9]; exact rd4.drewN _
    have z9 : w8.heap.size = w9.heap.size := by rw [hw9]; rfl
    clear hw9 st8 rd3' rd4 rd8
    go_wp2_with fail
    refine (wireInts_len A3 c3 _ n3 _ _ (by omega) rfl (by omega) I3.out rd3 E3 H3.out _ rfl).mono ?_
    rintro e w10 ⟨A10, c10, rfl, own10, hx10⟩
    have rd10 := Rd.of_own own10
    have st10 := st9.step hx10
    have rd4 := rd4'.below (hx10.mono (by omega))
    have z10 := hx10.size
    clear own10 hx10 st9 rd3 rd4'
    go_wp2_with fail
    refine (canon_is _ A m c b HL.out (by omega) hmc _ st10.2.1 _ (hr.below st10.1) A10 _ c10 E3 rfl (by unfold maxLen; omega) _ rd10 u3 r3 T3.out).mono ?_
    rintro e w11 ⟨rfl, k11, hw11⟩
    have st11 : BoxSt w (.slice A m c) w11 := by rw [hw11]; exact st10.drewN _
    have rd4' : Rd w11 w4.heap.size 16 A4 n4.length (dvs n4) := by rw [hw11]; exact rd4.drewN _
    have z11 : w10.heap.size = w11.heap.size := by rw [hw11]; rfl
    clear hw11 st10 rd4 rd10
    go_wp2_with fail
    refine (wireDigests_len A4 c4 _ n4 _ _ (by omega) rfl (by omega) D16_4.out rd4' E4 H4.out _ rfl).mono ?_
    rintro e w12 ⟨A12, c12, rfl, own12, hx12⟩
    have rd12 := Rd.of_own own12
    have st12 := st11.step hx12
    clear own12 hx12 st11 rd4'
    go_wp2_with fail
    refine (canon_is _ A m c b HL.out (by omega) hmc _ st12.2.1 _ (hr.below st12.1) A12 _ c12 E4 rfl (by unfold maxLen; omega) _ rd12 u4 r4 T4.out).mono ?_
    rintro e w13 ⟨rfl, k13, hw13⟩
    have st13 : BoxSt w (.slice A m c) w13 := by rw [hw13]; exact st12.drewN _
    clear hw13 st12
    go_wp2
    go_ret
    exact ⟨rfl, st13.1⟩
end Go.Proofs.Ytoipafbjdjhdjaa
