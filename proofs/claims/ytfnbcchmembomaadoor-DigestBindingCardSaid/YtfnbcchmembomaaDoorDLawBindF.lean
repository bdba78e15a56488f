/- The walk of the statement DigestBinding, part: the second proof does not verify. Conditions: what the argument is, the tables of SHA-256. -/
import Derived.Test.YtfnbcchmembomaaDoorDLawBindN
namespace Go.Proofs.YtfnbcchmembomaaDoor
set_option linter.unusedVariables false
set_option linter.unusedSimpArgs false
open Go.RowKit
set_option maxRecDepth 100000 in
set_option maxHeartbeats 9000000 in
theorem lawBind_f (a b : List UInt8) (ha : a.length = 16) (hb : b.length = 16) (N I : Int) (A : Option Addr) (p pc : Nat) (B : Option Addr) (q qc : Nat) (w : World) (hT : Tabs w) (h1 : ¬ (70 : Int) < p) (h2 : ¬ (70 : Int) < q) (o : Option (List UInt8 × List UInt8)) (HC : Hid (∀ W, Below w.heap.size w W → Calls Tryd.prog 22 #[.int .i64 N, .int .i64 I, dv a, dv b, .slice A p pc, .slice B q qc] W (CRes o W))) (HR : Hid (∀ W, Below w.heap.size w W → Calls Tryd.prog 23 #[.int .i64 N, .int .i64 I, dv a, dv b, .slice A p pc, .slice B q qc] W (RCRes o W))) (m : Nat) (hm : m ≤ 64) (LI : List (List UInt8)) (x : List UInt8) (hL : LI[m]? = some x) (hx : x.length ≤ 1000) (eab epq : Bool) (hab : (a == b) = eab) (hf : o.isSome = (false && !(eab && epq))) (hpair : ∀ u v, o = some (u, v) → u ≠ v ∧ Mk.short u = Mk.short v ∧ u.length ≤ 100000 ∧ v.length ≤ 100000) (hRT : RTab w) (HI : Hid (∀ W, Below w.heap.size w W → Calls Tryd.prog 24 #[.int .i64 N, .int .i64 I, dv a, .slice A p pc] W (InOk LI m W)))
    (HV1 : Hid (∀ W, Below w.heap.size w W → Calls Tryd.prog 26 #[dv (Mk.short x), .int .i64 N, .int .i64 I, dv a, .slice A p pc] W fun e W' => e = .returned (.bool true) ∧ Below W.heap.size W W'))
    (HV2 : Hid (∀ W, Below w.heap.size w W → Calls Tryd.prog 26 #[dv (Mk.short x), .int .i64 N, .int .i64 I, dv b, .slice B q qc] W fun e W' => e = .returned (.bool false) ∧ Below W.heap.size W W'))
    (HSM : Hid (∀ W, Below w.heap.size w W → Calls Tryd.prog 21 #[.slice A p pc, .slice B q qc] W fun e W' => e = .returned (.bool epq) ∧ Below W.heap.size W W')) :
    Calls Tryd.prog 6 #[.agg (bics N I a b (.slice A p pc) (.slice B q qc)).toArray] w fun e w' => e = .returned (.bool true) ∧ Below w.heap.size w w' := by
  have R0 := IsRow.new w 42 (bics N I a b (.slice A p pc) (.slice B q qc))
  have hb0 : Below w.heap.size w (w.alloc (.cells (bics N I a b (.slice A p pc) (.slice B q qc)).toArray 42)) := (Below.refl _ w).alloc (Nat.le_refl _) _
  generalize (bics N I a b (.slice A p pc) (.slice B q qc)).toArray = va at *
  obtain ⟨w0, hw0⟩ : ∃ w0, w.alloc (.cells va 42) = w0 := ⟨_, rfl⟩
  rw [hw0] at R0 hb0
  have HW0 := Lib.hid hw0
  have hT0 := hT.below hb0
  have HA := Lib.hid ha
  have HB := Lib.hid hb
  clear hw0 ha hb
  obtain ⟨M, hM⟩ : ∃ M, m + 1 = M := ⟨_, rfl⟩
  have hw1 : IntKind.i64.wrap ((M : Int) - 1) = (m : Int) := by rw [← hM]; have := IntWalk.i64_in (m : Int) (by omega); rw [show ((m + 1 : Nat) : Int) - 1 = (m : Int) from by omega]; exact this
  have hmM : (m : Int) < (M : Int) := by omega
  have hM65 : (M : Int) ≤ 65 := by omega
  have HMM : Hid (m < M) := Lib.hid (by omega)
  have HM := Lib.hid hM
  have HSH := Lib.hid (fun (A' : Option Addr) (N' c' : Nat) (hN : N' = x.length) (W : World) (hr : Rd W W.heap.size 1 A' N' (bvs x)) (hT : RTab W) => refShort_any A' N' c' x hN.symm (by omega) W.heap.size W hr (Nat.le_refl _) hT)
  have HRS := Lib.hid (Mk.short_len x)
  have heq : ∀ W, (binOp .eql 30 (.agg (bvs a).toArray) (.agg (bvs b).toArray)).run Tryd.prog W = .ok (.bool eab) W := fun W => by rw [← hab]; exact run_eql_digE W HA.out HB.out
  have HFF := Lib.hid hf
  have HPR := Lib.hid hpair
  have HRT := Lib.hid hRT
  have HLM := Lib.hid hL
  generalize Mk.short x = rt at HSH HRS HV1 HV2
  clear hM hab hf hpair hRT hL hx hm
  obtain ⟨xl, hxl⟩ : ∃ x, (o.map Prod.fst).getD [] = x := ⟨_, rfl⟩
  obtain ⟨yl, hyl⟩ : ∃ x, (o.map Prod.snd).getD [] = x := ⟨_, rfl⟩
  obtain ⟨fnd, hfnd⟩ : ∃ x, o.isSome = x := ⟨_, rfl⟩
  unfold CRes at HC
  unfold RCRes at HR
  rw [hxl, hyl, hfnd] at HC HR
  obtain ⟨sx, hsx⟩ : ∃ s : ByteArray, ⟨xl.toArray⟩ = s := ⟨_, rfl⟩
  obtain ⟨sy, hsy⟩ : ∃ s : ByteArray, ⟨yl.toArray⟩ = s := ⟨_, rfl⟩
  have HSX := Lib.hid hsx
  have HSY := Lib.hid hsy
  have HXL := Lib.hid hxl
  have HYL := Lib.hid hyl
  have HFND := Lib.hid hfnd
  clear hxl hyl hfnd hsx hsy
  go_enter Tryd.func6, Tryd.ntmps6
  go_upto_region 2 with (go_at_call 10; rw [HW0.out]; refine (sanity_any _ hT0).mono ?_; rintro e w1 ⟨rfl, b1⟩; have q1 := hb0.trans (b1.mono hb0.size); have R1 := R0.below' b1; obtain ⟨cN1, cI1, ra1, rb1, cP1, cQ1⟩ := bind_rows R1 HA.out HB.out)
  go_upto_region 4 with fail
  go_upto_region 5 with (first
    | (refine wpList_load_mid rfl _ (.tmp 30) rfl w.heap.size 2 rfl (bvs a) _ ra1 Tryd.underlying30 rfl (by rw [bvs_len, HA.out]; exact size16) ?_)
    | (refine wpList_load_mid rfl _ (.tmp 32) rfl w.heap.size 18 rfl (bvs b) _ rb1 Tryd.underlying30 rfl (by rw [bvs_len, HB.out]; exact size16) ?_)
    | (go_at_call 22; refine (HC.out _ q1).mono ?_; rintro e w2 ⟨A1, N1, c1, A2, N2, c2, rfl, b2, hN1, rd1, hN2, rd2⟩; have q2 := q1.trans (b2.mono q1.size); have R2 := R1.below' b2; obtain ⟨cN2, cI2, ra2, rb2, cP2, cQ2⟩ := bind_rows R2 HA.out HB.out; clear cN1 cI1 ra1 rb1 cP1 cQ1 R1; have HRD := Lib.hid (And.intro hN1 (And.intro rd1 (And.intro hN2 rd2))); clear hN1 rd1 hN2 rd2))
  go_upto_region 6 with (first
    | (refine wpList_load_mid rfl _ (.tmp 46) rfl w.heap.size 2 rfl (bvs a) _ ra2 Tryd.underlying30 rfl (by rw [bvs_len, HA.out]; exact size16) ?_)
    | (refine wpList_load_mid rfl _ (.tmp 48) rfl w.heap.size 18 rfl (bvs b) _ rb2 Tryd.underlying30 rfl (by rw [bvs_len, HB.out]; exact size16) ?_)
    | (go_at_call 23; refine (HR.out _ q2).mono ?_; rintro e w3 ⟨A3, N3, c3, A4, N4, c4, rfl, b3, hN3, rd3, hN4, rd4⟩; have q3 := q2.trans (b3.mono q2.size); have R3 := R2.below' b3; obtain ⟨cN3, cI3, ra3, rb3, cP3, cQ3⟩ := bind_rows R3 HA.out HB.out; clear cN2 cI2 ra2 rb2 cP2 cQ2 R2; have HRE := Lib.hid (And.intro hN3 (And.intro rd3 (And.intro hN4 rd4))); clear hN3 rd3 hN4 rd4))
  have rz5 := IsRow.new w3 46 [.slice A3 N3 c3, .slice A4 N4 c4, .bool fnd]
  have b35 : Below w3.heap.size w3 (w3.alloc (.cells #[.slice A3 N3 c3, .slice A4 N4 c4, .bool fnd] 46)) := (Below.refl _ _).alloc (Nat.le_refl _) _
  obtain ⟨w5, hw5⟩ : ∃ x, w3.alloc (.cells #[.slice A3 N3 c3, .slice A4 N4 c4, .bool fnd] 46) = x := ⟨_, rfl⟩
  rw [hw5] at b35 ⊢
  have rz5 : IsRow w5 w3.heap.size 46 [.slice A3 N3 c3, .slice A4 N4 c4, .bool fnd] := hw5 ▸ rz5
  have q5 := q3.trans (b35.mono q3.size)
  have R5 := R3.below' b35
  obtain ⟨cN5, cI5, ra5, rb5, cP5, cQ5⟩ := bind_rows R5 HA.out HB.out
  obtain ⟨hN1, rd1, hN2, rd2⟩ := HRD.out
  obtain ⟨hN3, rd3, hN4, rd4⟩ := HRE.out
  have b25 := b3.trans (b35.mono b3.size)
  have cv1 := run_toS w5 22 9 5 Tryd.underlying22 Tryd.underlying5 Tryd.underlying9 A1 N1 c1 _ xl (rd1.below b25)
  have cv2 := run_toS w5 22 9 5 Tryd.underlying22 Tryd.underlying5 Tryd.underlying9 A2 N2 c2 _ yl (rd2.below b25)
  have cv3 := run_toS w5 22 9 5 Tryd.underlying22 Tryd.underlying5 Tryd.underlying9 A3 N3 c3 _ xl (rd3.below b35)
  have cv4 := run_toS w5 22 9 5 Tryd.underlying22 Tryd.underlying5 Tryd.underlying9 A4 N4 c4 _ yl (rd4.below b35)
  rw [HSX.out] at cv1 cv3
  rw [HSY.out] at cv2 cv4
  have kz0 : w5.cell? ⟨w3.heap.size, 0, none⟩ = some (.slice A3 N3 c3) := rz5.cell 0
  have kz1 : w5.cell? ⟨w3.heap.size, 1, none⟩ = some (.slice A4 N4 c4) := rz5.cell 1
  have kz2 : w5.cell? ⟨w3.heap.size, 2, none⟩ = some (.bool fnd) := rz5.cell 2
  have B25 := Lib.hid b25
  obtain ⟨b7, hb7⟩ : ∃ x, w3.heap.size = x := ⟨_, rfl⟩
  try rw [hb7]
  rw [hb7] at kz0 kz1 kz2
  clear hw5 rz5 hN1 rd1 hN2 rd2 hN3 rd3 hN4 rd4 b25 b35 cN3 cI3 ra3 rb3 cP3 cQ3 R3 b2 b3 HRE hb7
  go_upto_region 8 with fail
  go_upto_region 9 with (first
    | (refine wpList_load_mid rfl _ (.tmp 80) rfl w.heap.size 2 rfl (bvs a) _ ra5 Tryd.underlying30 rfl (by rw [bvs_len, HA.out]; exact size16) ?_)
    | (go_at_call 24; refine (HI.out _ q5).mono ?_; rintro e w6 ⟨A6, c6, xs6, rfl, b6, own6, RJ⟩; have RJ' := Lib.hid RJ; clear RJ; have rr6 := Rd.of_own own6; rw [HM.out] at rr6 own6; rw [HM.out]; have q6 := q5.trans (b6.mono q5.size); have R6 := R5.below' b6; obtain ⟨cN6, cI6, ra6, rb6, cP6, cQ6⟩ := bind_rows R6 HA.out HB.out; clear cN5 cI5 ra5 rb5 cP5 cQ5 R5))
  go_upto_region 11 with fail
  obtain ⟨g6, off6, rfl, hg6, hcell6⟩ := rr6.2 (by have := HMM.out; omega)
  obtain ⟨A7, N7, c7, hx7, hN7, rd7, _⟩ := RJ'.out.2 m x HLM.out
  have hcx : w6.cell? ⟨g6, off6 + m, none⟩ = some (.slice A7 N7 c7) := hcell6 m _ hx7
  have HS7 := Lib.hid (HSH.out A7 N7 c7 hN7 w6 rd7 (HRT.out.below q6))
  have B26 := Lib.hid (B25.out.trans (b6.mono B25.out.size))
  clear hcell6 hx7 hN7 rd7 hg6 rr6 own6 b6 cv1 cv2 cv3 cv4 kz0 kz1 kz2
  go_upto_region 12 with (first
    | (go_at_call 25; refine HS7.out.mono ?_; rintro e w7 ⟨rfl, b7_⟩; have q7 := q6.trans (b7_.mono q6.size); have R7 := R6.below' b7_; obtain ⟨cN7, cI7, ra7, rb7, cP7, cQ7⟩ := bind_rows R7 HA.out HB.out; clear cN6 cI6 ra6 rb6 cP6 cQ6 R6; have B27 := Lib.hid (B26.out.trans (b7_.mono B26.out.size)); clear b7_ hcx)
    | (refine wpList_allocRow rfl _ rfl _ info16 ?_; intro w8 rz8 b8 z8)
    | (refine wpList_storeRow rfl _ (.tmp 10) (.tmp 100) rfl (l' := bvs rt) rz8 rfl rfl (by rw [bvs_len, HRS.out]; exact size16) (by rw [bvs_len, HRS.out, List.length_replicate]) (bvs_all _) ?_; intro w9 rr9 g9 z9))
  have b9 : Below w7.heap.size w7 w9 := b8.grown g9 b8.size fun k e => by have := Option.some.inj e; omega
  have q9 := q7.trans (b9.mono q7.size); have R9 := R7.below' b9; obtain ⟨cN9, cI9, ra9, rb9, cP9, cQ9⟩ := bind_rows R9 HA.out HB.out; clear cN7 cI7 ra7 rb7 cP7 cQ7 R7
  have B29 := Lib.hid (B27.out.trans (b9.mono B27.out.size))
  obtain ⟨br, hbr⟩ : ∃ x, w7.heap.size = x := ⟨_, rfl⟩
  try rw [hbr]
  rw [hbr] at rr9
  clear rz8 b8 z8 g9 z9 b9 hbr
  go_upto_region 13 with (first
    | (refine wpList_loadRow rfl _ (.tmp 10) rfl rr9 rfl Tryd.underlying30 (by rw [bvs_len, HRS.out]; exact size16) ?_)
    | (refine wpList_load_mid rfl _ (.tmp 106) rfl w.heap.size 2 rfl (bvs a) _ ra9 Tryd.underlying30 rfl (by rw [bvs_len, HA.out]; exact size16) ?_)
    | (have tok := rr9; go_at_call 26; refine (HV1.out _ q9).mono ?_; rintro e w10 ⟨rfl, b10⟩; have q10 := q9.trans (b10.mono q9.size); have R10 := R9.below' b10; obtain ⟨cN10, cI10, ra10, rb10, cP10, cQ10⟩ := bind_rows R10 HA.out HB.out; clear cN9 cI9 ra9 rb9 cP9 cQ9 R9; have rr10 := rr9.below' b10; have B210 := Lib.hid (B29.out.trans (b10.mono B29.out.size)); clear b10 rr9 tok)
    | (refine wpList_loadRowG (by rfl) _ (.tmp 10) rfl rr10 rfl Tryd.underlying30 (by rw [bvs_len, HRS.out]; exact size16) ?_)
    | (refine wpList_load_midG (by rfl) _ (.tmp 117) rfl w.heap.size 18 rfl (bvs b) _ rb10 Tryd.underlying30 rfl (by rw [bvs_len, HB.out]; exact size16) ?_)
    | (go_at_call 26; refine (HV2.out _ q10).mono ?_; rintro e w11 ⟨rfl, b11⟩; have q11 := q10.trans (b11.mono q10.size); have R11 := R10.below' b11; obtain ⟨cN11, cI11, ra11, rb11, cP11, cQ11⟩ := bind_rows R11 HA.out HB.out; clear cN10 cI10 ra10 rb10 cP10 cQ10 R10; have B211 := Lib.hid (B210.out.trans (b11.mono B210.out.size)); clear b11 rr10))
  cases eab
  · obtain rfl : fnd = false := HFND.out.symm.trans HFF.out
    go_upto_region 14 with (first
          | (refine wpList_load_mid rfl _ (.tmp 123) rfl w.heap.size 2 rfl (bvs a) _ ra11 Tryd.underlying30 rfl (by rw [bvs_len, HA.out]; exact size16) ?_)
          | (refine wpList_load_mid rfl _ (.tmp 125) rfl w.heap.size 18 rfl (bvs b) _ rb11 Tryd.underlying30 rfl (by rw [bvs_len, HB.out]; exact size16) ?_)
          | (go_at_call 21; refine (HSM.out _ q11).mono ?_; rintro e w12 ⟨rfl, b12⟩; have q12 := q11.trans (b12.mono q11.size); have B212 := Lib.hid (B211.out.trans (b12.mono B211.out.size)); clear b12))
    go_wp2_with fail
    go_ret
    exact ⟨rfl, q11⟩
  · obtain rfl : fnd = false := HFND.out.symm.trans HFF.out
    go_upto_region 14 with (first
          | (refine wpList_load_mid rfl _ (.tmp 123) rfl w.heap.size 2 rfl (bvs a) _ ra11 Tryd.underlying30 rfl (by rw [bvs_len, HA.out]; exact size16) ?_)
          | (refine wpList_load_mid rfl _ (.tmp 125) rfl w.heap.size 18 rfl (bvs b) _ rb11 Tryd.underlying30 rfl (by rw [bvs_len, HB.out]; exact size16) ?_)
          | (go_at_call 21; refine (HSM.out _ q11).mono ?_; rintro e w12 ⟨rfl, b12⟩; have q12 := q11.trans (b12.mono q11.size); have B212 := Lib.hid (B211.out.trans (b12.mono B211.out.size)); clear b12))
    go_wp2_with fail
    go_ret
    exact ⟨rfl, q12⟩
end Go.Proofs.YtfnbcchmembomaaDoor
