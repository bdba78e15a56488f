/- Layer 35's laws: the sanity example. Conditions: the tables are in memory. -/
import Derived.Test.YtkjomnakolhdcaaDoorBilS
namespace Go.Proofs.YtkjomnakolhdcaaDoor
set_option linter.unusedVariables false
set_option linter.unusedSimpArgs false
open Go.RowKit
theorem keeps_row {W W' : World} {S : Nat → Prop} {q t : Nat} {L : List Value} (h : IsRow W q t L) (hk : Keep S W W') (hn : ¬ S q) : IsRow W' q t L := h.keep (hk.block q h.lt hn)
theorem inv_head {l : Bil.Lg} {K : Int} (h : Bil.Inv l K) (hd : List UInt8) : Bil.Inv { l with head := hd } K := ⟨⟨h.ok.p, h.ok.q, h.ok.k, h.ok.a, h.ok.nn⟩, h.sm, h.ke⟩
theorem inv_mono {l : Bil.Lg} {K K' : Int} (h : Bil.Inv l K) (hK : K ≤ K') : Bil.Inv l K' := ⟨h.ok, fun t => by have := h.sm t; omega, h.ke⟩
theorem sI1 (h : List UInt8) : Bil.Inv (sL1 h) 10000000000000 := by
  obtain ⟨h', _, _, e⟩ := sInv1 h
  exact inv_mono (inv_head e h) (by decide)
theorem sI2 (h : List UInt8) : Bil.Inv (sL2 h) 100000000000000 := by
  obtain ⟨h', _, e2⟩ := s2st h
  have h1 := Bil.inv_do (sI1 h) ⟨2, 0, 1, 3, []⟩
  have e3 : Bil.doSt (sL1 h) ⟨2, 0, 1, 3, []⟩ = Bil.creditSt (sL1 h) 0 1 3 := by unfold Bil.doSt; rw [if_neg (by decide)]
  rw [e3, e2] at h1
  exact inv_mono (inv_head h1 h) (by decide)
theorem sI3 (h : List UInt8) : Bil.Inv (sL3 h) 1000000000000000 := by
  obtain ⟨h', _, e2⟩ := s4st h
  have h1 := Bil.inv_do (sI2 h) ⟨1, 6, 0, 0, [4, 2]⟩
  rw [e2] at h1
  exact inv_mono (inv_head h1 h) (by decide)
theorem i64s_of_inv {l : Bil.Lg} {K : Int} (h : Bil.Inv l K) (hK : K ≤ 9000000000000000000) : I64s l.pending ∧ I64s l.paid := ⟨Bil.i64s_of fun t => by have := h.sm t; omega, Bil.i64s_of fun t => by have := h.sm t; omega⟩
theorem col_zero {W : World} {bl : Nat} {col : Nat → Nat} {m : LM} {l : Bil.Lg} (h : LAt W bl col m l) {q : Nat} (hq : W.heap.size ≤ q) : col q = 0 := by
  rcases Nat.eq_zero_or_pos (col q) with h0 | h0
  · exact h0
  · have := h.lt q (by omega); omega
set_option maxRecDepth 100000 in
set_option maxHeartbeats 6400000 in
theorem sanity_any (w : World) (hT : Tabs w) (hR : RG w) : Calls Tryd.prog 9 #[] w fun e w' => e = .returned (.bool true) ∧ Below w.heap.size w w' := by
  have HN := Lib.hid (new_any 2 (by decide) (by decide) w hT hR)
  have HTT := Lib.hid hT
  have HRR := Lib.hid hR
  have HC2 := Lib.hid san_close
  clear hT hR
  go_enter Tryd.func9, Tryd.ntmps9
  go_upto_region 4 with (go_at_call 11; refine HN.out.mono ?_; rintro e w1 ⟨bl, col, m, rfl, hl, hc, hb⟩; rw [s0] at hl; have HL := Lib.hid hl; have HC := Lib.hid hc; have HB := Lib.hid hb; clear hl hc hb)
  obtain ⟨h0, hh0⟩ : ∃ x, newHead ((2 : Nat) : Int) = x := ⟨_, rfl⟩
  rw [hh0] at HL
  have HCA := Lib.hid (san_close bl col m (sL0 h0) sL1 bill1 10 1 [4, 5] 2 (s1err h0) (s1st h0) (s1bill h0) ⟨by decide, by decide⟩ (by decide) w1 1000 (sInv0 h0) (by decide) (HTT.out.below HB.out) (HRR.out.below HB.out) HL.out)
  have hba : Below w.heap.size w (w1.alloc (.cells (ivs [4, 5]).toArray 3)) := HB.out.alloc (by have := HB.out.size; omega) _
  have HBA := Lib.hid hba
  have HI1 := Lib.hid (sInv1 h0)
  clear hh0 hba
  go_upto_region 5 with (first
    | (go_at_call 29; refine HCA.out.mono ?_; rintro e w2 ⟨A1, A2, A3, c1, c2, c3, col1, m1, h1, rfl, own3, h16, hl1, hk1, hcc1⟩; have HL1 := Lib.hid hl1; have HK1 := Lib.hid hk1; have HCC1 := Lib.hid hcc1; clear hl1 hk1 hcc1 own3)
    | (refine wpList_allocRow rfl _ rfl _ info6 ?_; intro w3 r3 b3 z3)
    | (refine wpList_storeRow rfl _ (.tmp 3) (.tmp 23) rfl (l' := [.int .i64 bill1.period, .int .i64 bill1.media, .int .i64 bill1.house, .slice A1 bill1.charges.length c1, .slice A2 bill1.credits.length c2, .slice A3 bill1.nets.length c3]) r3 rfl rfl size6 rfl rfl ?_; intro w4 r4 g4 z4))
  have hb2 : Below w.heap.size w w2 := keep_below HBA.out HK1.out HC.out
  have hz2 := HK1.out.size
  obtain ⟨q3, hq3⟩ : ∃ x, w2.heap.size = x := ⟨_, rfl⟩
  have hb3 : Below w.heap.size w w3 := hb2.trans (b3.mono hb2.size)
  have hb4 : Below w.heap.size w w4 := hb3.grown g4 hb3.size (fun j hj => by have := Option.some.inj hj; have := hb2.size; omega)
  have hl4 : LAt w4 bl col1 m1 (sL1 h1) := (HL1.out.below b3).keeps (S := fun k => k = w2.heap.size) (Keep.of_grown g4 fun k e => (Option.some.inj e).symm) (fun b e => col_zero HL1.out (Nat.le_of_eq (show b = w2.heap.size from e).symm))
  have hc4 : ∀ b, col1 b ≠ 0 → w.heap.size ≤ b := fun b hb => by
    rcases HCC1.out b hb with h | h
    · exact HC.out b h
    · have := HBA.out.size; omega
  have hz3 : col1 q3 = 0 := col_zero HL1.out (Nat.le_of_eq hq3)
  rw [hq3] at r4 ⊢
  have hI := sI1 h1
  have HCR := Lib.hid (credit_any bl col1 m1 (sL1 h1) 0 1 3 w4 hl4 hI.ok (Bil.sm_big hI.sm (by decide)) (HTT.out.below hb4) (by decide) (by decide) (by decide))
  have HB4 := Lib.hid hb4
  have HC4 := Lib.hid hc4
  have HZ3 := Lib.hid hz3
  have HR4 := Lib.hid r4
  have HE2 := Lib.hid (s2err h1)
  have HS2 := Lib.hid (s2st h1)
  have HQ3 : Hid (w.heap.size ≤ q3) := Lib.hid (by have := hb2.size; omega)
  clear hb2 hz2 hq3 hb3 hb4 hl4 hc4 hz3 hI r3 r4 b3 g4 z3 z4 HCA HN HBA HI1 HL HC HB HL1 HK1 HCC1 h16
  go_upto_region 6 with (go_at_call 30; refine HCR.out.mono ?_; rintro e w5 ⟨rfl, hk5, m5, hl5⟩; rw [HE2.out]; have HK5 := Lib.hid hk5; have HL5 := Lib.hid hl5; clear hk5 hl5)
  obtain ⟨h5, _, e5⟩ := HS2.out
  have hl5 := HL5.out
  rw [e5] at hl5
  have hb5 : Below w.heap.size w w5 := keep_below HB4.out HK5.out HC4.out
  have hr5 := keeps_row HR4.out HK5.out (fun h => h HZ3.out)
  have hI := sI2 h5
  have HCR2 := Lib.hid (credit_any bl col1 m5 (sL2 h5) 0 1 3 w5 hl5 hI.ok (Bil.sm_big hI.sm (by decide)) (HTT.out.below hb5) (by decide) (by decide) (by decide))
  have HB5 := Lib.hid hb5
  have HR5 := Lib.hid hr5
  have HE3 := Lib.hid (s3err h5)
  have HS3 := Lib.hid (s3st h5)
  clear hl5 hb5 hr5 hI e5 HCR HK5 HL5 HR4 HE2 HS2 HB4
  go_upto_region 7 with (go_at_call 30; refine HCR2.out.mono ?_; rintro e w6 ⟨rfl, hk6, m6, hl6⟩; rw [HE3.out]; have HK6 := Lib.hid hk6; have HL6 := Lib.hid hl6; clear hk6 hl6)
  have hl6 := HL6.out
  rw [HS3.out] at hl6
  have hb6 : Below w.heap.size w w6 := keep_below HB5.out HK6.out HC4.out
  have hr6 := keeps_row HR5.out HK6.out (fun h => h HZ3.out)
  have hb6a : Below w.heap.size w (w6.alloc (.cells (ivs [4, 2]).toArray 3)) := hb6.alloc (by have := hb6.size; omega) _
  have HCA := Lib.hid (san_close bl col1 m6 (sL2 h5) sL3 bill2 6 0 [4, 2] 2 (s4err h5) (s4st h5) (s4bill h5) ⟨by decide, by decide⟩ (by decide) w6 _ (sI2 h5) (by decide) (HTT.out.below hb6) (HRR.out.below hb6) hl6)
  have HB6 := Lib.hid hb6a
  have HR6 : Hid (IsRow (w6.alloc (.cells (ivs [4, 2]).toArray 3)) q3 _ _) := Lib.hid (hr6.alloc _)
  clear hl6 hb6 hr6 hb6a HCR2 HK6 HL6 HR5 HE3 HS3 HB5
  go_upto_region 8 with (first
    | (go_at_call 29; refine HCA.out.mono ?_; rintro e w7 ⟨D1, D2, D3, d1, d2, d3, col2, m2, h7, rfl, own7, h716, hl7, hk7, hcc7⟩; have HL7 := Lib.hid hl7; have HK7 := Lib.hid hk7; have HCC7 := Lib.hid hcc7; have HO7 := Lib.hid own7; have H716 := Lib.hid h716; clear hl7 hk7 hcc7 own7 h716)
    | (refine wpList_allocRow rfl _ rfl _ info6 ?_; intro w8 r8 b8 z8)
    | (refine wpList_storeRow rfl _ (.tmp 7) (.tmp 33) rfl (l' := [.int .i64 bill2.period, .int .i64 bill2.media, .int .i64 bill2.house, .slice D1 bill2.charges.length d1, .slice D2 bill2.credits.length d2, .slice D3 bill2.nets.length d3]) r8 rfl rfl size6 rfl rfl ?_; intro w9 r9 g9 z9))
  have hb7 : Below w.heap.size w w7 := keep_below HB6.out HK7.out HC4.out
  obtain ⟨q8, hq8⟩ : ∃ x, w7.heap.size = x := ⟨_, rfl⟩
  have hb8 : Below w.heap.size w w8 := hb7.trans (b8.mono hb7.size)
  have hb9 : Below w.heap.size w w9 := hb8.grown g9 hb8.size (fun j hj => by have := Option.some.inj hj; have := hb7.size; omega)
  have hl9 : LAt w9 bl col2 m2 (sL3 h7) := (HL7.out.below b8).keeps (S := fun k => k = w7.heap.size) (Keep.of_grown g9 fun k e => (Option.some.inj e).symm) (fun b e => col_zero HL7.out (Nat.le_of_eq (show b = w7.heap.size from e).symm))
  have hr7 := keeps_row HR6.out HK7.out (fun h => h HZ3.out)
  have hr9 := (hr7.below' b8).grown g9 (by intro e; have := Option.some.inj e; have := hr7.lt; omega)
  have hz67 := HK7.out.size
  obtain ⟨gd, hgd, hgdb, fd⟩ := FRow.of_own HO7.out (by decide)
  subst hgd
  have fd9 : FRow w9 gd 2 (fun t => bill2.nets.getD t 0) := (fd.below b8).keep (g9.block gd (by have := fd.lt; have := b8.size; omega) (fun e => by have := Option.some.inj e; have := fd.lt; omega))
  rw [hq8] at r9 ⊢
  have hI := sI3 h7
  have ke := i64s_of_inv hI (by decide)
  have HPN := Lib.hid (pending_any bl col2 m2 (sL3 h7) w9 hl9 1)
  have HPD := Lib.hid (paid_any bl col2 m2 (sL3 h7) w9 hl9 1)
  have HPR := Lib.hid (periods_any bl col2 m2 (sL3 h7) w9 hl9)
  have HEN := Lib.hid (encode_any bl col2 m2 (sL3 h7) w9 hl9 ke.1 ke.2 hI.ke)
  have HLE := Lib.hid (s4enc h7 H716.out)
  have k1 : w9.cell? ⟨q3, 2, none⟩ = some (.int .i64 1) := hr9.cell 2
  have k2 : w9.cell? ⟨q8, 2, none⟩ = some (.int .i64 2) := r9.cell 2
  have k3 : w9.cell? ⟨q8, 5, none⟩ = some (.slice (some ⟨gd, 0, none⟩) 2 d3) := r9.cell 5
  have k4 : w9.cell? ⟨gd, 1, none⟩ = some (.int .i64 0) := fd9.cell 1 (by decide)
  have HB9 := Lib.hid hb9
  clear hb7 hq8 hb8 hb9 hl9 hr7 hr9 hz67 hgdb fd fd9 hI ke r8 r9 b8 g9 z8 z9 HCA HO7 HB6 HR6 HL7 HK7 HCC7 H716 HZ3 HQ3
  go_wp2_with (first
    | (go_at_call 15; refine HPN.out.mono ?_; rintro e w10 ⟨rfl, hw⟩; rw [hw, show Bil.atOf (sL3 h7).pending 1 = 1 from rfl]; clear hw w10)
    | (go_at_call 13; refine HPD.out.mono ?_; rintro e w10 ⟨rfl, hw⟩; rw [hw, show Bil.atOf (sL3 h7).paid 1 = 5 from rfl]; clear hw w10)
    | (go_at_call 14; refine HPR.out.mono ?_; rintro e w10 ⟨rfl, hw⟩; rw [hw, show ((sL3 h7).periods : Int) = 2 from rfl]; clear hw w10)
    | (go_at_call 26; refine HEN.out.mono ?_; rintro e w10 ⟨AE, nE, cE, rfl, hnE, _, bE⟩; have hE20 : 20 < nE := by rw [hnE]; exact HLE.out
       have hE21 : (20 : Int) < (nE : Int) := by omega
       clear hnE hE20))
  go_ret
  exact ⟨rfl, HB9.out.trans (bE.mono HB9.out.size)⟩
end Go.Proofs.YtkjomnakolhdcaaDoor
