/- The walk of BillsReplayMatchesSpec: it returns true. Conditions: what the arguments are, the tables of SHA-256. -/
import Derived.Test.YtkjomnakolhdcaaDoorBilTs
import Derived.Test.YtkjomnakolhdcaaDoorBilVA
import Derived.Test.YtkjomnakolhdcaaDoorBilQT
namespace Go.Proofs.YtkjomnakolhdcaaDoor
set_option linter.unusedVariables false
set_option linter.unusedSimpArgs false
open Go.RowKit
theorem inv_encR {l : Bil.Lg} (h : Bil.Inv l BIG) : I64s l.pending ∧ I64s l.paid := by
  unfold BIG at h
  exact ⟨Bil.i64s_of fun t => by have := h.sm t; omega, Bil.i64s_of fun t => by have := h.sm t; omega⟩
theorem rat_zero {W : World} {bl : Nat} {col : Nat → Nat} {m : RM} {l : Bil.Lg} (h : RAt W bl col m l) {b : Nat} (hb : W.heap.size ≤ b) : col b = 0 := by
  rcases Nat.eq_zero_or_pos (col b) with h0 | h0
  · exact h0
  · have := h.lt b (by omega); omega
set_option maxRecDepth 100000 in
set_option maxHeartbeats 3200000 in
theorem lawRepM (tn : Int) (t1 : -9223372036854775808 ≤ tn) (t2 : tn ≤ 9223372036854775807) (A : Option Addr) (n c : Nat) (H : List ByteArray) (hH : H.length = n) (hnc : n ≤ c) (hcc : c ≤ 140737488355328) (w : World) (rd : Rd w w.heap.size 1 A n (svs H)) (hT : Tabs w) (hR : RTab w) :
    Calls Tryd.prog 7 #[.int .i64 tn, .slice A n c] w fun e w' => e = .returned (.bool true) ∧ Below w.heap.size w w' := by
  have HS := Lib.hid (sanity_any w hT (RG.of hT))
  by_cases hn : 60 < n
  · have hn' : (60 : Int) < (n : Int) := by omega
    clear hn rd hT hR hH hnc hcc t1 t2
    go_enter Tryd.func7, Tryd.ntmps7
    go_wp2_with (go_at_call 9; refine HS.out.mono ?_; rintro e w1 ⟨rfl, b1⟩)
    go_ret
    exact ⟨rfl, b1⟩
  · have hn' : ¬ ((60 : Int) < (n : Int)) := by omega
    have HN : Hid (H.length = n ∧ n ≤ 60) := Lib.hid ⟨hH, by omega⟩
    have HRD := Lib.hid rd
    have HTT := Lib.hid (And.intro hT hR)
    clear hn rd hT hR hH hnc hcc t1 t2
    go_enter Tryd.func7, Tryd.ntmps7
    go_upto_region 4 with (go_at_call 9; refine HS.out.mono ?_; rintro e w1 ⟨rfl, b1⟩)
    have HB1 := Lib.hid b1
    clear b1 hn'
    go_wp2_with fail
    go_loopw [6] (fun u6 wr => ∃ i : Nat, i ≤ n ∧ u6 = .int .i64 (i : Int) ∧ Hid (∀ j (hj : j < H.length), j < i → H[j].size ≤ 300) ∧ Hid (Below w.heap.size w wr)) (fun u6 _ => n - (intOf u6).toNat)
    case atStart => exact ⟨0, by omega, rfl, Lib.hid (fun j _ hj => absurd hj (by omega)), HB1⟩
    case round =>
      obtain ⟨i, hi, rfl, HSI, HBW⟩ := hrel
      have hn60 := HN.out.2
      by_cases hlt : i < n
      · have hiH : i < H.length := by rw [HN.out.1]; exact hlt
        obtain ⟨ba, oa, hA, hba, hcell⟩ := (HRD.out.below HBW.out).get (f := Value.string) hiH
        obtain ⟨s, hs⟩ : ∃ s, H[i] = s := ⟨_, rfl⟩
        rw [hs] at hcell
        have i1 : (i : Int) < (n : Int) := by omega
        subst hA
        by_cases hsz : 300 < s.size
        · have hsz' : (300 : Int) < (s.size : Int) := by omega
          clear hsz hs hiH hba
          go_wp2_with fail
          go_ret
          exact ⟨rfl, HBW.out⟩
        · have hsz' : ¬ ((300 : Int) < (s.size : Int)) := by omega
          have HSI2 : Hid (∀ j (hj : j < H.length), j < i + 1 → H[j].size ≤ 300) := Lib.hid fun j hj hji => by
            by_cases hq : j = i
            · subst hq; rw [hs]; omega
            · exact HSI.out j hj (by omega)
          clear hsz hs hiH hba
          go_wp2_with fail
          go_roundw
          case rel => exact ⟨i + 1, by omega, by go_num, HSI2, HBW⟩
          case measure => simp [intOf]; omega
      · obtain rfl : i = n := by omega
        have hHs : ∀ s ∈ H, s.size ≤ 1000 := fun s hs => by
          obtain ⟨j, hj, e⟩ := List.mem_iff_getElem.1 hs
          have := HSI.out j hj (by have := HN.out.1; omega)
          rw [e] at this
          omega
        obtain ⟨hs, hhs⟩ : ∃ x, (H.map fun s => s.data.toList) = x := ⟨_, rfl⟩
        obtain ⟨R, hRe⟩ : ∃ x, Bil.replayed tn hs = x := ⟨_, rfl⟩
        have hTk := HTT.out.1.k.lt
        have hTs := HTT.out.1.s.lt
        have hTr := HTT.out.2.r.lt
        have hTW := fun (W : World) (hb : Below w.heap.size w W) => (show Tabs W ∧ RTab W from ⟨HTT.out.1.below hb, HTT.out.2.below hb⟩)
        have HPR := Lib.hid (fun W (hW : Below w.heap.size w W) => replay_any tn A i c H HN.out.1 HN.out.2 hHs W w.heap.size hW.size (HRD.out.below hW) (hTW W hW).1 ⟨hTk, hTs⟩)
        have HRR := Lib.hid (fun W (hW : Below w.heap.size w W) => rreplay_any tn A i c H HN.out.1 HN.out.2 hHs W w.heap.size hW.size (HRD.out.below hW) (hTW W hW).1 (hTW W hW).2 ⟨hTk, hTs, hTr⟩)
        rw [hhs, hRe] at HPR HRR
        clear hHs hhs hRe hTk hTs hTr hTW hlt hn60 hi
        cases R with
        | inr p =>
          obtain ⟨k, er⟩ := p
          by_cases he : er = 0
          · go_upto_region 10 with (go_at_call 24; refine (HPR.out _ HBW.out).mono ?_; rintro e w2 ⟨b2, hh⟩; exact False.elim (hh.elim (fun ⟨l, bl, col, m, h1, _⟩ => by cases h1) (fun ⟨i, er', h1, h2, h3⟩ => by cases h1; exact h2 he)))
          · have hen : (er != 0) = true := by rw [bne_iff_ne]; exact he
            clear he
            go_upto_region 11 with (first
              | (have hgd := r4; refine wpList_storeRow rfl _ (.tmp 10) (.tmp 42) rfl (l' := [.pointer none, .int .i64 (k : Int), .int .i64 er]) r4 rfl rfl sizeRp rfl rfl ?_; intro w5 r5 g5 z5)
              | (go_at_call 24; refine (HPR.out _ HBW.out).mono ?_; rintro e w2 ⟨b2, hh⟩; (obtain rfl : e = .returned (.tuple #[.pointer none, .int .i64 (k : Int), .int .i64 er]) := hh.elim (fun ⟨l, bl, col, m, h1, _⟩ => by cases h1) (fun ⟨i, er', h1, h2, h3⟩ => by cases h1; exact h3)); have HB2 := Lib.hid (HBW.out.trans (b2.mono HBW.out.size)); clear b2 hh)
              | (go_at_call 25; refine (HRR.out _ HB2.out).mono ?_; rintro e w3 ⟨b3, hh⟩; (obtain rfl : e = .returned (.agg #[.pointer none, .int .i64 (k : Int), .int .i64 er]) := hh.elim (fun ⟨l, bl, col, m, h1, _⟩ => by cases h1) (fun ⟨i, er', h1, h2, h3⟩ => by cases h1; exact h3)); have HB3 := Lib.hid (HB2.out.trans (b3.mono HB2.out.size)); clear b3 hh)
              | (refine wpList_allocRow rfl _ rfl _ infoRp ?_; intro w4 r4 b4 z4))
            have HB5 : Hid (Below w.heap.size w w5) := Lib.hid ((HB3.out.trans (b4.mono HB3.out.size)).grown g5 (Nat.le_trans HB3.out.size b4.size) (fun j hj => by have := Option.some.inj hj; have := HB3.out.size; omega))
            have q1 : w5.cell? ⟨w3.heap.size, 1, none⟩ = some (.int .i64 (k : Int)) := r5.cell 1
            have q2 : w5.cell? ⟨w3.heap.size, 2, none⟩ = some (.int .i64 er) := r5.cell 2
            clear r4 r5 b4 g5 z4 z5
            go_wp2_with fail
            go_ret
            exact ⟨rfl, HB5.out⟩
        | inl l =>
          go_upto_region 11 with (first
            | (have hgd := r4; refine wpList_storeRow rfl _ (.tmp 10) (.tmp 42) rfl (l' := [.pointer (some ⟨bt, 0, none⟩), .int .i64 0, .int .i64 0]) r4 rfl rfl sizeRp rfl rfl ?_; intro w5 r5 g5 z5)
            | (go_at_call 24; refine (HPR.out _ HBW.out).mono ?_; rintro e w2 ⟨b2, hh⟩; (obtain ⟨bl, cl, ml, rfl, hl⟩ : ∃ bl cl ml, e = .returned (.tuple #[.pointer (some ⟨bl, 0, none⟩), .int .i64 0, .int .i64 0]) ∧ Hid (LAt w2 bl cl ml l ∧ Bil.Inv l BIG) := hh.elim (fun ⟨l', bl, col, m, h1, h2, h3, h4, h5⟩ => by cases h1; exact ⟨bl, col, m, h2, Lib.hid ⟨h3, h5⟩⟩) (fun ⟨i, er', h1, h2, h3⟩ => by cases h1)); have HB2 := Lib.hid (HBW.out.trans (b2.mono HBW.out.size)); clear b2 hh)
            | (go_at_call 25; refine (HRR.out _ HB2.out).mono ?_; rintro e w3 ⟨b3, hh⟩; (obtain ⟨bt, ct, mt, rfl, ht⟩ : ∃ bl cl ml, e = .returned (.agg #[.pointer (some ⟨bl, 0, none⟩), .int .i64 0, .int .i64 0]) ∧ Hid (RAt w3 bl cl ml l) := hh.elim (fun ⟨l', bl, col, m, h1, h2, h3, h4⟩ => by cases h1; exact ⟨bl, col, m, h2, Lib.hid h3⟩) (fun ⟨i, er', h1, h2, h3⟩ => by cases h1)); have HL3 := Lib.hid (hl.out.1.below b3); have HB3 := Lib.hid (HB2.out.trans (b3.mono HB2.out.size)); clear b3 hh)
            | (refine wpList_allocRow rfl _ rfl _ infoRp ?_; intro w4 r4 b4 z4))
          have HB5 : Hid (Below w.heap.size w w5) := Lib.hid ((HB3.out.trans (b4.mono HB3.out.size)).grown g5 (Nat.le_trans HB3.out.size b4.size) (fun j hj => by have := Option.some.inj hj; have := HB3.out.size; omega))
          have hk5 : Keep (fun q => q = w3.heap.size) w4 w5 := Keep.of_grown g5 fun k e => (Option.some.inj e).symm
          have HL5 := Lib.hid ((HL3.out.below b4).keeps hk5 (fun b e => by subst e; exact col_zero HL3.out (Nat.le_refl _)))
          have HT5 := Lib.hid ((ht.out.below b4).keeps hk5 (fun b e => by subst e; exact rat_zero ht.out (Nat.le_refl _)))
          have HAL := Lib.hid (alike_any bl cl ml bt ct mt l w5 HL5.out HT5.out hl.out.2.ok (inv_encR hl.out.2).1 (inv_encR hl.out.2).2 hl.out.2.ke)
          have q0 : w5.cell? ⟨w3.heap.size, 0, none⟩ = some (.pointer (some ⟨bt, 0, none⟩)) := r5.cell 0
          have q1 : w5.cell? ⟨w3.heap.size, 1, none⟩ = some (.int .i64 0) := r5.cell 1
          have q2 : w5.cell? ⟨w3.heap.size, 2, none⟩ = some (.int .i64 0) := r5.cell 2
          clear r4 r5 b4 g5 z4 z5 hk5
          go_wp2_with (go_at_call 22; refine HAL.out.mono ?_; rintro e w6 ⟨rfl, b6⟩)
          go_ret
          exact ⟨rfl, HB5.out.trans (b6.mono HB5.out.size)⟩
end Go.Proofs.YtkjomnakolhdcaaDoor
