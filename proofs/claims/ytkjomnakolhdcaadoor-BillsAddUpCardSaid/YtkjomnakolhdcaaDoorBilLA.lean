/- The walk of BillsAddUp: it returns true. Conditions: what the arguments are, the tables of SHA-256. -/
import Derived.Test.YtkjomnakolhdcaaDoorBilT
namespace Go.Proofs.YtkjomnakolhdcaaDoor
set_option linter.unusedVariables false
set_option linter.unusedSimpArgs false
open Go.RowKit
/-- between two bookings -/
def LoopA (w W : World) (bl gp N k : Nat) (P : Int) : Prop := ∃ col m l, LAt W bl col m l ∧ Bil.Inv l (1099511627776 * k) ∧ l.n = N ∧ (∀ b, col b ≠ 0 → w.heap.size ≤ b) ∧ col gp = 0 ∧ w.heap.size ≤ gp ∧ FRow W gp N (fun t => l.paid.getD t 0) ∧ Below w.heap.size w W ∧ P = (l.periods : Int)
theorem LoopA.fresh {w W W5 W6 : World} {bl gp N k : Nat} {P : Int} (h : LoopA w W bl gp N k P) (hb : Below W.heap.size W W5) (hg : W5.grownBy W6 (some W.heap.size)) : LoopA w W6 bl gp N k P := by
  obtain ⟨col, m, l, hl, hI, hln, hcw, hg0, hgw, hrow, hbel, hP⟩ := h
  have hz := hb.size
  have hzw := hbel.size
  have hb5 := hbel.trans (hb.mono hbel.size)
  have hrl := hrow.lt
  exact ⟨col, m, l, (hl.below hb).keeps (S := fun q => q = W.heap.size) (Keep.of_grown hg fun q e => (Option.some.inj e).symm) (fun q e => col_zero hl (Nat.le_of_eq (show q = W.heap.size from e).symm)), hI, hln, hcw, hg0, hgw, (hrow.below hb).keep (hg.block gp (by omega) (fun e => by have := Option.some.inj e; omega)), hb5.grown hg hb5.size (fun j hj => by have := Option.some.inj hj; omega), hP⟩
theorem LoopA.below {w W W' : World} {bl gp N k : Nat} {P : Int} (h : LoopA w W bl gp N k P) (hb : Below W.heap.size W W') : LoopA w W' bl gp N k P := by
  obtain ⟨col, m, l, hl, hI, hln, hcw, hg0, hgw, hrow, hbel, hP⟩ := h
  exact ⟨col, m, l, hl.below hb, hI, hln, hcw, hg0, hgw, hrow.below hb, hbel.trans (hb.mono hbel.size), hP⟩
theorem col_gp {col col' : Nat → Nat} {gp z : Nat} (hc : ∀ b, col' b ≠ 0 → col b ≠ 0 ∨ z ≤ b) (h0 : col gp = 0) (hlt : gp < z) : col' gp = 0 := by
  rcases Nat.eq_zero_or_pos (col' gp) with h | h
  · exact h
  · rcases hc gp (by omega) with h2 | h2
    · exact absurd h0 h2
    · omega
theorem col_new {col col' : Nat → Nat} {z b0 : Nat} (hc : ∀ b, col' b ≠ 0 → col b ≠ 0 ∨ z ≤ b) (hcw : ∀ b, col b ≠ 0 → b0 ≤ b) (hz : b0 ≤ z) : ∀ b, col' b ≠ 0 → b0 ≤ b := fun b hb => by
  rcases hc b hb with h | h
  · exact hcw b h
  · omega
theorem inv_k {l : Bil.Lg} {k : Nat} (h : Bil.Inv l (1099511627776 * (k : Int) + 1099511627776)) : Bil.Inv l (1099511627776 * ((k + 1 : Nat) : Int)) := by
  have e : (1099511627776 : Int) * (k : Int) + 1099511627776 = 1099511627776 * ((k + 1 : Nat) : Int) := by omega
  rwa [e] at h
theorem atOf_get {l : List Int} {N i : Nat} (hl : l.length = N) (hi : i < N) : Bil.atOf l (i : Int) = l.getD i 0 := by
  unfold Bil.atOf
  rw [if_neg (by omega), Int.toNat_natCast]
theorem BkOk.below {w W : World} {B : Nat} {y : BkM} (h : BkOk w B y) (hb : Below B w W) : BkOk W B y := ⟨h.a, h.b, h.c, h.len, h.rd.below hb⟩
theorem bk_far {w : World} {y : BkM} {col : Nat → Nat} {B : Nat} (h : BkOk w B y) (hc : ∀ b, col b ≠ 0 → B ≤ b) : 0 < y.n → ∀ a, y.A = some a → col a.block = 0 := fun h0 a ha => by
  obtain ⟨b, off, e, hb, _⟩ := h.rd.2 h0
  rw [e] at ha
  obtain rfl := Option.some.inj ha
  rcases Nat.eq_zero_or_pos (col b) with h1 | h1
  · exact h1
  · have := hc b (by omega); omega
theorem getD_paid_close {l : Bil.Lg} (hl : Bil.Ok l) {md hh : Int} {C : List Int} (h : Bil.CloseOk l md hh C) (hd : List UInt8) : (Bil.closeOf hd l md hh C).paid = List.zipWith (· + ·) l.paid (Bil.billOf l md hh C).nets := rfl
set_option maxRecDepth 100000 in
set_option maxHeartbeats 6400000 in
theorem lawAddUp (tn : Int) (t1 : -9223372036854775808 ≤ tn) (t2 : tn ≤ 9223372036854775807) (A : Option Addr) (n c : Nat) (L : List BkM) (hL : L.length = n) (hnc : n ≤ c) (hcc : c ≤ 140737488355328) (w : World) (hok : ∀ y ∈ L, BkOk w w.heap.size y) (rd : Rd w w.heap.size 5 A n (L.flatMap bkc)) (hT : Tabs w) :
    Calls Tryd.prog 3 #[.int .i64 tn, .slice A n c] w fun e w' => e = .returned (.bool true) ∧ Below w.heap.size w w' := by
  have HS := Lib.hid (sanity_any w hT (RG.of hT))
  have HF := Lib.hid (fun W (hW : Below w.heap.size w W) => few_any A n c L hL w.heap.size W (rd.below hW))
  by_cases hfew : fewB L = true
  · by_cases ht1 : tn < 1
    · rw [hfew] at HF
      clear hL hnc hcc hok rd hT hfew
      go_enter Tryd.func3, Tryd.ntmps3
      go_wp2_with (first
        | (go_at_call 9; refine HS.out.mono ?_; rintro e w1 ⟨rfl, b1⟩)
        | (go_at_call 10; refine (HF.out w1 b1).mono ?_; rintro e w2 ⟨rfl, hw2⟩; rw [hw2]; clear hw2 w2))
      go_ret
      exact ⟨rfl, b1⟩
    · by_cases ht2 : 16 < tn
      · rw [hfew] at HF
        clear hL hnc hcc hok rd hT hfew
        go_enter Tryd.func3, Tryd.ntmps3
        go_wp2_with (first
          | (go_at_call 9; refine HS.out.mono ?_; rintro e w1 ⟨rfl, b1⟩)
          | (go_at_call 10; refine (HF.out w1 b1).mono ?_; rintro e w2 ⟨rfl, hw2⟩; rw [hw2]; clear hw2 w2))
        go_ret
        exact ⟨rfl, b1⟩
      · obtain ⟨hn60, hy20⟩ := fewB_true hfew
        rw [hfew] at HF
        obtain ⟨N, rfl⟩ : ∃ N : Nat, tn = (N : Int) := ⟨tn.toNat, by omega⟩
        have hN1 : 1 ≤ N := by omega
        have hN2 : N ≤ 16 := by omega
        obtain ⟨M, hM, hmk⟩ := mkInts N (by omega)
        have HM := Lib.hid hM
        have HL := Lib.hid hL
        have HOK := Lib.hid hok
        have HRD := Lib.hid rd
        have HTT := Lib.hid hT
        have HY20 := Lib.hid hy20
        have HN := Lib.hid (And.intro hN1 hN2)
        have HNW := Lib.hid (fun W (hW : Below w.heap.size w W) => new_any N hN1 hN2 W (hT.below hW) ((RG.of hT).below hW))
        have hn60' : n ≤ 60 := by omega
        clear hL hnc hcc hok rd hT hfew hn60 hy20 hM hN1 hN2 t1 t2
        go_enter Tryd.func3, Tryd.ntmps3
        go_upto_region 8 with (first
          | (go_at_call 9; refine HS.out.mono ?_; rintro e w1 ⟨rfl, b1⟩)
          | (go_at_call 10; refine (HF.out w1 b1).mono ?_; rintro e w2 ⟨rfl, hw2⟩; rw [hw2]; clear hw2 w2)
          | (go_at_call 11; refine (HNW.out w1 b1).mono ?_; rintro e w2 ⟨bl, col, m, rfl, hl, hc, hb⟩; have HL2 := Lib.hid hl; have HC2 := Lib.hid hc; have HB2 := Lib.hid (b1.trans (hb.mono b1.size)); have HB1 := Lib.hid b1; clear hl hc hb b1))
        obtain ⟨w3, hw3⟩ : ∃ x, w2.alloc (.cells M 3) = x := ⟨_, rfl⟩
        rw [hw3]
        obtain ⟨f3, z3, b3⟩ := new_ints hw3 HM.out
        obtain ⟨gp, hgp⟩ : ∃ x, w2.heap.size = x := ⟨_, rfl⟩
        rw [hgp] at f3 ⊢
        have HL0 : Hid (LoopA w w3 bl gp N 0 0) := Lib.hid ⟨col, m, _, HL2.out.below b3, by simpa using Bil.inv_new N (newHead N) 0 (Int.le_refl _), rfl, fun b hb => by have := HC2.out b hb; have := HB1.out.size; omega, col_zero HL2.out (Nat.le_of_eq hgp), by have := HB2.out.size; omega, f3.congr fun t _ => Bil.rep_zero N t, HB2.out.trans (b3.mono HB2.out.size), rfl⟩
        clear hw3 f3 z3 b3 hgp hmk HM HL2 HC2 HB2 HB1 HNW HF HS
        go_wp2_with fail
        go_loopw [9, 10] (fun u9 u10 wr => ∃ (k : Nat) (P : Int), k ≤ n ∧ u9 = .int .i64 P ∧ u10 = .int .i64 k ∧ Hid (LoopA w wr bl gp N k P)) (fun _ u10 _ => n - (intOf u10).toNat)
        case atStart => exact ⟨0, 0, Nat.zero_le _, rfl, rfl, HL0⟩
        case round =>
          clear HL0
          obtain ⟨k, P, hk, rfl, rfl, HLO⟩ := hrel
          obtain ⟨col, m, l, hl, hI, hln, hcw, hg0, hgw, hrow, hbel, hP⟩ := HLO.out
          by_cases hlt : k < n
          · obtain ⟨bS, offS, rfl, hbS, hcS⟩ := rdF HRD.out HL.out (by omega)
            have hkl : k < L.length := by rw [HL.out]; exact hlt
            have hcy := hcS k hkl
            have hoky := HOK.out _ (List.getElem_mem hkl)
            have hy20 := HY20.out _ (List.getElem_mem hkl)
            obtain ⟨y, hy⟩ : ∃ y, L[k]'hkl = y := ⟨_, rfl⟩
            rw [hy] at hcy hoky hy20
            have hrg : wr.rangeAt bS (offS + k * 5) (bkc y) := fun j v hv => (hbel.cell (p := ⟨bS, offS + k * 5 + j, none⟩) hbS).trans (hcy j v hv)
            have hKb : (1099511627776 : Int) * k ≤ 1152921504606846976 := by omega
            have HDO := Lib.hid (do_any bl col m l y (by omega) w.heap.size wr (hoky.below hbel) hl hI.ok (Bil.sm_big hI.sm hKb) (HTT.out.below hbel) ((RG.of HTT.out).below hbel) hbel.size (bk_far hoky hcw))
            have HKD : Hid (w.cell? ⟨bS, offS + k * 5, none⟩ = some (.int .i64 y.x.kind)) := Lib.hid (hcy 0 _ rfl)
            have HBS := Lib.hid hbS
            have HST := Lib.hid (And.intro hl (And.intro hI (And.intro hln (And.intro hcw (And.intro hg0 (And.intro hgw (And.intro hrow (And.intro hbel hP))))))))
            have HINV := Lib.hid (Bil.inv_do hI y.x)
            have HSMP : Hid (∀ t : Nat, 0 ≤ l.paid.getD t 0 ∧ l.paid.getD t 0 ≤ 1152921504606846976) := Lib.hid (fun t => by have := hI.sm t; omega)
            have i0 : (0 : Int) ≤ (k : Int) := by omega
            have i1 : (k : Int) < (n : Int) := by omega
            obtain ⟨er, her⟩ : ∃ er, Bil.doErr l y.x = er := ⟨_, rfl⟩
            have HER := Lib.hid her
            obtain ⟨kd, hkd⟩ : ∃ kd, y.x.kind = kd := ⟨_, rfl⟩
            have HKK := Lib.hid hkd
            rw [hkd] at HKD
            clear hcS hcy hoky hy20 hy hl hI hln hcw hg0 hgw hrow hbel hP her hKb hkd
            by_cases hcl : er = 0 ∧ kd = 1
            · obtain ⟨rfl, rfl⟩ := hcl
              obtain ⟨hl, hI, hln, hcw, hg0, hgw, hrow, hbel, hP⟩ := HST.out
              obtain ⟨hco, hdo⟩ := Bil.closing HER.out HKK.out
              obtain ⟨ba1, ba2, ba3⟩ := Bil.bill_adds hI.ok hco
              have hpl := hI.ok.p
              have hCl : (Bil.billOf l y.x.a y.x.b y.x.ch).charges.length = N := hco.1.trans hln
              have hDl : (Bil.billOf l y.x.a y.x.b y.x.ch).credits.length = N := (Bil.used_len (by rw [hco.1, hpl])).trans hCl
              have hTl : (Bil.billOf l y.x.a y.x.b y.x.ch).nets.length = N := (Bil.net_len (by rw [hco.1, hpl])).trans hCl
              have hpe : (Bil.billOf l y.x.a y.x.b y.x.ch).period = P := hP.symm
              have hbm : (Bil.billOf l y.x.a y.x.b y.x.ch).media = y.x.a := rfl
              have hbC : (Bil.billOf l y.x.a y.x.b y.x.ch).charges = y.x.ch := rfl
              have hpaid : (Bil.doSt l y.x).paid = List.zipWith (· + ·) l.paid (Bil.billOf l y.x.a y.x.b y.x.ch).nets := by rw [hdo]; rfl
              have hpers : (Bil.doSt l y.x).periods = l.periods + 1 := by rw [hdo]; rfl
              have hmd := fits_range hco.2.1
              have hcf := Bil.charges_nonneg hco.2.2.2.1
              rw [hln] at ba3
              obtain ⟨bi, hbi⟩ : ∃ x, Bil.billOf l y.x.a y.x.b y.x.ch = x := ⟨_, rfl⟩
              rw [hbi] at ba1 ba2 ba3 hCl hDl hTl hpe hbm hbC hpaid
              rw [← hbm] at ba1 hmd
              rw [← hbC] at ba3 hcf
              have HBI := Lib.hid hbi
              have HBA := Lib.hid (And.intro ba1 (And.intro ba2 ba3))
              have HLN := Lib.hid (And.intro hCl (And.intro hDl hTl))
              have HPE := Lib.hid hpe
              have HPA := Lib.hid (And.intro hpaid hpers)
              have HRNG := Lib.hid (And.intro hmd hcf)
              have hper := hl.per
              have HPER : Hid (0 ≤ P ∧ P ≤ 65536) := Lib.hid (by omega)
              clear hl hI hln hcw hg0 hgw hrow hbel hP hco hdo ba1 ba2 ba3 hpl hCl hDl hTl hpe hbm hbC hpaid hpers hbi hmd hcf hper
              go_upto_region 13 with (first
                | (refine wpList_load_mid rfl _ (.tmp 52) rfl bS (offS + k * 5) rfl (bkc y) _ hrg Tryd.underlying35 rfl (by kernel_rfl) ?_)
                | (go_at_call 12; refine HDO.out.mono ?_; rintro e w4 ⟨v, col', m', rfl, h1, h2, hl', hk', hc'⟩; obtain ⟨A1, A2, A3, c1, c2, c3, hv, o1, o2, o3⟩ := h1 ⟨HER.out, HKK.out⟩; rw [HBI.out] at hv o1 o2 o3; rw [HPE.out, HLN.out.1, HLN.out.2.1, HLN.out.2.2] at hv; rw [HLN.out.1] at o1; rw [HLN.out.2.1] at o2; rw [HLN.out.2.2] at o3; subst hv; rw [HER.out]; have HL4 := Lib.hid (And.intro hl' (And.intro hk' hc')); have HO4 := Lib.hid (And.intro o1 (And.intro o2 o3)); clear h1 h2 hl' hk' hc' o1 o2 o3)
                | (refine wpList_allocRow rfl _ rfl _ info6 ?_; intro w5 r5 b5 z5)
                | (refine wpList_storeRow rfl _ (.tmp 11) (.tmp 55) rfl (l' := [.int .i64 P, .int .i64 bi.media, .int .i64 bi.house, .slice A1 N c1, .slice A2 N c2, .slice A3 N c3]) r5 rfl rfl size6 rfl rfl ?_; intro w6 r6 g6 z6))
              obtain ⟨hl4, hk4, hc4⟩ := HL4.out
              obtain ⟨hl, hI, hln, hcw, hg0, hgw, hrow, hbel, hP⟩ := HST.out
              have hN1 := HN.out.1
              obtain ⟨gC, rfl, hgC, FC⟩ := FRow.of_own HO4.out.1 (by omega)
              obtain ⟨gD, rfl, hgD, FD⟩ := FRow.of_own HO4.out.2.1 (by omega)
              obtain ⟨gT, rfl, hgT, FT⟩ := FRow.of_own HO4.out.2.2 (by omega)
              obtain ⟨b11, hb11⟩ : ∃ x, w4.heap.size = x := ⟨_, rfl⟩
              have hzr := hrow.lt
              have hz45 := b5.size
              have x6 : ∀ g, g < w4.heap.size → w6.heap[g]? = w4.heap[g]? := fun g hg => (g6.block g (by omega) (fun e => by have := Option.some.inj e; omega)).trans (b5.block g hg)
              have FC6 := FC.keep (x6 gC FC.lt)
              have FD6 := FD.keep (x6 gD FD.lt)
              have FT6 := FT.keep (x6 gT FT.lt)
              have hb4 : Below w.heap.size w w4 := keep_below hbel hk4 hcw
              have hb5 := hb4.trans (b5.mono hb4.size)
              have hb6 : Below w.heap.size w w6 := hb5.grown g6 hb5.size (fun j hj => by have := Option.some.inj hj; have := hb4.size; omega)
              have hl6 : LAt w6 bl col' m' (Bil.doSt l y.x) := (hl4.below b5).keeps (S := fun q => q = w4.heap.size) (Keep.of_grown g6 fun q e => (Option.some.inj e).symm) (fun q e => col_zero hl4 (Nat.le_of_eq (show q = w4.heap.size from e).symm))
              have hgz := col_gp hc4 hg0 hrow.lt
              have hz4 := hk4.size
              have hrow6 : FRow w6 gp N (fun t => l.paid.getD t 0) := (hrow.keeps hk4 (fun h => h hg0)).keep (x6 gp (by omega))
              have kd6 : w6.cell? ⟨bS, offS + k * 5, none⟩ = some (.int .i64 1) := (hb6.cell (p := ⟨bS, offS + k * 5, none⟩) HBS.out).trans HKD.out
              rw [hb11] at r6 ⊢
              have HFR := Lib.hid (And.intro FC6 (And.intro FD6 (And.intro FT6 (And.intro r6 hrow6))))
              have HGG : Hid (gC ≠ gp ∧ gD ≠ gp ∧ gT ≠ gp ∧ b11 ≠ gp) := Lib.hid (by omega)
              have HLX := Lib.hid (And.intro hl6 (And.intro hgz (And.intro (col_new hc4 hcw hbel.size) (And.intro hgw (And.intro hb6 (And.intro (inv_k HINV.out) (And.intro (by rw [Bil.n_do]; exact hln : (Bil.doSt l y.x).n = N) (And.intro hP (show l.paid.length = N from by rw [hl.lq, hln])))))))))
              have e0c : w6.cell? ⟨b11, 0, none⟩ = some (.int .i64 P) := r6.cell 0
              have e2c : w6.cell? ⟨b11, 2, none⟩ = some (.int .i64 bi.house) := r6.cell 2
              have c3' : w6.cell? ⟨b11, 3, none⟩ = some (.slice (some ⟨gC, 0, none⟩) N c1) := r6.cell 3
              have c4' : w6.cell? ⟨b11, 4, none⟩ = some (.slice (some ⟨gD, 0, none⟩) N c2) := r6.cell 4
              have c5' : w6.cell? ⟨b11, 5, none⟩ = some (.slice (some ⟨gT, 0, none⟩) N c3) := r6.cell 5
              obtain ⟨P1, hP1⟩ : ∃ x, P + 1 = x := ⟨_, rfl⟩
              have m1 : IntKind.i64.wrap (P + 1) = P1 := by rw [hP1]; have := HPER.out; exact IntWalk.i64_in _ (by omega)
              have HP1 := Lib.hid hP1
              clear hl4 hk4 hc4 hl hI hln hcw hg0 hgw hrow hbel hP hgC FC hgD FD hgT FT hb11 hzr hz45 x6 FC6 FD6 FT6 hb4 hb5 hb6 hl6 hgz hz4 hrow6 r5 r6 b5 g6 z5 z6 hP1 hN1 HL4 HO4 HST HINV HDO hrg
              go_wp2_with fail
              go_loopw [13, 14] (fun u13 u14 wr => ∃ i : Nat, i ≤ N ∧ u13 = .int .i64 (bi.house + sumK bi.nets i) ∧ u14 = .int .i64 i ∧ Hid (FRow wr gp N (fun t => (mixL (· + ·) l.paid bi.nets i).getD t 0)) ∧ Hid (Keep (fun q => q = gp) w6 wr)) (fun _ u14 _ => N - (intOf u14).toNat)
              case atStart => exact ⟨0, Nat.zero_le _, by simp [sumK], rfl, by rw [mixL_zero]; exact Lib.hid HFR.out.2.2.2.2, Lib.hid (Keep.refl _ _)⟩
              case round =>
                clear kd6 e0c e2c c3' c4' c5' m1
                obtain ⟨i, hi, rfl, rfl, HF1, HK1⟩ := hrel
                obtain ⟨wx, hwx⟩ : ∃ x, wr = x := ⟨_, rfl⟩
                rw [hwx] at HF1 HK1 ⊢
                clear hwx
                obtain ⟨FC6, FD6, FT6, r6, _⟩ := HFR.out
                obtain ⟨gg1, gg2, gg3, gg4⟩ := HGG.out
                have rX := keeps_row r6 HK1.out (show ¬ b11 = gp from gg4)
                have hTn := HLN.out.2.2
                have hqn := HLX.out.2.2.2.2.2.2.2.2
                have hba := HBA.out
                by_cases hlt3 : i < N
                · have cC := (FC6.keeps HK1.out (show ¬ gC = gp from gg1)).cell i hlt3
                  have cD := (FD6.keeps HK1.out (show ¬ gD = gp from gg2)).cell i hlt3
                  have cT := (FT6.keeps HK1.out (show ¬ gT = gp from gg3)).cell i hlt3
                  have cP := HF1.out.cell i hlt3
                  have fP := HF1.out.free i hlt3
                  rw [mixL_get _ _ _ _ (by omega) (by omega)] at cP
                  have c3' : wx.cell? ⟨b11, 3, none⟩ = some (.slice (some ⟨gC, 0, none⟩) N c1) := rX.cell 3
                  have c4' : wx.cell? ⟨b11, 4, none⟩ = some (.slice (some ⟨gD, 0, none⟩) N c2) := rX.cell 4
                  have c5' : wx.cell? ⟨b11, 5, none⟩ = some (.slice (some ⟨gT, 0, none⟩) N c3) := rX.cell 5
                  have h3 := hba.2.2 i hlt3
                  have hcf := HRNG.out.2 i
                  have hmd := HRNG.out.1
                  have hsm : 0 ≤ l.paid.getD i 0 ∧ l.paid.getD i 0 ≤ 1152921504606846976 := HSMP.out i
                  have hsk : 0 ≤ sumK bi.nets i ∧ sumK bi.nets i ≤ 1099511627776 * i := by
                    refine sumK_bound bi.nets i (by omega) (fun j hj => ?_)
                    have h4 := hba.2.2 j (by omega)
                    have h5 := HRNG.out.2 j
                    unfold Bil.fits; rw [decide_eq_true_iff]; omega
                  have hhs : bi.house ≤ 1099511627776 := by
                    have h6 : 0 ≤ bi.nets.sum := by
                      have := (sumK_bound bi.nets N (by omega) (fun j hj => by
                        have h4 := hba.2.2 j hj
                        have h5 := HRNG.out.2 j
                        unfold Bil.fits; rw [decide_eq_true_iff]; omega)).1
                      unfold sumK at this; rwa [List.take_of_length_le (by omega)] at this
                    have := hba.1; omega
                  have hstep := sumK_step bi.nets i (by omega)
                  have hmx := mixL_step (· + ·) l.paid bi.nets i (by omega) (by omega)
                  obtain ⟨t0, ht0⟩ : ∃ x, bi.nets.getD i 0 = x := ⟨_, rfl⟩
                  obtain ⟨d0, hd0⟩ : ∃ x, bi.credits.getD i 0 = x := ⟨_, rfl⟩
                  obtain ⟨x0, hx0⟩ : ∃ x, bi.charges.getD i 0 = x := ⟨_, rfl⟩
                  obtain ⟨q0, hq0⟩ : ∃ x, l.paid.getD i 0 = x := ⟨_, rfl⟩
                  rw [ht0] at cT h3 hstep hmx
                  rw [hd0] at cD h3
                  rw [hx0] at cC h3 hcf
                  rw [hq0] at cP hsm hmx
                  obtain ⟨s0, hs0⟩ : ∃ x, bi.house + sumK bi.nets i = x := ⟨_, rfl⟩
                  rw [hs0]
                  obtain ⟨st, hst⟩ : ∃ x, s0 + t0 = x := ⟨_, rfl⟩
                  obtain ⟨qt, hqt⟩ : ∃ x, q0 + t0 = x := ⟨_, rfl⟩
                  have hN16 : N ≤ 16 := HN.out.2
                  have m1 : IntKind.i64.wrap (x0 - d0) = t0 := by rw [← h3.1]; exact IntWalk.i64_in _ (by omega)
                  have m2 : IntKind.i64.wrap (s0 + t0) = st := by rw [hst]; exact IntWalk.i64_in _ (by omega)
                  have m3 : IntKind.i64.wrap (q0 + t0) = qt := by rw [hqt]; exact IntWalk.i64_in _ (by omega)
                  have n1 : ¬ t0 < 0 := by omega
                  have n2 : ¬ d0 < 0 := by omega
                  have i0 : (0 : Int) ≤ (i : Int) := by omega
                  have i1 : (i : Int) < (N : Int) := by omega
                  have HSS := Lib.hid (show bi.house + sumK bi.nets (i + 1) = st by omega)
                  have hmx : (mixL (· + ·) l.paid bi.nets i).set i qt = mixL (· + ·) l.paid bi.nets (i + 1) := by rw [← hqt]; exact hmx
                  have HMX := Lib.hid hmx
                  have HLL : Hid ((mixL (· + ·) l.paid bi.nets i).length = N) := Lib.hid (by rw [mixL_len _ _ _ _ (by omega) (by omega)]; exact hqn)
                  clear FC6 FD6 FT6 r6 gg1 gg2 gg3 gg4 rX hTn hqn hba h3 hcf hmd hsm hsk hhs hstep hmx ht0 hd0 hx0 hq0 hs0 hst hqt
                  go_wp2_with fail
                  go_quiet (fail)
                  go_upto_region 24 with fail
                  obtain ⟨wy, hwy⟩ : ∃ x, wx.drewN nq = x := ⟨_, rfl⟩
                  have hby : Below wx.heap.size wx wy := by rw [← hwy]; exact below_drewN (Below.refl _ _) _
                  rw [hwy]
                  have cT := (hby.cell (p := ⟨gT, i, none⟩) (by have := HFR.out.2.2.1.lt; have := HK1.out.size; show gT < _; omega)).trans cT
                  have c5' := (hby.cell (p := ⟨b11, 5, none⟩) (by have := HFR.out.2.2.2.1.lt; have := HK1.out.size; show b11 < _; omega)).trans c5'
                  have cP := (hby.cell (p := ⟨gp, i, none⟩) HF1.out.lt).trans cP
                  have fP := (hby.frozen (p := ⟨gp, i, none⟩) HF1.out.lt).trans fP
                  have HF2 := Lib.hid (HF1.out.below hby)
                  have HK2 := Lib.hid (HK1.out.then_below hby)
                  clear hwy hby HF1 HK1
                  go_wp2_with fail
                  have HG2 : Hid (b11 < wy.heap.size ∧ gT < wy.heap.size) := Lib.hid (by have h1 := HFR.out.2.2.1.lt; have h2 := HFR.out.2.2.2.1.lt; have := HK2.out.size; omega)
                  have hv0 : Below wy.heap.size wy wy.drew := (Below.refl _ _).drew
                  refine wp_region_late (fun W => Below wy.heap.size wy W) [13] (by kernel_rfl) (hv0) (fun hHeld => ?_)
                  obtain ⟨wd, hwd⟩ : ∃ x, wy.drew = x := ⟨_, rfl⟩
                  rw [hwd] at hv0 hHeld ⊢
                  clear hwd
                  refine wpAnyL_take (i := 0) (oi := { dst := some 141, op := Op.move (Operand.tmp 8), type := 29, pos := "law.go:132", after := #[], guard := none }) (v := ?v0_2401) rfl (by kernel_rfl) (by kernel_rfl) (by kernel_rfl) (by kernel_rfl) (fun _ _ _ h => h) (Or.inl ⟨by rfl, ?h0_2401⟩) (by assumption) ?r0_2401
                  case h0_2401 =>
                    intro W hSW
                    try dsimp only at hSW
                    go_simp
                    try with_reducible rfl
                  try simp only [Act.put, List.setIfInBounds_toArray, List.set_cons_zero, List.set_cons_succ]
                  refine wpAnyL_take (i := 1) (oi := { dst := some 142, op := Op.move (Operand.tmp 14), type := 3, pos := "law.go:132", after := #[], guard := none }) (v := ?v1_2402) rfl (by kernel_rfl) (by kernel_rfl) (by kernel_rfl) (by kernel_rfl) (fun _ _ _ h => h) (Or.inl ⟨by rfl, ?h1_2402⟩) (by assumption) ?r1_2402
                  case h1_2402 =>
                    intro W hSW
                    try dsimp only at hSW
                    go_simp
                    try with_reducible rfl
                  try simp only [Act.put, List.setIfInBounds_toArray, List.set_cons_zero, List.set_cons_succ]
                  refine wpAnyL_take (i := 2) (oi := { dst := some 143, op := Op.move (Operand.tmp 8), type := 29, pos := "law.go:132", after := #[], guard := none }) (v := ?v2_2403) rfl (by kernel_rfl) (by kernel_rfl) (by kernel_rfl) (by kernel_rfl) (fun _ _ _ h => h) (Or.inl ⟨by rfl, ?h2_2403⟩) (by assumption) ?r2_2403
                  case h2_2403 =>
                    intro W hSW
                    try dsimp only at hSW
                    go_simp
                    try with_reducible rfl
                  try simp only [Act.put, List.setIfInBounds_toArray, List.set_cons_zero, List.set_cons_succ]
                  refine wpAnyL_take (i := 3) (oi := { dst := some 144, op := Op.move (Operand.tmp 14), type := 3, pos := "law.go:132", after := #[], guard := none }) (v := ?v3_2404) rfl (by kernel_rfl) (by kernel_rfl) (by kernel_rfl) (by kernel_rfl) (fun _ _ _ h => h) (Or.inl ⟨by rfl, ?h3_2404⟩) (by assumption) ?r3_2404
                  case h3_2404 =>
                    intro W hSW
                    try dsimp only at hSW
                    go_simp
                    try with_reducible rfl
                  try simp only [Act.put, List.setIfInBounds_toArray, List.set_cons_zero, List.set_cons_succ]
                  refine wpAnyL_take (i := 4) (oi := { dst := some 145, op := Op.indexAddr 29 (Operand.tmp 143) (Operand.tmp 144), type := 0, pos := "law.go:132", after := #[{ on := 2, ground := Ground.data }, { on := 3, ground := Ground.data }], guard := none }) (v := ?v4_2405) rfl (by kernel_rfl) (by kernel_rfl) (by kernel_rfl) (by kernel_rfl) (fun _ _ _ h => h) (Or.inl ⟨by rfl, ?h4_2405⟩) (by assumption) ?r4_2405
                  case h4_2405 =>
                    intro W hSW
                    try dsimp only at hSW
                    go_simp
                    try with_reducible rfl
                  try simp only [Act.put, List.setIfInBounds_toArray, List.set_cons_zero, List.set_cons_succ]
                  refine wpAnyL_take (i := 5) (oi := { dst := some 146, op := Op.load 3 (Operand.tmp 145), type := 3, pos := "law.go:132", after := #[{ on := 4, ground := Ground.data }], guard := none }) (v := ?v5_2406) rfl (by kernel_rfl) (by kernel_rfl) (by kernel_rfl) (by kernel_rfl) (fun _ _ _ h => h) (Or.inl ⟨by rfl, ?h5_2406⟩) (by assumption) ?r5_2406
                  case h5_2406 =>
                    intro W hSW
                    try dsimp only at hSW
                    have hcc := (hSW.cell (p := ⟨gp, i, none⟩) HF2.out.lt).trans cP
                    go_simp
                    try with_reducible rfl
                  try simp only [Act.put, List.setIfInBounds_toArray, List.set_cons_zero, List.set_cons_succ]
                  refine wpAnyL_take (i := 6) (oi := { dst := some 147, op := Op.fieldAddr 31 (Operand.tmp 11) 5, type := 0, pos := "law.go:132", after := #[], guard := none }) (v := ?v6_2407) rfl (by kernel_rfl) (by kernel_rfl) (by kernel_rfl) (by kernel_rfl) (fun _ _ _ h => h) (Or.inl ⟨by rfl, ?h6_2407⟩) (by assumption) ?r6_2407
                  case h6_2407 =>
                    intro W hSW
                    try dsimp only at hSW
                    go_simp
                    try with_reducible rfl
                  try simp only [Act.put, List.setIfInBounds_toArray, List.set_cons_zero, List.set_cons_succ]
                  refine wpAnyL_take (i := 7) (oi := { dst := some 148, op := Op.load 29 (Operand.tmp 147), type := 29, pos := "law.go:132", after := #[{ on := 6, ground := Ground.data }], guard := none }) (v := ?v7_2408) rfl (by kernel_rfl) (by kernel_rfl) (by kernel_rfl) (by kernel_rfl) (fun _ _ _ h => h) (Or.inl ⟨by rfl, ?h7_2408⟩) (by assumption) ?r7_2408
                  case h7_2408 =>
                    intro W hSW
                    try dsimp only at hSW
                    have hcc := (hSW.cell (p := ⟨b11, 5, none⟩) HG2.out.1).trans c5'
                    go_simp
                    try with_reducible rfl
                  try simp only [Act.put, List.setIfInBounds_toArray, List.set_cons_zero, List.set_cons_succ]
                  refine wpAnyL_take (i := 8) (oi := { dst := some 149, op := Op.move (Operand.tmp 14), type := 3, pos := "law.go:132", after := #[], guard := none }) (v := ?v8_2409) rfl (by kernel_rfl) (by kernel_rfl) (by kernel_rfl) (by kernel_rfl) (fun _ _ _ h => h) (Or.inl ⟨by rfl, ?h8_2409⟩) (by assumption) ?r8_2409
                  case h8_2409 =>
                    intro W hSW
                    try dsimp only at hSW
                    go_simp
                    try with_reducible rfl
                  try simp only [Act.put, List.setIfInBounds_toArray, List.set_cons_zero, List.set_cons_succ]
                  refine wpAnyL_take (i := 9) (oi := { dst := some 150, op := Op.indexAddr 29 (Operand.tmp 148) (Operand.tmp 149), type := 0, pos := "law.go:132", after := #[{ on := 7, ground := Ground.data }, { on := 8, ground := Ground.data }], guard := none }) (v := ?v9_2410) rfl (by kernel_rfl) (by kernel_rfl) (by kernel_rfl) (by kernel_rfl) (fun _ _ _ h => h) (Or.inl ⟨by rfl, ?h9_2410⟩) (by assumption) ?r9_2410
                  case h9_2410 =>
                    intro W hSW
                    try dsimp only at hSW
                    go_simp
                    try with_reducible rfl
                  try simp only [Act.put, List.setIfInBounds_toArray, List.set_cons_zero, List.set_cons_succ]
                  refine wpAnyL_take (i := 10) (oi := { dst := some 151, op := Op.load 3 (Operand.tmp 150), type := 3, pos := "law.go:132", after := #[{ on := 9, ground := Ground.data }], guard := none }) (v := ?v10_2411) rfl (by kernel_rfl) (by kernel_rfl) (by kernel_rfl) (by kernel_rfl) (fun _ _ _ h => h) (Or.inl ⟨by rfl, ?h10_2411⟩) (by assumption) ?r10_2411
                  case h10_2411 =>
                    intro W hSW
                    try dsimp only at hSW
                    have hcc := (hSW.cell (p := ⟨gT, i, none⟩) HG2.out.2).trans cT
                    go_simp
                    try with_reducible rfl
                  try simp only [Act.put, List.setIfInBounds_toArray, List.set_cons_zero, List.set_cons_succ]
                  refine wpAnyL_take (i := 11) (oi := { dst := some 152, op := Op.binOp BinOp.add 3 (Operand.tmp 146) (Operand.tmp 151) 3, type := 3, pos := "law.go:132", after := #[{ on := 5, ground := Ground.data }, { on := 10, ground := Ground.data }], guard := none }) (v := ?v11_2412) rfl (by kernel_rfl) (by kernel_rfl) (by kernel_rfl) (by kernel_rfl) (fun _ _ _ h => h) (Or.inl ⟨by rfl, ?h11_2412⟩) (by assumption) ?r11_2412
                  case h11_2412 =>
                    intro W hSW
                    try dsimp only at hSW
                    go_simp
                    try with_reducible rfl
                  try simp only [Act.put, List.setIfInBounds_toArray, List.set_cons_zero, List.set_cons_succ]
                  refine wpAnyL_take (i := 12) (oi := { dst := some 153, op := Op.indexAddr 29 (Operand.tmp 141) (Operand.tmp 142), type := 0, pos := "law.go:132", after := #[{ on := 0, ground := Ground.data }, { on := 1, ground := Ground.data }, { on := 0, ground := Ground.phase }, { on := 1, ground := Ground.phase }, { on := 2, ground := Ground.phase }, { on := 3, ground := Ground.phase }, { on := 4, ground := Ground.phase }, { on := 5, ground := Ground.phase }, { on := 6, ground := Ground.phase }, { on := 7, ground := Ground.phase }, { on := 8, ground := Ground.phase }, { on := 9, ground := Ground.phase }, { on := 10, ground := Ground.phase }, { on := 11, ground := Ground.phase }], guard := none }) (v := ?v12_2413) rfl (by kernel_rfl) (by kernel_rfl) (by kernel_rfl) (by kernel_rfl) (fun _ _ _ h => h) (Or.inl ⟨by rfl, ?h12_2413⟩) (by assumption) ?r12_2413
                  case h12_2413 =>
                    intro W hSW
                    try dsimp only at hSW
                    go_simp
                    try with_reducible rfl
                  try simp only [Act.put, List.setIfInBounds_toArray, List.set_cons_zero, List.set_cons_succ]
                  refine wpAnyL_ready (rs := [13]) (by kernel_rfl) (by simp) ?_
                  refine AllReadyL.late (o := { dst := none, op := Op.store 3 (Operand.tmp 153) (Operand.tmp 152), type := 0, pos := "law.go:132", after := #[{ on := 12, ground := Ground.data }, { on := 11, ground := Ground.data }, { on := 0, ground := Ground.phase }, { on := 1, ground := Ground.phase }, { on := 2, ground := Ground.phase }, { on := 3, ground := Ground.phase }, { on := 4, ground := Ground.phase }, { on := 5, ground := Ground.phase }, { on := 6, ground := Ground.phase }, { on := 7, ground := Ground.phase }, { on := 8, ground := Ground.phase }, { on := 9, ground := Ground.phase }, { on := 10, ground := Ground.phase }, { on := 11, ground := Ground.phase }], guard := none }) rfl (by rfl) (fun K hK => ?_) AllReadyL.nil
                  rw [if_pos (by rfl)]
                  have hk1 := (hv0.cell (p := ⟨gp, i, none⟩) HF2.out.lt).trans cP
                  have hf1 := (hv0.frozen (p := ⟨gp, i, none⟩) HF2.out.lt).trans fP
                  go_simp
                  obtain ⟨w700, hw700⟩ : ∃ x, wd.setCell ⟨gp, i, none⟩ (.int .i64 qt) = x := ⟨_, rfl⟩
                  rw [hw700]
                  have HF3 : Hid (FRow w700 gp N (fun t => (mixL (· + ·) l.paid bi.nets (i + 1)).getD t 0)) := Lib.hid (by rw [← hw700]; exact ((HF2.out.below hv0).set hlt3 qt).congr fun t ht => by rw [← HMX.out]; exact set_getD _ _ _ (by rw [HLL.out]; exact hlt3) t)
                  have HK3 : Hid (Keep (fun q => q = gp) w6 w700) := Lib.hid (by rw [← hw700]; exact Keep.setCell (S := fun q => q = gp) (a := ⟨gp, i, none⟩) (HK2.out.then_below hv0) (.inl rfl) _)
                  have hv700 := HF3
                  clear hw700 hk1 hf1
                  refine hK.out _ _ ?_
                  clear hK K
                  try simp only [Act.put, List.setIfInBounds_toArray, List.set_cons_zero, List.set_cons_succ]
                  refine wpAnyL_done (by kernel_rfl) ?_ _
                  go_wp2_with fail
                  go_roundw
                  case rel => exact ⟨i + 1, by omega, by rw [HSS.out], by go_num, HF3, HK3⟩
                  case measure => simp [intOf]; omega
                · obtain rfl : i = N := by omega
                  have c1' : wx.cell? ⟨b11, 1, none⟩ = some (.int .i64 bi.media) := rX.cell 1
                  have c2' : wx.cell? ⟨b11, 2, none⟩ = some (.int .i64 bi.house) := rX.cell 2
                  have hsum : bi.house + sumK bi.nets i = bi.media := by unfold sumK; rw [List.take_of_length_le (by omega)]; exact hba.1
                  rw [hsum]
                  have n1 : ¬ bi.house < 0 := by have := hba.2.1; omega
                  obtain ⟨hl6, hgz, hcw, hgw, hb6, hiv, hnn, hPl, hql⟩ := HLX.out
                  have hkb := HK1.out
                  have HNX : Hid (LoopA w wx bl gp i (k + 1) P1) := Lib.hid ⟨col', m', Bil.doSt l y.x, hl6.keeps hkb (fun b e => by have e : b = gp := e; rw [e]; exact hgz), hiv, hnn, hcw, hgz, hgw, by rw [HPA.out.1, ← mixL_full (· + ·) l.paid bi.nets (by omega) i hql.symm]; exact HF1.out, keep_below hb6 hkb (fun b e => by have e : b = gp := e; omega), by rw [HPA.out.2]; have := HP1.out; omega⟩
                  clear FC6 FD6 FT6 r6 gg1 gg2 gg3 gg4 rX hTn hqn hba hsum hl6 hgz hcw hgw hb6 hiv hnn hPl hql hkb HF1 HK1
                  go_wp2_with fail
                  go_roundw
                  case rel => exact ⟨k + 1, P1, by omega, rfl, by go_num, HNX⟩
                  case measure => simp [intOf]; omega
            · have HNC := Lib.hid hcl
              go_upto_region 13 with (first
                | (refine wpList_load_mid rfl _ (.tmp 52) rfl bS (offS + k * 5) rfl (bkc y) _ hrg Tryd.underlying35 rfl (by kernel_rfl) ?_)
                | (go_at_call 12; refine HDO.out.mono ?_; rintro e w4 ⟨v, col', m', rfl, h1, h2, hl', hk', hc'⟩; rw [h2 (by rw [HER.out, HKK.out]; exact HNC.out), HER.out]; have HL4 := Lib.hid (And.intro hl' (And.intro hk' hc')); clear h1 h2 hl' hk' hc')
                | (refine wpList_allocRow rfl _ rfl _ info6 ?_; intro w5 r5 b5 z5)
                | (refine wpList_storeRow rfl _ (.tmp 11) (.tmp 55) rfl (l' := Z6) r5 rfl rfl size6 rfl rfl ?_; intro w6 r6 g6 z6))
              obtain ⟨hl4, hk4, hc4⟩ := HL4.out
              obtain ⟨hl, hI, hln, hcw, hg0, hgw, hrow, hbel, hP⟩ := HST.out
              have hb4 : Below w.heap.size w w4 := keep_below hbel hk4 hcw
              obtain ⟨e1, e2⟩ := Bil.not_closing (l := l) (x := y.x) (by rw [HER.out, HKK.out]; exact HNC.out)
              have HN4 : LoopA w w4 bl gp N (k + 1) P := ⟨col', m', Bil.doSt l y.x, hl4, inv_k HINV.out, by rw [Bil.n_do]; exact hln, col_new hc4 hcw hbel.size, col_gp hc4 hg0 hrow.lt, hgw, by rw [e1]; exact hrow.keeps hk4 (fun h => h hg0), hb4, by rw [e2]; exact hP⟩
              have HN6 := Lib.hid (HN4.fresh b5 g6)
              have hb5 := hb4.trans (b5.mono hb4.size)
              have hb6 : Below w.heap.size w w6 := hb5.grown g6 hb5.size (fun j hj => by have := Option.some.inj hj; have := hb4.size; omega)
              have kd6 : w6.cell? ⟨bS, offS + k * 5, none⟩ = some (.int .i64 kd) := (hb6.cell (p := ⟨bS, offS + k * 5, none⟩) HBS.out).trans HKD.out
              clear hl4 hk4 hc4 hl hI hln hcw hg0 hgw hrow hbel hP hb4 hb5 hb6 e1 e2 HN4 r5 r6 b5 g6 z5 z6 HL4 HST HINV HDO hrg
              by_cases h0 : er = 0
              · subst h0
                have hne : ¬ kd = 1 := fun e => hcl ⟨rfl, e⟩
                have hne2 : (kd == 1) = false := by rw [beq_eq_false_iff_ne]; exact hne
                clear hcl
                go_wp2_with fail
                go_roundw
                case rel => exact ⟨k + 1, P, by omega, rfl, by go_num, HN6⟩
                case measure => simp [intOf]; omega
              · have h02 : (er == 0) = false := by rw [beq_eq_false_iff_ne]; exact h0
                clear hcl
                go_wp2_with fail
                go_roundw
                case rel => exact ⟨k + 1, P, by omega, rfl, by go_num, HN6⟩
                case measure => simp [intOf]; omega
          · obtain rfl : k = n := by omega
            go_wp2_with fail
            go_loopw [15] (fun u15 wx => ∃ i : Nat, i ≤ N ∧ u15 = .int .i64 i ∧ Hid (LoopA w wx bl gp N k P)) (fun u15 _ => N - (intOf u15).toNat)
            case atStart => exact ⟨0, Nat.zero_le _, rfl, HLO⟩
            case round =>
              obtain ⟨wx, hwx⟩ : ∃ x, wr = x := ⟨_, rfl⟩
              rw [hwx] at hrel ⊢
              clear hwx
              obtain ⟨i, hi, rfl, HLX⟩ := hrel
              clear hl hI hln hcw hg0 hgw hrow hbel hP
              obtain ⟨col, m, l, hl, hI, hln, hcw, hg0, hgw, hrow, hbel, hP⟩ := HLX.out
              have hper := hl.per
              have HPR := Lib.hid (fun W (hW : Below wx.heap.size wx W) => periods_any bl col m l W (hl.below hW))
              rw [← hP] at HPR
              have HBE := Lib.hid hbel
              by_cases hlt2 : i < N
              · have HPD := Lib.hid (fun W (hW : Below wx.heap.size wx W) => paid_any bl col m l W (hl.below hW) i)
                rw [atOf_get (hl.lq.trans hln) hlt2] at HPD
                obtain ⟨q, hq⟩ : ∃ q, l.paid.getD i 0 = q := ⟨_, rfl⟩
                have hcp := hrow.cell i hlt2
                rw [hq] at hcp HPD
                have HCP := Lib.hid hcp
                have HGL : Hid (gp < wx.heap.size) := Lib.hid hrow.lt
                have i0 : (0 : Int) ≤ (i : Int) := by omega
                have i1 : (i : Int) < (N : Int) := by omega
                have hN16 : N ≤ 16 := HN.out.2
                clear hl hI hln hcw hg0 hgw hrow hbel hP hq hcp hper
                go_wp2_with fail
                have hv0 : Below wx.heap.size wx wx.drew := (Below.refl _ _).drew
                refine wp_region_held_drew (S := fun W => Below wx.heap.size wx W) (by kernel_rfl) (hv0) (fun hHeld => ?_)
                obtain ⟨wd, hwd⟩ : ∃ x, wx.drew = x := ⟨_, rfl⟩
                rw [hwd] at hv0 hHeld ⊢
                clear hwd
                refine wpAnyH_take (i := 0) (oi := { dst := some 168, op := Op.move (Operand.tmp 6), type := 25, pos := "law.go:139", after := #[], guard := none }) (v := ?v0_3001) rfl (by kernel_rfl) (by kernel_rfl) (by kernel_rfl) (fun _ _ _ h => h) (Or.inl ⟨by rfl, ?h0_3001⟩) (by assumption) ?r0_3001
                case h0_3001 =>
                  intro W hSW
                  try dsimp only at hSW
                  go_simp
                  try with_reducible rfl
                try simp only [Act.put, List.setIfInBounds_toArray, List.set_cons_zero, List.set_cons_succ]
                refine wpAnyH_take (i := 1) (oi := { dst := some 169, op := Op.move (Operand.tmp 15), type := 3, pos := "law.go:139", after := #[], guard := none }) (v := ?v1_3002) rfl (by kernel_rfl) (by kernel_rfl) (by kernel_rfl) (fun _ _ _ h => h) (Or.inl ⟨by rfl, ?h1_3002⟩) (by assumption) ?r1_3002
                case h1_3002 =>
                  intro W hSW
                  try dsimp only at hSW
                  go_simp
                  try with_reducible rfl
                try simp only [Act.put, List.setIfInBounds_toArray, List.set_cons_zero, List.set_cons_succ]
                refine wpAnyH_take (i := 3) (oi := { dst := some 171, op := Op.move (Operand.tmp 8), type := 29, pos := "law.go:139", after := #[], guard := none }) (v := ?v3_3003) rfl (by kernel_rfl) (by kernel_rfl) (by kernel_rfl) (fun _ _ _ h => h) (Or.inl ⟨by rfl, ?h3_3003⟩) (by assumption) ?r3_3003
                case h3_3003 =>
                  intro W hSW
                  try dsimp only at hSW
                  go_simp
                  try with_reducible rfl
                try simp only [Act.put, List.setIfInBounds_toArray, List.set_cons_zero, List.set_cons_succ]
                refine wpAnyH_take (i := 4) (oi := { dst := some 172, op := Op.move (Operand.tmp 15), type := 3, pos := "law.go:139", after := #[], guard := none }) (v := ?v4_3004) rfl (by kernel_rfl) (by kernel_rfl) (by kernel_rfl) (fun _ _ _ h => h) (Or.inl ⟨by rfl, ?h4_3004⟩) (by assumption) ?r4_3004
                case h4_3004 =>
                  intro W hSW
                  try dsimp only at hSW
                  go_simp
                  try with_reducible rfl
                try simp only [Act.put, List.setIfInBounds_toArray, List.set_cons_zero, List.set_cons_succ]
                refine wpAnyH_take (i := 5) (oi := { dst := some 173, op := Op.indexAddr 29 (Operand.tmp 171) (Operand.tmp 172), type := 0, pos := "law.go:139", after := #[{ on := 3, ground := Ground.data }, { on := 4, ground := Ground.data }], guard := none }) (v := ?v5_3005) rfl (by kernel_rfl) (by kernel_rfl) (by kernel_rfl) (fun _ _ _ h => h) (Or.inl ⟨by rfl, ?h5_3005⟩) (by assumption) ?r5_3005
                case h5_3005 =>
                  intro W hSW
                  try dsimp only at hSW
                  go_simp
                  try with_reducible rfl
                try simp only [Act.put, List.setIfInBounds_toArray, List.set_cons_zero, List.set_cons_succ]
                refine wpAnyH_take (i := 6) (oi := { dst := some 174, op := Op.load 3 (Operand.tmp 173), type := 3, pos := "law.go:139", after := #[{ on := 5, ground := Ground.data }], guard := none }) (v := ?v6_3006) rfl (by kernel_rfl) (by kernel_rfl) (by kernel_rfl) (fun _ _ _ h => h) (Or.inl ⟨by rfl, ?h6_3006⟩) (by assumption) ?r6_3006
                case h6_3006 =>
                  intro W hSW
                  try dsimp only at hSW
                  have hcc := (hSW.cell (p := ⟨gp, i, none⟩) HGL.out).trans HCP.out
                  go_simp
                  try with_reducible rfl
                try simp only [Act.put, List.setIfInBounds_toArray, List.set_cons_zero, List.set_cons_succ]
                refine wpAnyH_ready (rs := [2]) (by kernel_rfl) (by simp) ?_
                refine AllReadyH.cons (o := { dst := some 170, op := Op.call { callee := Callee.value (Operand.func 13), args := #[Operand.tmp 168, Operand.tmp 169], argTypes := #[25, 3] }, type := 3, pos := "law.go:139", after := #[{ on := 0, ground := Ground.data }, { on := 1, ground := Ground.data }], guard := none }) rfl (fun K hK => ?_) AllReadyH.nil
                go_simp
                refine (HPD.out _ hv0).mono ?_
                rintro e w300 ⟨rfl, hw300⟩
                have hv300 : Below wx.heap.size wx w300 := by rw [hw300]; exact hv0
                clear hw300
                refine hK.out _ _ (hv300) (fun hHeld => ?_)
                clear hK K
                try simp only [Act.put, List.setIfInBounds_toArray, List.set_cons_zero, List.set_cons_succ]
                refine wpAnyH_take (i := 7) (oi := { dst := some 175, op := Op.binOp BinOp.neq 3 (Operand.tmp 170) (Operand.tmp 174) 3, type := 4, pos := "law.go:139", after := #[{ on := 2, ground := Ground.data }, { on := 6, ground := Ground.data }], guard := none }) (v := ?v7_3007) rfl (by kernel_rfl) (by kernel_rfl) (by kernel_rfl) (fun _ _ _ h => h) (Or.inl ⟨by rfl, ?h7_3007⟩) (by assumption) ?r7_3007
                case h7_3007 =>
                  intro W hSW
                  try dsimp only at hSW
                  go_simp
                  try with_reducible rfl
                try simp only [Act.put, List.setIfInBounds_toArray, List.set_cons_zero, List.set_cons_succ]
                refine wpAnyH_done (by kernel_rfl) ?_ _
                have HLF := Lib.hid (HLX.out.below hv300)
                clear hv300
                go_wp2_with fail
                go_roundw
                case rel => exact ⟨i + 1, by omega, by go_num, HLF⟩
                case measure => simp [intOf]; omega
              · obtain rfl : i = N := by omega
                clear hl hI hln hcw hg0 hgw hrow hbel hP hper
                go_wp2_with (go_at_call 14; refine (HPR.out _ (Below.refl _ _)).mono ?_; rintro e w9 ⟨rfl, hw9⟩; rw [hw9]; clear hw9 w9)
                go_ret
                exact ⟨rfl, HBE.out⟩
  · have hf : fewB L = false := by simpa using hfew
    rw [hf] at HF
    clear hL hnc hcc hok rd hT hfew hf
    go_enter Tryd.func3, Tryd.ntmps3
    go_wp2_with (first
      | (go_at_call 9; refine HS.out.mono ?_; rintro e w1 ⟨rfl, b1⟩)
      | (go_at_call 10; refine (HF.out w1 b1).mono ?_; rintro e w2 ⟨rfl, hw2⟩; rw [hw2]; clear hw2 w2))
    go_ret
    exact ⟨rfl, b1⟩
end Go.Proofs.YtkjomnakolhdcaaDoor
