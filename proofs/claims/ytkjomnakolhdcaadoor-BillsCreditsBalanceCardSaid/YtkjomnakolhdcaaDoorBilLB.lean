/- The walk of BillsCreditsBalance: it returns true. Conditions: what the arguments are, the tables of SHA-256. -/
import Derived.Test.YtkjomnakolhdcaaDoorBilCB
namespace Go.Proofs.YtkjomnakolhdcaaDoor
set_option linter.unusedVariables false
set_option linter.unusedSimpArgs false
open Go.RowKit
theorem atOfB {l : List Int} {N i : Nat} (hl : l.length = N) (hi : i < N) : Bil.atOf l (i : Int) = l.getD i 0 := by
  unfold Bil.atOf
  rw [if_neg (by omega), Int.toNat_natCast]
theorem BkOk.belowB {w W : World} {B : Nat} {y : BkM} (h : BkOk w B y) (hb : Below B w W) : BkOk W B y := ⟨h.a, h.b, h.c, h.len, h.rd.below hb⟩
theorem bkB_far {w : World} {y : BkM} {col : Nat → Nat} {B : Nat} (h : BkOk w B y) (hc : ∀ b, col b ≠ 0 → B ≤ b) : 0 < y.n → ∀ a, y.A = some a → col a.block = 0 := fun h0 a ha => by
  obtain ⟨b, off, e, hb, _⟩ := h.rd.2 h0
  rw [e] at ha
  obtain rfl := Option.some.inj ha
  rcases Nat.eq_zero_or_pos (col b) with h1 | h1
  · exact h1
  · have := hc b (by omega); omega
theorem infoB : (Tryd.prog.info? 35).map (fun i => (i.zero, i.size)) = some (some (.agg [.int .i64 0, .int .i64 0, .int .i64 0, .int .i64 0, .slice none 0 0].toArray), [Value.int .i64 0, .int .i64 0, .int .i64 0, .int .i64 0, .slice none 0 0].length) := by kernel_rfl
theorem intsT : ElemT Tryd.prog 39 29 (.slice none 0 0) 1 24 := ⟨Tryd.underlying39, by kernel_rfl, rfl, by decide, by decide⟩
theorem invB {l : Bil.Lg} {k : Nat} (h : Bil.Inv l (1099511627776 * (k : Int) + 1099511627776)) : Bil.Inv l (1099511627776 * ((k + 1 : Nat) : Int)) := by
  have e : (1099511627776 : Int) * (k : Int) + 1099511627776 = 1099511627776 * ((k + 1 : Nat) : Int) := by omega
  rwa [e] at h
/-- between two bookings, the places left open -/
def LoopB (w W : World) (bl gG gU N k base : Nat) (A : Option Addr) (nA cA : Nat) : Prop := ∃ Ls col m l G U, nA = Ls.length ∧ CB w W bl gG gU N k A cA Ls base col m l G U
theorem LoopB.drewN {w W : World} {bl gG gU N k base nA cA : Nat} {A : Option Addr} (h : LoopB w W bl gG gU N k base A nA cA) (q : Nat) : LoopB w (W.drewN q) bl gG gU N k base A nA cA := by
  obtain ⟨Ls, col, m, l, G, U, e, hc⟩ := h
  exact ⟨Ls, col, m, l, G, U, e, hc.below (below_drewN (Below.refl _ _) _)⟩
set_option maxRecDepth 100000 in
set_option maxHeartbeats 6400000 in
theorem lawBalance (tn : Int) (t1 : -9223372036854775808 ≤ tn) (t2 : tn ≤ 9223372036854775807) (A : Option Addr) (n c : Nat) (L : List BkM) (hL : L.length = n) (hnc : n ≤ c) (hcc : c ≤ 140737488355328) (w : World) (hok : ∀ y ∈ L, BkOk w w.heap.size y) (rd : Rd w w.heap.size 5 A n (L.flatMap bkc)) (hT : Tabs w) :
    Calls Tryd.prog 4 #[.int .i64 tn, .slice A n c] w fun e w' => e = .returned (.bool true) ∧ Below w.heap.size w w' := by
  have HS := Lib.hid (sanity_any w hT (RG.of hT))
  have HF := Lib.hid (fun W (hW : Below w.heap.size w W) => few_any A n c L hL w.heap.size W (rd.below hW))
  by_cases hfew : fewB L = true
  · by_cases ht1 : tn < 1
    · rw [hfew] at HF
      clear hL hnc hcc hok rd hT hfew
      go_enter Tryd.func4, Tryd.ntmps4
      go_wp2_with (first
        | (go_at_call 9; refine HS.out.mono ?_; rintro e w1 ⟨rfl, b1⟩)
        | (go_at_call 10; refine (HF.out w1 b1).mono ?_; rintro e w2 ⟨rfl, hw2⟩; rw [hw2]; clear hw2 w2))
      go_ret
      exact ⟨rfl, b1⟩
    · by_cases ht2 : 16 < tn
      · rw [hfew] at HF
        clear hL hnc hcc hok rd hT hfew
        go_enter Tryd.func4, Tryd.ntmps4
        go_wp2_with (first
          | (go_at_call 9; refine HS.out.mono ?_; rintro e w1 ⟨rfl, b1⟩)
          | (go_at_call 10; refine (HF.out w1 b1).mono ?_; rintro e w2 ⟨rfl, hw2⟩; rw [hw2]; clear hw2 w2))
        go_ret
        exact ⟨rfl, b1⟩
      · obtain ⟨hn60, hy20⟩ := fewB_true hfew
        rw [hfew] at HF
        obtain ⟨N, rfl⟩ : ∃ N : Nat, tn = (N : Int) := ⟨tn.toNat, by omega⟩
        have hN1 : 1 ≤ N := by omega
        have hN2 : N ≤ 16 := by omega
        obtain ⟨M, hM, hmk⟩ := mkInts N (by omega)
        have HM := Lib.hid hM
        have HL := Lib.hid hL
        have HOK := Lib.hid hok
        have HRD := Lib.hid rd
        have HTT := Lib.hid hT
        have HY20 := Lib.hid hy20
        have HN := Lib.hid (And.intro hN1 hN2)
        have HNW := Lib.hid (fun W (hW : Below w.heap.size w W) => new_any N hN1 hN2 W (hT.below hW) ((RG.of hT).below hW))
        have hn60' : n ≤ 60 := by omega
        clear hL hnc hcc hok rd hT hfew hn60 hy20 hM hN1 hN2 t1 t2
        go_enter Tryd.func4, Tryd.ntmps4
        go_upto_region 8 with (first
          | (go_at_call 9; refine HS.out.mono ?_; rintro e w1 ⟨rfl, b1⟩)
          | (go_at_call 10; refine (HF.out w1 b1).mono ?_; rintro e w2 ⟨rfl, hw2⟩; rw [hw2]; clear hw2 w2)
          | (go_at_call 11; refine (HNW.out w1 b1).mono ?_; rintro e w2 ⟨bl, col, m, rfl, hl, hc, hb⟩; have HL2 := Lib.hid hl; have HC2 := Lib.hid hc; have HB2 := Lib.hid (b1.trans (hb.mono b1.size)); have HB1 := Lib.hid b1; clear hl hc hb b1))
        obtain ⟨w3, hw3⟩ : ∃ x, w2.alloc (.cells M 3) = x := ⟨_, rfl⟩
        rw [hw3]
        obtain ⟨f3, z3, b3⟩ := new_ints hw3 HM.out
        obtain ⟨gG, hgG⟩ : ∃ x, w2.heap.size = x := ⟨_, rfl⟩
        rw [hgG] at f3 z3 ⊢
        have HZ3 := Lib.hid z3
        clear hw3 z3
        go_upto_region 9 with fail
        obtain ⟨w4, hw4⟩ : ∃ x, w3.alloc (.cells M 3) = x := ⟨_, rfl⟩
        rw [hw4]
        obtain ⟨f4, z4, b4⟩ := new_ints hw4 HM.out
        obtain ⟨gU, hgU⟩ : ∃ x, w3.heap.size = x := ⟨_, rfl⟩
        rw [hgU] at f4 z4 ⊢
        have z3 := HZ3.out
        have hb3 := HB2.out.trans (b3.mono HB2.out.size)
        have HL0 : Hid (LoopB w w4 bl gG gU N 0 w4.heap.size none 0 0) := Lib.hid ⟨[], col, m, _, List.replicate N 0, List.replicate N 0, rfl, (HL2.out.below b3).below b4, by simpa using Bil.inv_new N (newHead N) 0 (Int.le_refl _), rfl, fun b hb => by have := HC2.out b hb; have := HB1.out.size; omega, col_zero HL2.out (Nat.le_of_eq hgG), col_zero HL2.out (by omega), by have := HB2.out.size; omega, by omega, by omega, (f3.below b4).congr fun t _ => Bil.rep_zero N t, f4.congr fun t _ => Bil.rep_zero N t, by simp, by simp, World.ownsRow_nil _ _ _ _, fun a ha => (by cases ha), fun x hx => (by cases hx), fun i j hi => (by cases hi), fun x hx => (by cases hx), Bil.left_new N _, fun t ht => by
          show (List.replicate N (0 : Int)).getD t 0 = (List.replicate N (0 : Int)).getD t 0 + (List.replicate N (0 : Int)).getD t 0 ∧ 0 ≤ (List.replicate N (0 : Int)).getD t 0 ∧ (List.replicate N (0 : Int)).getD t 0 ≤ _
          rw [Bil.rep_zero]; omega, hb3.trans (b4.mono hb3.size)⟩
        obtain ⟨base, hbase⟩ : ∃ x, w4.heap.size = x := ⟨_, rfl⟩
        rw [hbase] at HL0
        have HBS0 : Hid (base ≤ w4.heap.size) := Lib.hid (Nat.le_of_eq hbase.symm)
        clear hw4 f3 z3 b3 f4 z4 b4 hb3 hgG hgU hbase hmk HM HL2 HC2 HB2 HB1 HNW HF HS
        go_wp2_with fail
        go_loopw [10, 11] (fun u10 u11 wr => ∃ (k nA cA : Nat) (Al : Option Addr), k ≤ n ∧ u10 = .slice Al nA cA ∧ u11 = .int .i64 k ∧ Hid (LoopB w wr bl gG gU N k base Al nA cA) ∧ Hid (base ≤ wr.heap.size)) (fun _ u11 _ => n - (intOf u11).toNat)
        case atStart => exact ⟨0, 0, 0, none, Nat.zero_le _, rfl, rfl, HL0, HBS0⟩
        case round =>
          clear HL0 HBS0
          obtain ⟨k, nA, cA, Al, hk, rfl, rfl, HLO, HBS⟩ := hrel
          obtain ⟨Ls, col, m, l, G, U, hnA, hcb⟩ := HLO.out
          by_cases hlt : k < n
          · obtain ⟨bS, offS, rfl, hbS, hcS⟩ := rdF HRD.out HL.out (by omega)
            have hkl : k < L.length := by rw [HL.out]; exact hlt
            have hcy := hcS k hkl
            have hoky := HOK.out _ (List.getElem_mem hkl)
            have hy20 := HY20.out _ (List.getElem_mem hkl)
            obtain ⟨y, hy⟩ : ∃ y, L[k]'hkl = y := ⟨_, rfl⟩
            rw [hy] at hcy hoky hy20
            have hrg : wr.rangeAt bS (offS + k * 5) (bkc y) := fun j v hv => (hcb.bel.cell (p := ⟨bS, offS + k * 5 + j, none⟩) hbS).trans (hcy j v hv)
            have hKb : (1099511627776 : Int) * k ≤ 1152921504606846976 := by omega
            have HDO := Lib.hid (fun (W : World) (hcW : CB w W bl gG gU N k Al cA Ls base col m l G U) => do_any bl col m l y (by omega) w.heap.size W (hoky.belowB hcW.bel) hcW.lat hcW.inv.ok (Bil.sm_big hcW.inv.sm hKb) (HTT.out.below hcW.bel) ((RG.of HTT.out).below hcW.bel) hcW.bel.size (bkB_far hoky hcW.cw))
            have HYI := Lib.hid (And.intro hoky.a (And.intro hoky.b hoky.c))
            have HCB := Lib.hid hcb
            have HNA := Lib.hid hnA
            have HINV := Lib.hid (Bil.inv_do hcb.inv y.x)
            have i0 : (0 : Int) ≤ (k : Int) := by omega
            have i1 : (k : Int) < (n : Int) := by omega
            obtain ⟨er, her⟩ : ∃ er, Bil.doErr l y.x = er := ⟨_, rfl⟩
            have HER := Lib.hid her
            clear hcS hcy hoky hy20 hy her hKb hcb hnA
            go_upto_region 14 with (first
              | (refine wpList_load_mid rfl _ (.tmp 53) rfl bS (offS + k * 5) rfl (bkc y) _ hrg Tryd.underlying35 rfl (by kernel_rfl) ?_)
              | (refine wpList_allocRow rfl _ rfl _ infoB ?_; intro w5 r5 b5 z5)
              | (refine wpList_storeRow rfl _ (.tmp 12) (.tmp 54) rfl (l' := bkc y) r5 rfl rfl size5 rfl rfl ?_; intro w6 r6 g6 z6))
            obtain ⟨b12, hb12⟩ : ∃ x, wr.heap.size = x := ⟨_, rfl⟩
            have hk6 : Keep (fun q => wr.heap.size ≤ q) wr w6 := (Keep.of_below b5).grown g6 fun q e => .inr (by have := Option.some.inj e; omega)
            have hcb6 := HCB.out.fresh hk6
            have HBS6 : Hid (base ≤ w6.heap.size) := Lib.hid (Nat.le_trans HBS.out hk6.size)
            have HCB6 := Lib.hid hcb6
            rw [hb12] at r6 ⊢
            have HR6 := Lib.hid r6
            have hz12 : col b12 = 0 := col_zero HCB.out.lat (Nat.le_of_eq hb12)
            have HZ12 := Lib.hid hz12
            have H12 : Hid (w.heap.size ≤ b12 ∧ gU < b12 ∧ (∀ x ∈ Ls, x.g ≠ b12) ∧ ∀ a, Al = some a → a.block ≠ b12) := Lib.hid ⟨by have := HCB.out.bel.size; omega, by have := HCB.out.fU.lt; omega, fun x hx => by have := (HCB.out.fl x hx).1.lt; omega, fun a ha => by have := (HCB.out.cA0 a ha).2.2; omega⟩
            clear hb12 hk6 hcb6 hz12 r5 r6 b5 g6 z5 z6 hrg HCB HBS
            have q6 := HR6.out
            by_cases h0 : er = 0
            · subst h0
              obtain rfl := HNA.out
              by_cases hk1 : y.x.kind = 1
              · obtain ⟨hco, hdo⟩ := Bil.closing HER.out hk1
                have hcb := HCB6.out
                obtain ⟨_, _, ba3⟩ := Bil.bill_adds hcb.inv.ok hco
                have hpl := hcb.inv.ok.p
                have hCl : (Bil.billOf l y.x.a y.x.b y.x.ch).charges.length = N := hco.1.trans hcb.n
                have hDl : (Bil.billOf l y.x.a y.x.b y.x.ch).credits.length = N := (Bil.used_len (by rw [hco.1, hpl])).trans hCl
                have hTl : (Bil.billOf l y.x.a y.x.b y.x.ch).nets.length = N := (Bil.net_len (by rw [hco.1, hpl])).trans hCl
                have hbC : (Bil.billOf l y.x.a y.x.b y.x.ch).charges = y.x.ch := rfl
                have hlc := Bil.left_close hcb.inv.ok hcb.left hco (bookHead l.head ⟨(encClose y.x.a y.x.b y.x.ch).toArray⟩)
                have hpc := fun (t : Nat) (ht : t < l.n) => Bil.pending_close hcb.inv.ok hco (bookHead l.head ⟨(encClose y.x.a y.x.b y.x.ch).toArray⟩) ht
                rw [← hdo] at hlc hpc
                have hcf := Bil.charges_nonneg hco.2.2.2.1
                rw [hcb.n] at ba3 hpc
                obtain ⟨bi, hbi⟩ : ∃ x, Bil.billOf l y.x.a y.x.b y.x.ch = x := ⟨_, rfl⟩
                rw [hbi] at ba3 hCl hDl hTl hbC hpc
                rw [← hbC] at ba3 hcf hlc
                have HBI := Lib.hid hbi
                have HBA := Lib.hid ba3
                have HCF := Lib.hid hcf
                have HLN := Lib.hid (And.intro hCl (And.intro hDl hTl))
                have HLC := Lib.hid hlc
                have HPC := Lib.hid hpc
                have HKK := Lib.hid hk1
                have hLl : Ls.length ≤ 70000 := by have := hcb.left.1; have := hcb.lat.per; simp at *; omega
                have HLLN := Lib.hid hLl
                clear hco hdo hcb ba3 hpl hCl hDl hTl hbC hlc hpc hcf hbi hk1
                go_upto_region 15 with (first
                  | (refine wpList_loadS rfl _ (.tmp 12) rfl q6 rfl Tryd.underlying35 size5 ?_)
                  | (go_at_call 12; refine (HDO.out w6 HCB6.out).mono ?_; rintro e w7 ⟨v, col', m', rfl, h1, h2, hl', hk', hc'⟩; obtain ⟨A1, A2, A3, c1, c2, c3, hv, o1, o2, o3⟩ := h1 ⟨HER.out, HKK.out⟩; rw [HBI.out] at hv o1 o2 o3; rw [HLN.out.1, HLN.out.2.1, HLN.out.2.2] at hv; rw [HLN.out.1] at o1; rw [HLN.out.2.1] at o2; subst hv; rw [HER.out]; have HL7 := Lib.hid (And.intro hl' (And.intro hk' hc')); have HO7 := Lib.hid (And.intro o1 o2); clear h1 h2 hl' hk' hc' o1 o2 o3)
                  | (refine wpList_allocRow rfl _ rfl _ info6 ?_; intro w8 r8 b8 z8)
                  | (refine wpList_storeRow rfl _ (.tmp 13) (.tmp 59) rfl (l' := [.int .i64 bi.period, .int .i64 bi.media, .int .i64 bi.house, .slice A1 N c1, .slice A2 N c2, .slice A3 N c3]) r8 rfl rfl size6 rfl rfl ?_; intro w9 r9 g9 z9))
                have hcm7 := HCB6.out.mem HBS6.out HL7.out.1 HL7.out.2.1 HL7.out.2.2
                have hN1 : 0 < N := HN.out.1
                obtain ⟨gC, rfl, hgC, FC⟩ := FRow.of_own HO7.out.1 hN1
                obtain ⟨gD, rfl, hgD, FD⟩ := FRow.of_own HO7.out.2 hN1
                obtain ⟨b13, hb13⟩ : ∃ x, w7.heap.size = x := ⟨_, rfl⟩
                have hk9 : Keep (fun q => w7.heap.size ≤ q) w7 w9 := (Keep.of_below b8).grown g9 fun q e => .inr (by have := Option.some.inj e; omega)
                have HCM9 := Lib.hid (hcm7.fresh hk9)
                have HLA9 : Hid (LAt w9 bl col' m' (Bil.doSt l y.x)) := Lib.hid (HL7.out.1.keeps hk9 fun b hb => col_zero HL7.out.1 hb)
                have q7 := keeps_row q6 HL7.out.2.1 (fun h => h HZ12.out)
                have q9 := keeps_row q7 hk9 (fun h => by have := q7.lt; omega)
                have FC9 := FC.keeps hk9 (fun h => by have := FC.lt; omega)
                have FD9 := FD.keeps hk9 (fun h => by have := FD.lt; omega)
                have HBS9 : Hid (base ≤ w9.heap.size) := Lib.hid (Nat.le_trans HBS6.out (Nat.le_trans HL7.out.2.1.size hk9.size))
                rw [hb13] at r9 ⊢
                have HR9 := Lib.hid r9
                have HFC := Lib.hid FC9
                have HFD := Lib.hid FD9
                have hz79 := hk9.size
                have HAB : Hid (∀ a, Al = some a → a.block ≠ b13 ∧ a.block ≠ gD) := Lib.hid (fun a ha => by
                  have h1 := (HCB6.out.cA0 a ha).2.2
                  have h2 := HL7.out.2.1.size
                  omega)
                have HGU : Hid (b13 ≠ gU ∧ gD ≠ gU) := Lib.hid (by have h1 := HCB6.out.fU.lt; have h2 := HL7.out.2.1.size; omega)
                have kd9 : w9.cell? ⟨b12, 0, none⟩ = some (.int .i64 1) := by rw [← HKK.out]; exact q9.cell 0
                have HRC := Lib.hid (HFC.out.rd HLN.out.1)
                have k13 : (w9.alloc (.cells #[] 3)).cell? ⟨b13, 3, none⟩ = some (.slice (some ⟨gC, 0, none⟩) N c1) := (World.cell?_alloc_lt w9 _ ⟨b13, 3, none⟩ r9.lt).trans (r9.cell 3)
                have k13' : w9.cell? ⟨b13, 3, none⟩ = some (.slice (some ⟨gC, 0, none⟩) N c1) := r9.cell 3
                have l13 : b13 < w9.heap.size := r9.lt
                have hN16 : N ≤ 16 := HN.out.2
                have HN1 := Lib.hid hN1
                clear hcm7 hN1 hgC FC hgD FD hb13 hk9 q7 q9 FC9 FD9 hz79 r8 r9 b8 g9 z8 z9 q6 HR6 HO7
                go_upto_region 18 with (first
                  | (at_builtin; refine wpList_appR rfl (.tmp 67) (.tmp 69) 29 rfl w9.heap.size 3 _ 1 8 bintT (some ⟨w9.heap.size, 0, none⟩) 0 0 [] (some ⟨gC, 0, none⟩) N c1 (ivs bi.charges) rfl rfl (own_zero w9 _ 1 _ (Nat.le_refl _)) (HRC.out.alloc (Nat.le_refl _) _) (ivs_one _) ((Below.refl _ _).alloc (Nat.le_refl _) _) (by omega) (Nat.le_refl _) (by simp) ?_; intro A10 c10 w10 own10 hb10; simp only [Nat.zero_add, List.nil_append] at own10; obtain ⟨gn, rfl, hgn, Fn⟩ := FRow.of_own own10 HN1.out; have HFN := Lib.hid (And.intro hgn Fn); have HB10 := Lib.hid hb10; clear own10 hgn Fn hb10)
                  | (at_builtin; refine wpList_app1 rfl (.tmp 66) (.tmp 71) 39 rfl base 29 _ 24 intsT Al Ls.length cA (Ls.map (lfc N)) (lfc N ⟨gn, c10, bi.charges⟩) rfl rfl (HCM9.out.below HB10.out).own (Below.refl 0 _) rfl (by omega) (Nat.zero_le _) (Nat.le_trans HBS9.out HB10.out.size) ?_; intro g11 c11 w11 own11 hb11 hg11; have HO11 := Lib.hid (And.intro own11 hg11); clear own11 hb11 hg11))
                have hcm10 := HCM9.out.below HB10.out
                have hcm11 := hcm10.push (x := ⟨gn, c10, bi.charges⟩) HO11.out.1 HO11.out.2.1 HO11.out.2.2 HFN.out.2 HLN.out.1 (Nat.le_trans HBS9.out HFN.out.1) (by
                  rcases Nat.eq_zero_or_pos (col' gn) with h | h
                  · exact h
                  · have := HCM9.out.cl gn (by omega); have := HFN.out.1; omega) (fun x hx e => by have := (HCM9.out.fl x hx).1.lt; have := HFN.out.1; simp only at e; omega) (fun a ha e => by have := (HCM9.out.cA0 a ha).2.2; have := HFN.out.1; simp only at e; omega)
                have hk11 : Keep (fun q => ∃ a, Al = some a ∧ a.block = q) w10 w11 := Keep.of_grown HO11.out.2.1 fun q e => by
                  cases Al with
                  | none => cases e
                  | some a => exact ⟨a, rfl, Option.some.inj e⟩
                have HLA11 := Lib.hid ((HLA9.out.below HB10.out).keeps hk11 (fun b ⟨a, ha, e⟩ => e ▸ (HCM9.out.cA0 a ha).1))
                have HR11 := Lib.hid (keeps_row (HR9.out.below' HB10.out) hk11 (fun ⟨a, ha, e⟩ => (HAB.out a ha).1 e))
                have HFD11 := Lib.hid ((HFD.out.below HB10.out).keeps hk11 (fun ⟨a, ha, e⟩ => (HAB.out a ha).2 e))
                have HCM11 := Lib.hid hcm11
                clear hcm10 hcm11 hk11 k13 k13' l13 kd9
                go_wp2_with fail
                go_loopw [15] (fun u15 wr => ∃ q : Nat, q ≤ N ∧ u15 = .int .i64 q ∧ Hid (CM w wr gG gU N (some ⟨g11, 0, none⟩) c11 (Ls ++ [⟨gn, c10, bi.charges⟩]) base col' G (mixL (· + ·) U bi.credits q)) ∧ Hid (Keep (fun b => b = gU) w11 wr)) (fun u15 _ => N - (intOf u15).toNat)
                case atStart => exact ⟨0, Nat.zero_le _, rfl, by rw [mixL_zero]; exact HCM11, Lib.hid (Keep.refl _ _)⟩
                case round =>
                  obtain ⟨wx, hwx⟩ : ∃ x, wr = x := ⟨_, rfl⟩
                  rw [hwx] at hrel ⊢
                  clear hwx
                  obtain ⟨q, hq, rfl, HCX, HKX⟩ := hrel
                  by_cases hlt3 : q < N
                  · have kU := HCX.out.fU.cell q hlt3
                    have fU := HCX.out.fU.free q hlt3
                    have hUl : U.length = N := HCM11.out.lU.symm ▸ rfl
                    have hdl := HLN.out.2.1
                    rw [mixL_get _ _ _ _ (by omega) (by omega)] at kU
                    have kD := (HFD11.out.keeps HKX.out (show ¬ gD = gU from HGU.out.2)).cell q hlt3
                    have r13 := keeps_row HR11.out HKX.out (show ¬ b13 = gU from HGU.out.1)
                    have k4 : wx.cell? ⟨b13, 4, none⟩ = some (.slice (some ⟨gD, 0, none⟩) N c2) := r13.cell 4
                    have hbal := HCB6.out.bal q hlt3
                    have hb3 := HBA.out q hlt3
                    have hcf := HCF.out q
                    have hmx := mixL_step (· + ·) U bi.credits q (by omega) (by omega)
                    obtain ⟨uq, huq⟩ : ∃ x, U.getD q 0 = x := ⟨_, rfl⟩
                    obtain ⟨dq, hdq⟩ : ∃ x, bi.credits.getD q 0 = x := ⟨_, rfl⟩
                    rw [huq] at kU hbal hmx
                    rw [hdq] at kD hb3 hmx
                    obtain ⟨nu, hnu⟩ : ∃ x, uq + dq = x := ⟨_, rfl⟩
                    have hmx : (mixL (· + ·) U bi.credits q).set q nu = mixL (· + ·) U bi.credits (q + 1) := by rw [← hnu]; exact hmx
                    have mU : IntKind.i64.wrap (uq + dq) = nu := by rw [hnu]; exact IntWalk.i64_in _ (by omega)
                    have HKU := Lib.hid (And.intro kU (And.intro fU (And.intro kD (And.intro k4 (And.intro r13.lt (show gD < wx.heap.size from Nat.lt_of_lt_of_le HFD11.out.lt HKX.out.size))))))
                    have HMX := Lib.hid hmx
                    have i2 : (0 : Int) ≤ (q : Int) := by omega
                    have i3 : (q : Int) < (N : Int) := by omega
                    clear kU fU hUl hdl kD r13 k4 hbal hb3 hcf hmx huq hdq hnu
                    go_wp2_with fail
                    have hv0 : Below wx.heap.size wx wx.drew := (Below.refl _ _).drew
                    refine wp_region_late (fun W => Below wx.heap.size wx W) [13] (by kernel_rfl) (hv0) (fun hHeld => ?_)
                    obtain ⟨wd, hwd⟩ : ∃ x, wx.drew = x := ⟨_, rfl⟩
                    rw [hwd] at hv0 hHeld ⊢
                    clear hwd
                    refine wpAnyL_take (i := 0) (oi := { dst := some 78, op := Op.move (Operand.tmp 9), type := 29, pos := "law.go:168", after := #[], guard := none }) (v := ?v0_2101) rfl (by kernel_rfl) (by kernel_rfl) (by kernel_rfl) (by kernel_rfl) (fun _ _ _ h => h) (Or.inl ⟨by rfl, ?h0_2101⟩) (by assumption) ?r0_2101
                    case h0_2101 =>
                      intro W hSW
                      try dsimp only at hSW
                      go_simp
                      try with_reducible rfl
                    try simp only [Act.put, List.setIfInBounds_toArray, List.set_cons_zero, List.set_cons_succ]
                    refine wpAnyL_take (i := 1) (oi := { dst := some 79, op := Op.move (Operand.tmp 15), type := 3, pos := "law.go:168", after := #[], guard := none }) (v := ?v1_2102) rfl (by kernel_rfl) (by kernel_rfl) (by kernel_rfl) (by kernel_rfl) (fun _ _ _ h => h) (Or.inl ⟨by rfl, ?h1_2102⟩) (by assumption) ?r1_2102
                    case h1_2102 =>
                      intro W hSW
                      try dsimp only at hSW
                      go_simp
                      try with_reducible rfl
                    try simp only [Act.put, List.setIfInBounds_toArray, List.set_cons_zero, List.set_cons_succ]
                    refine wpAnyL_take (i := 2) (oi := { dst := some 80, op := Op.move (Operand.tmp 9), type := 29, pos := "law.go:168", after := #[], guard := none }) (v := ?v2_2103) rfl (by kernel_rfl) (by kernel_rfl) (by kernel_rfl) (by kernel_rfl) (fun _ _ _ h => h) (Or.inl ⟨by rfl, ?h2_2103⟩) (by assumption) ?r2_2103
                    case h2_2103 =>
                      intro W hSW
                      try dsimp only at hSW
                      go_simp
                      try with_reducible rfl
                    try simp only [Act.put, List.setIfInBounds_toArray, List.set_cons_zero, List.set_cons_succ]
                    refine wpAnyL_take (i := 3) (oi := { dst := some 81, op := Op.move (Operand.tmp 15), type := 3, pos := "law.go:168", after := #[], guard := none }) (v := ?v3_2104) rfl (by kernel_rfl) (by kernel_rfl) (by kernel_rfl) (by kernel_rfl) (fun _ _ _ h => h) (Or.inl ⟨by rfl, ?h3_2104⟩) (by assumption) ?r3_2104
                    case h3_2104 =>
                      intro W hSW
                      try dsimp only at hSW
                      go_simp
                      try with_reducible rfl
                    try simp only [Act.put, List.setIfInBounds_toArray, List.set_cons_zero, List.set_cons_succ]
                    refine wpAnyL_take (i := 4) (oi := { dst := some 82, op := Op.indexAddr 29 (Operand.tmp 80) (Operand.tmp 81), type := 0, pos := "law.go:168", after := #[{ on := 2, ground := Ground.data }, { on := 3, ground := Ground.data }], guard := none }) (v := ?v4_2105) rfl (by kernel_rfl) (by kernel_rfl) (by kernel_rfl) (by kernel_rfl) (fun _ _ _ h => h) (Or.inl ⟨by rfl, ?h4_2105⟩) (by assumption) ?r4_2105
                    case h4_2105 =>
                      intro W hSW
                      try dsimp only at hSW
                      go_simp
                      try with_reducible rfl
                    try simp only [Act.put, List.setIfInBounds_toArray, List.set_cons_zero, List.set_cons_succ]
                    refine wpAnyL_take (i := 5) (oi := { dst := some 83, op := Op.load 3 (Operand.tmp 82), type := 3, pos := "law.go:168", after := #[{ on := 4, ground := Ground.data }], guard := none }) (v := ?v5_2106) rfl (by kernel_rfl) (by kernel_rfl) (by kernel_rfl) (by kernel_rfl) (fun _ _ _ h => h) (Or.inl ⟨by rfl, ?h5_2106⟩) (by assumption) ?r5_2106
                    case h5_2106 =>
                      intro W hSW
                      try dsimp only at hSW
                      have hcc := (hSW.cell (p := ⟨gU, q, none⟩) HCX.out.fU.lt).trans HKU.out.1
                      go_simp
                      try with_reducible rfl
                    try simp only [Act.put, List.setIfInBounds_toArray, List.set_cons_zero, List.set_cons_succ]
                    refine wpAnyL_take (i := 6) (oi := { dst := some 84, op := Op.fieldAddr 31 (Operand.tmp 13) 4, type := 0, pos := "law.go:168", after := #[], guard := none }) (v := ?v6_2107) rfl (by kernel_rfl) (by kernel_rfl) (by kernel_rfl) (by kernel_rfl) (fun _ _ _ h => h) (Or.inl ⟨by rfl, ?h6_2107⟩) (by assumption) ?r6_2107
                    case h6_2107 =>
                      intro W hSW
                      try dsimp only at hSW
                      go_simp
                      try with_reducible rfl
                    try simp only [Act.put, List.setIfInBounds_toArray, List.set_cons_zero, List.set_cons_succ]
                    refine wpAnyL_take (i := 7) (oi := { dst := some 85, op := Op.load 29 (Operand.tmp 84), type := 29, pos := "law.go:168", after := #[{ on := 6, ground := Ground.data }], guard := none }) (v := ?v7_2108) rfl (by kernel_rfl) (by kernel_rfl) (by kernel_rfl) (by kernel_rfl) (fun _ _ _ h => h) (Or.inl ⟨by rfl, ?h7_2108⟩) (by assumption) ?r7_2108
                    case h7_2108 =>
                      intro W hSW
                      try dsimp only at hSW
                      have hcc := (hSW.cell (p := ⟨b13, 4, none⟩) HKU.out.2.2.2.2.1).trans HKU.out.2.2.2.1
                      go_simp
                      try with_reducible rfl
                    try simp only [Act.put, List.setIfInBounds_toArray, List.set_cons_zero, List.set_cons_succ]
                    refine wpAnyL_take (i := 8) (oi := { dst := some 86, op := Op.move (Operand.tmp 15), type := 3, pos := "law.go:168", after := #[], guard := none }) (v := ?v8_2109) rfl (by kernel_rfl) (by kernel_rfl) (by kernel_rfl) (by kernel_rfl) (fun _ _ _ h => h) (Or.inl ⟨by rfl, ?h8_2109⟩) (by assumption) ?r8_2109
                    case h8_2109 =>
                      intro W hSW
                      try dsimp only at hSW
                      go_simp
                      try with_reducible rfl
                    try simp only [Act.put, List.setIfInBounds_toArray, List.set_cons_zero, List.set_cons_succ]
                    refine wpAnyL_take (i := 9) (oi := { dst := some 87, op := Op.indexAddr 29 (Operand.tmp 85) (Operand.tmp 86), type := 0, pos := "law.go:168", after := #[{ on := 7, ground := Ground.data }, { on := 8, ground := Ground.data }], guard := none }) (v := ?v9_2110) rfl (by kernel_rfl) (by kernel_rfl) (by kernel_rfl) (by kernel_rfl) (fun _ _ _ h => h) (Or.inl ⟨by rfl, ?h9_2110⟩) (by assumption) ?r9_2110
                    case h9_2110 =>
                      intro W hSW
                      try dsimp only at hSW
                      go_simp
                      try with_reducible rfl
                    try simp only [Act.put, List.setIfInBounds_toArray, List.set_cons_zero, List.set_cons_succ]
                    refine wpAnyL_take (i := 10) (oi := { dst := some 88, op := Op.load 3 (Operand.tmp 87), type := 3, pos := "law.go:168", after := #[{ on := 9, ground := Ground.data }], guard := none }) (v := ?v10_2111) rfl (by kernel_rfl) (by kernel_rfl) (by kernel_rfl) (by kernel_rfl) (fun _ _ _ h => h) (Or.inl ⟨by rfl, ?h10_2111⟩) (by assumption) ?r10_2111
                    case h10_2111 =>
                      intro W hSW
                      try dsimp only at hSW
                      have hcc := (hSW.cell (p := ⟨gD, q, none⟩) HKU.out.2.2.2.2.2).trans HKU.out.2.2.1
                      go_simp
                      try with_reducible rfl
                    try simp only [Act.put, List.setIfInBounds_toArray, List.set_cons_zero, List.set_cons_succ]
                    refine wpAnyL_take (i := 11) (oi := { dst := some 89, op := Op.binOp BinOp.add 3 (Operand.tmp 83) (Operand.tmp 88) 3, type := 3, pos := "law.go:168", after := #[{ on := 5, ground := Ground.data }, { on := 10, ground := Ground.data }], guard := none }) (v := ?v11_2112) rfl (by kernel_rfl) (by kernel_rfl) (by kernel_rfl) (by kernel_rfl) (fun _ _ _ h => h) (Or.inl ⟨by rfl, ?h11_2112⟩) (by assumption) ?r11_2112
                    case h11_2112 =>
                      intro W hSW
                      try dsimp only at hSW
                      go_simp
                      try with_reducible rfl
                    try simp only [Act.put, List.setIfInBounds_toArray, List.set_cons_zero, List.set_cons_succ]
                    refine wpAnyL_take (i := 12) (oi := { dst := some 90, op := Op.indexAddr 29 (Operand.tmp 78) (Operand.tmp 79), type := 0, pos := "law.go:168", after := #[{ on := 0, ground := Ground.data }, { on := 1, ground := Ground.data }, { on := 0, ground := Ground.phase }, { on := 1, ground := Ground.phase }, { on := 2, ground := Ground.phase }, { on := 3, ground := Ground.phase }, { on := 4, ground := Ground.phase }, { on := 5, ground := Ground.phase }, { on := 6, ground := Ground.phase }, { on := 7, ground := Ground.phase }, { on := 8, ground := Ground.phase }, { on := 9, ground := Ground.phase }, { on := 10, ground := Ground.phase }, { on := 11, ground := Ground.phase }], guard := none }) (v := ?v12_2113) rfl (by kernel_rfl) (by kernel_rfl) (by kernel_rfl) (by kernel_rfl) (fun _ _ _ h => h) (Or.inl ⟨by rfl, ?h12_2113⟩) (by assumption) ?r12_2113
                    case h12_2113 =>
                      intro W hSW
                      try dsimp only at hSW
                      go_simp
                      try with_reducible rfl
                    try simp only [Act.put, List.setIfInBounds_toArray, List.set_cons_zero, List.set_cons_succ]
                    refine wpAnyL_ready (rs := [13]) (by kernel_rfl) (by simp) ?_
                    refine AllReadyL.late (o := { dst := none, op := Op.store 3 (Operand.tmp 90) (Operand.tmp 89), type := 0, pos := "law.go:168", after := #[{ on := 12, ground := Ground.data }, { on := 11, ground := Ground.data }, { on := 0, ground := Ground.phase }, { on := 1, ground := Ground.phase }, { on := 2, ground := Ground.phase }, { on := 3, ground := Ground.phase }, { on := 4, ground := Ground.phase }, { on := 5, ground := Ground.phase }, { on := 6, ground := Ground.phase }, { on := 7, ground := Ground.phase }, { on := 8, ground := Ground.phase }, { on := 9, ground := Ground.phase }, { on := 10, ground := Ground.phase }, { on := 11, ground := Ground.phase }], guard := none }) rfl (by rfl) (fun K hK => ?_) AllReadyL.nil
                    rw [if_pos (by rfl)]
                    have hk1 := (hv0.cell (p := ⟨gU, q, none⟩) HCX.out.fU.lt).trans HKU.out.1
                    have hf1 := (hv0.frozen (p := ⟨gU, q, none⟩) HCX.out.fU.lt).trans HKU.out.2.1
                    go_simp
                    obtain ⟨w800, hw800⟩ : ∃ x, wd.setCell ⟨gU, q, none⟩ (.int .i64 nu) = x := ⟨_, rfl⟩
                    rw [hw800]
                    have HCN := Lib.hid ((HCX.out.below hv0).setU hlt3 nu)
                    rw [hw800, HMX.out] at HCN
                    have HKN2 : Hid (Keep (fun b => b = gU) w11 w800) := Lib.hid (by rw [← hw800]; exact Keep.setCell (S := fun b => b = gU) (a := ⟨gU, q, none⟩) (HKX.out.then_below hv0) (.inl rfl) _)
                    have hv800 := hv0
                    clear hw800 hk1 hf1
                    refine hK.out _ _ ?_
                    clear hK K
                    try simp only [Act.put, List.setIfInBounds_toArray, List.set_cons_zero, List.set_cons_succ]
                    refine wpAnyL_done (by kernel_rfl) ?_ _
                    go_wp2_with fail
                    go_roundw
                    case rel => exact ⟨q + 1, by omega, by go_num, HCN, HKN2⟩
                    case measure => simp [intOf]; omega
                  · obtain rfl : q = N := by omega
                    have hcx := HCX.out
                    have hUl := HCM11.out.lU
                    have hdl := HLN.out.2.1
                    rw [mixL_full _ _ _ (by omega) q hUl.symm] at hcx
                    have hLB : LoopB w wx bl gG gU q (k + 1) base (some ⟨g11, 0, none⟩) (Ls.length + 1) c11 := ⟨_, col', m', Bil.doSt l y.x, G, _, by simp, hcx.done (HLA11.out.keeps HKX.out (fun b e => by have e : b = gU := e; rw [e]; exact HCM11.out.cU)) (invB HINV.out) (by rw [Bil.n_do]; exact HCB6.out.n) (by rw [List.map_append]; exact HLC.out) (fun s hs => by
                      have h1 := HCB6.out.bal s hs
                      have h2 := HPC.out s hs
                      have h3 := HBA.out s hs
                      have h4 := HCF.out s
                      have h5 : (List.zipWith (· + ·) U bi.credits).getD s 0 = U.getD s 0 + bi.credits.getD s 0 := Bil.zip_get _ (by omega) (by omega)
                      rw [h5, h2]
                      omega)⟩
                    have HLB := Lib.hid hLB
                    have HBX : Hid (base ≤ wx.heap.size) := Lib.hid HCX.out.hb
                    clear hcx hUl hdl hLB
                    go_wp2_with fail
                    go_roundw
                    case rel => exact ⟨k + 1, Ls.length + 1, c11, some ⟨g11, 0, none⟩, by omega, rfl, by go_num, HLB, HBX⟩
                    case measure => simp [intOf]; omega
              · obtain ⟨i, t, hix, htt, htl, hu, hm, hdo⟩ := Bil.crediting HER.out hk1
                have hcb := HCB6.out
                obtain ⟨j1, j2, j3, j4⟩ := Bil.idx_some hix
                have hkm := hcb.inv.ok.k
                have hLl : Ls.length = l.periods := by have := hcb.left.1; simpa using this
                obtain ⟨j, hjj⟩ : ∃ j, l.periods - l.kept.length + i = j := ⟨_, rfl⟩
                have hja : y.x.a = (j : Int) := by omega
                have hj : j < Ls.length := by omega
                have hlc := Bil.left_credit hcb.inv.ok hcb.left j3 htl hm (bookHead l.head ⟨(encCredit y.x.a y.x.b y.x.c).toArray⟩)
                have htN : t < N := by rw [← hcb.n]; exact htl
                have hpc := fun s => Bil.pending_credit hcb.inv.ok (bookHead l.head ⟨(encCredit y.x.a y.x.b y.x.c).toArray⟩) i htl y.x.c s
                rw [hjj, map_getD Ls j hj] at hlc
                rw [← hdo] at hlc hpc
                have hcu : y.x.c ≤ 1099511627776 := by
                  obtain ⟨a1, _⟩ := hcb.inv.ok.a i j3
                  have := (Bil.charges_nonneg a1.f t).2
                  have := (a1.d t).1
                  omega
                obtain ⟨gA, capA, hvA, hbA, hltA⟩ := hcb.own.form (by omega)
                obtain rfl : Al = some ⟨gA, 0, none⟩ := by injection hvA
                obtain ⟨cu, hcu'⟩ : ∃ x, y.x.c = x := ⟨_, rfl⟩
                obtain ⟨kd, hkd⟩ : ∃ x, y.x.kind = x := ⟨_, rfl⟩
                rw [hcu'] at hu hlc hpc hcu
                rw [hkd] at hk1
                have HLC := Lib.hid hlc
                have HLVM : Hid ((Ls[j]'hj).d.getD t 0 ≤ 1099511627776) := Lib.hid (by
                  have h1 := (hcb.left.2 i j3).2 t htl
                  rw [hjj, map_getD Ls j hj] at h1
                  obtain ⟨a1, _⟩ := hcb.inv.ok.a i j3
                  have := (Bil.charges_nonneg a1.f t).2
                  have := (a1.d t).1
                  omega)
                have HPC := Lib.hid hpc
                have HDOE := Lib.hid hdo
                have HKD := Lib.hid (And.intro hja (And.intro htt (And.intro hcu' hkd)))
                have HKN := Lib.hid hk1
                have HJ := Lib.hid (And.intro hj (And.intro htN (And.intro hu hcu)))
                have hk12 : (kd == 1) = false := by rw [beq_eq_false_iff_ne]; exact hk1
                have HLL := Lib.hid hLl
                clear hix htt htl hu hm hdo hcb j1 j2 j3 j4 hkm hjj hja hlc hpc hcu hvA hbA hltA hcu' hkd hLl
                go_upto_region 15 with (first
                  | (refine wpList_loadS rfl _ (.tmp 12) rfl q6 rfl Tryd.underlying35 size5 ?_)
                  | (go_at_call 12; refine (HDO.out w6 HCB6.out).mono ?_; rintro e w7 ⟨v, col', m', rfl, h1, h2, hl', hk', hc'⟩; rw [h2 (fun hh => HKN.out (HKD.out.2.2.2.symm.trans hh.2)), HER.out]; have HL7 := Lib.hid (And.intro hl' (And.intro hk' hc')); clear h1 h2 hl' hk' hc')
                  | (refine wpList_allocRow rfl _ rfl _ info6 ?_; intro w8 r8 b8 z8)
                  | (refine wpList_storeRow rfl _ (.tmp 13) (.tmp 59) rfl (l' := Z6) r8 rfl rfl size6 rfl rfl ?_; intro w9 r9 g9 z9))
                have hcm7 := HCB6.out.mem HBS6.out HL7.out.1 HL7.out.2.1 HL7.out.2.2
                have hk9 : Keep (fun q => w7.heap.size ≤ q) w7 w9 := (Keep.of_below b8).grown g9 fun q e => .inr (by have := Option.some.inj e; omega)
                have HCM9 := Lib.hid (hcm7.fresh hk9)
                have HLA9 : Hid (LAt w9 bl col' m' (Bil.doSt l y.x)) := Lib.hid (HL7.out.1.keeps hk9 fun b hb => col_zero HL7.out.1 hb)
                have q7 := keeps_row q6 HL7.out.2.1 (fun h => h HZ12.out)
                have q9 := keeps_row q7 hk9 (fun h => by have := q7.lt; omega)
                have HQ9 := Lib.hid q9
                have HBS9 : Hid (base ≤ w9.heap.size) := Lib.hid (Nat.le_trans HBS6.out (Nat.le_trans HL7.out.2.1.size hk9.size))
                have k0 : w9.cell? ⟨b12, 0, none⟩ = some (.int .i64 kd) := by rw [← HKD.out.2.2.2]; exact q9.cell 0
                have k1 : w9.cell? ⟨b12, 1, none⟩ = some (.int .i64 (j : Int)) := by rw [← HKD.out.1]; exact q9.cell 1
                have k2 : w9.cell? ⟨b12, 2, none⟩ = some (.int .i64 (t : Int)) := by rw [← HKD.out.2.1]; exact q9.cell 2
                have k3 : w9.cell? ⟨b12, 3, none⟩ = some (.int .i64 cu) := by rw [← HKD.out.2.2.1]; exact q9.cell 3
                have HK := Lib.hid (And.intro k1 (And.intro k2 k3))
                have HL12 : Hid (b12 < w9.heap.size) := Lib.hid q9.lt
                have kG := HCM9.out.fG.cell t HJ.out.2.1
                have fG := HCM9.out.fG.free t HJ.out.2.1
                have hbal := HCB6.out.bal t HJ.out.2.1
                have hsm := HCB6.out.inv.sm t
                have hju := HJ.out
                obtain ⟨gv0, hgv0⟩ : ∃ x, G.getD t 0 = x := ⟨_, rfl⟩
                rw [hgv0] at kG hbal
                obtain ⟨gv, hgv⟩ : ∃ x, gv0 + cu = x := ⟨_, rfl⟩
                have mG : IntKind.i64.wrap (gv0 + cu) = gv := by rw [hgv]; exact IntWalk.i64_in _ (by omega)
                have HGV := Lib.hid (And.intro hgv0 hgv)
                have HKG := Lib.hid (And.intro kG fG)
                have i2 : (0 : Int) ≤ (t : Int) := by omega
                have i3 : (t : Int) < (N : Int) := by omega
                have i4 : (0 : Int) ≤ (j : Int) := by omega
                have i5 : (j : Int) < (Ls.length : Int) := by omega
                clear hcm7 hk9 q7 q9 hbal hsm hju hgv0 hgv k1 k2 k3 kG fG r8 r9 b8 g9 z8 z9 q6 HR6
                go_upto_region 22 with fail
                have hv0 : Below w9.heap.size w9 w9.drew := (Below.refl _ _).drew
                refine wp_region_late (fun W => Below w9.heap.size w9 W) [12] (by kernel_rfl) (hv0) (fun hHeld => ?_)
                obtain ⟨wd, hwd⟩ : ∃ x, w9.drew = x := ⟨_, rfl⟩
                rw [hwd] at hv0 hHeld ⊢
                clear hwd
                refine wpAnyL_take (i := 0) (oi := { dst := some 91, op := Op.move (Operand.tmp 8), type := 29, pos := "law.go:172", after := #[], guard := none }) (v := ?v0_2201) rfl (by kernel_rfl) (by kernel_rfl) (by kernel_rfl) (by kernel_rfl) (fun _ _ _ h => h) (Or.inl ⟨by rfl, ?h0_2201⟩) (by assumption) ?r0_2201
                case h0_2201 =>
                  intro W hSW
                  try dsimp only at hSW
                  go_simp
                  try with_reducible rfl
                try simp only [Act.put, List.setIfInBounds_toArray, List.set_cons_zero, List.set_cons_succ]
                refine wpAnyL_take (i := 1) (oi := { dst := some 92, op := Op.fieldAddr 35 (Operand.tmp 12) 2, type := 0, pos := "law.go:172", after := #[], guard := none }) (v := ?v1_2202) rfl (by kernel_rfl) (by kernel_rfl) (by kernel_rfl) (by kernel_rfl) (fun _ _ _ h => h) (Or.inl ⟨by rfl, ?h1_2202⟩) (by assumption) ?r1_2202
                case h1_2202 =>
                  intro W hSW
                  try dsimp only at hSW
                  go_simp
                  try with_reducible rfl
                try simp only [Act.put, List.setIfInBounds_toArray, List.set_cons_zero, List.set_cons_succ]
                refine wpAnyL_take (i := 2) (oi := { dst := some 93, op := Op.load 3 (Operand.tmp 92), type := 3, pos := "law.go:172", after := #[{ on := 1, ground := Ground.data }], guard := none }) (v := ?v2_2203) rfl (by kernel_rfl) (by kernel_rfl) (by kernel_rfl) (by kernel_rfl) (fun _ _ _ h => h) (Or.inl ⟨by rfl, ?h2_2203⟩) (by assumption) ?r2_2203
                case h2_2203 =>
                  intro W hSW
                  try dsimp only at hSW
                  have hcc := (hSW.cell (p := ⟨b12, 2, none⟩) HL12.out).trans HK.out.2.1
                  go_simp
                  try with_reducible rfl
                try simp only [Act.put, List.setIfInBounds_toArray, List.set_cons_zero, List.set_cons_succ]
                refine wpAnyL_take (i := 3) (oi := { dst := some 94, op := Op.move (Operand.tmp 8), type := 29, pos := "law.go:172", after := #[], guard := none }) (v := ?v3_2204) rfl (by kernel_rfl) (by kernel_rfl) (by kernel_rfl) (by kernel_rfl) (fun _ _ _ h => h) (Or.inl ⟨by rfl, ?h3_2204⟩) (by assumption) ?r3_2204
                case h3_2204 =>
                  intro W hSW
                  try dsimp only at hSW
                  go_simp
                  try with_reducible rfl
                try simp only [Act.put, List.setIfInBounds_toArray, List.set_cons_zero, List.set_cons_succ]
                refine wpAnyL_take (i := 4) (oi := { dst := some 95, op := Op.fieldAddr 35 (Operand.tmp 12) 2, type := 0, pos := "law.go:172", after := #[], guard := none }) (v := ?v4_2205) rfl (by kernel_rfl) (by kernel_rfl) (by kernel_rfl) (by kernel_rfl) (fun _ _ _ h => h) (Or.inl ⟨by rfl, ?h4_2205⟩) (by assumption) ?r4_2205
                case h4_2205 =>
                  intro W hSW
                  try dsimp only at hSW
                  go_simp
                  try with_reducible rfl
                try simp only [Act.put, List.setIfInBounds_toArray, List.set_cons_zero, List.set_cons_succ]
                refine wpAnyL_take (i := 5) (oi := { dst := some 96, op := Op.load 3 (Operand.tmp 95), type := 3, pos := "law.go:172", after := #[{ on := 4, ground := Ground.data }], guard := none }) (v := ?v5_2206) rfl (by kernel_rfl) (by kernel_rfl) (by kernel_rfl) (by kernel_rfl) (fun _ _ _ h => h) (Or.inl ⟨by rfl, ?h5_2206⟩) (by assumption) ?r5_2206
                case h5_2206 =>
                  intro W hSW
                  try dsimp only at hSW
                  have hcc := (hSW.cell (p := ⟨b12, 2, none⟩) HL12.out).trans HK.out.2.1
                  go_simp
                  try with_reducible rfl
                try simp only [Act.put, List.setIfInBounds_toArray, List.set_cons_zero, List.set_cons_succ]
                refine wpAnyL_take (i := 6) (oi := { dst := some 97, op := Op.indexAddr 29 (Operand.tmp 94) (Operand.tmp 96), type := 0, pos := "law.go:172", after := #[{ on := 3, ground := Ground.data }, { on := 5, ground := Ground.data }], guard := none }) (v := ?v6_2207) rfl (by kernel_rfl) (by kernel_rfl) (by kernel_rfl) (by kernel_rfl) (fun _ _ _ h => h) (Or.inl ⟨by rfl, ?h6_2207⟩) (by assumption) ?r6_2207
                case h6_2207 =>
                  intro W hSW
                  try dsimp only at hSW
                  go_simp
                  try with_reducible rfl
                try simp only [Act.put, List.setIfInBounds_toArray, List.set_cons_zero, List.set_cons_succ]
                refine wpAnyL_take (i := 7) (oi := { dst := some 98, op := Op.load 3 (Operand.tmp 97), type := 3, pos := "law.go:172", after := #[{ on := 6, ground := Ground.data }], guard := none }) (v := ?v7_2208) rfl (by kernel_rfl) (by kernel_rfl) (by kernel_rfl) (by kernel_rfl) (fun _ _ _ h => h) (Or.inl ⟨by rfl, ?h7_2208⟩) (by assumption) ?r7_2208
                case h7_2208 =>
                  intro W hSW
                  try dsimp only at hSW
                  have hcc := (hSW.cell (p := ⟨gG, t, none⟩) HCM9.out.fG.lt).trans HKG.out.1
                  go_simp
                  try with_reducible rfl
                try simp only [Act.put, List.setIfInBounds_toArray, List.set_cons_zero, List.set_cons_succ]
                refine wpAnyL_take (i := 8) (oi := { dst := some 99, op := Op.fieldAddr 35 (Operand.tmp 12) 3, type := 0, pos := "law.go:172", after := #[], guard := none }) (v := ?v8_2209) rfl (by kernel_rfl) (by kernel_rfl) (by kernel_rfl) (by kernel_rfl) (fun _ _ _ h => h) (Or.inl ⟨by rfl, ?h8_2209⟩) (by assumption) ?r8_2209
                case h8_2209 =>
                  intro W hSW
                  try dsimp only at hSW
                  go_simp
                  try with_reducible rfl
                try simp only [Act.put, List.setIfInBounds_toArray, List.set_cons_zero, List.set_cons_succ]
                refine wpAnyL_take (i := 9) (oi := { dst := some 100, op := Op.load 3 (Operand.tmp 99), type := 3, pos := "law.go:172", after := #[{ on := 8, ground := Ground.data }], guard := none }) (v := ?v9_2210) rfl (by kernel_rfl) (by kernel_rfl) (by kernel_rfl) (by kernel_rfl) (fun _ _ _ h => h) (Or.inl ⟨by rfl, ?h9_2210⟩) (by assumption) ?r9_2210
                case h9_2210 =>
                  intro W hSW
                  try dsimp only at hSW
                  have hcc := (hSW.cell (p := ⟨b12, 3, none⟩) HL12.out).trans HK.out.2.2
                  go_simp
                  try with_reducible rfl
                try simp only [Act.put, List.setIfInBounds_toArray, List.set_cons_zero, List.set_cons_succ]
                refine wpAnyL_take (i := 10) (oi := { dst := some 101, op := Op.binOp BinOp.add 3 (Operand.tmp 98) (Operand.tmp 100) 3, type := 3, pos := "law.go:172", after := #[{ on := 7, ground := Ground.data }, { on := 9, ground := Ground.data }], guard := none }) (v := ?v10_2211) rfl (by kernel_rfl) (by kernel_rfl) (by kernel_rfl) (by kernel_rfl) (fun _ _ _ h => h) (Or.inl ⟨by rfl, ?h10_2211⟩) (by assumption) ?r10_2211
                case h10_2211 =>
                  intro W hSW
                  try dsimp only at hSW
                  go_simp
                  try with_reducible rfl
                try simp only [Act.put, List.setIfInBounds_toArray, List.set_cons_zero, List.set_cons_succ]
                refine wpAnyL_take (i := 11) (oi := { dst := some 102, op := Op.indexAddr 29 (Operand.tmp 91) (Operand.tmp 93), type := 0, pos := "law.go:172", after := #[{ on := 0, ground := Ground.data }, { on := 2, ground := Ground.data }, { on := 0, ground := Ground.phase }, { on := 1, ground := Ground.phase }, { on := 2, ground := Ground.phase }, { on := 3, ground := Ground.phase }, { on := 4, ground := Ground.phase }, { on := 5, ground := Ground.phase }, { on := 6, ground := Ground.phase }, { on := 7, ground := Ground.phase }, { on := 8, ground := Ground.phase }, { on := 9, ground := Ground.phase }, { on := 10, ground := Ground.phase }], guard := none }) (v := ?v11_2212) rfl (by kernel_rfl) (by kernel_rfl) (by kernel_rfl) (by kernel_rfl) (fun _ _ _ h => h) (Or.inl ⟨by rfl, ?h11_2212⟩) (by assumption) ?r11_2212
                case h11_2212 =>
                  intro W hSW
                  try dsimp only at hSW
                  go_simp
                  try with_reducible rfl
                try simp only [Act.put, List.setIfInBounds_toArray, List.set_cons_zero, List.set_cons_succ]
                refine wpAnyL_ready (rs := [12]) (by kernel_rfl) (by simp) ?_
                refine AllReadyL.late (o := { dst := none, op := Op.store 3 (Operand.tmp 102) (Operand.tmp 101), type := 0, pos := "law.go:172", after := #[{ on := 11, ground := Ground.data }, { on := 10, ground := Ground.data }, { on := 0, ground := Ground.phase }, { on := 1, ground := Ground.phase }, { on := 2, ground := Ground.phase }, { on := 3, ground := Ground.phase }, { on := 4, ground := Ground.phase }, { on := 5, ground := Ground.phase }, { on := 6, ground := Ground.phase }, { on := 7, ground := Ground.phase }, { on := 8, ground := Ground.phase }, { on := 9, ground := Ground.phase }, { on := 10, ground := Ground.phase }], guard := none }) rfl (by rfl) (fun K hK => ?_) AllReadyL.nil
                rw [if_pos (by rfl)]
                have hk1 := (hv0.cell (p := ⟨gG, t, none⟩) HCM9.out.fG.lt).trans HKG.out.1
                have hf1 := (hv0.frozen (p := ⟨gG, t, none⟩) HCM9.out.fG.lt).trans HKG.out.2
                go_simp
                obtain ⟨w500, hw500⟩ : ∃ x, wd.setCell ⟨gG, t, none⟩ (.int .i64 gv) = x := ⟨_, rfl⟩
                rw [hw500]
                have HCMN : CM w w500 gG gU N (some ⟨gA, 0, none⟩) cA Ls base col' (G.set t gv) U := by rw [← hw500]; exact (HCM9.out.below hv0).setG HJ.out.2.1 gv
                have hkst : Keep (fun q => q = gG) w9 w500 := by rw [← hw500]; exact Keep.setCell (S := fun q => q = gG) (a := ⟨gG, t, none⟩) (Keep.of_below hv0) (.inl rfl) _
                have HLAN := HLA9.out.keeps hkst (fun b e => by have e : b = gG := e; rw [e]; exact HCM9.out.cG)
                have HQN := keeps_row HQ9.out hkst (show ¬ b12 = gG from fun e => by have := H12.out.2.1; have := HCM9.out.gGU; omega)
                clear hkst
                have hv500 := hv0
                clear hw500 hk1 hf1
                refine hK.out _ _ ?_
                clear hK K
                try simp only [Act.put, List.setIfInBounds_toArray, List.set_cons_zero, List.set_cons_succ]
                refine wpAnyL_done (by kernel_rfl) ?_ _
                have HCM22 := Lib.hid HCMN
                have HLA22 := Lib.hid HLAN
                have HQ22 := Lib.hid HQN
                clear HCMN HLAN HQN hv500 mG k0
                have k1 := HQ22.out.cell 1
                have k2 := HQ22.out.cell 2
                have k3 := HQ22.out.cell 3
                replace k1 : w500.cell? ⟨b12, 1, none⟩ = some (Value.int .i64 (j : Int)) := by rw [← HKD.out.1]; exact k1
                replace k2 : w500.cell? ⟨b12, 2, none⟩ = some (Value.int .i64 (t : Int)) := by rw [← HKD.out.2.1]; exact k2
                replace k3 : w500.cell? ⟨b12, 3, none⟩ = some (Value.int .i64 cu) := by rw [← HKD.out.2.2.1]; exact k3
                have HK22 := Lib.hid (And.intro k1 (And.intro k2 k3))
                have HL22 := Lib.hid HQ22.out.lt
                have hxj := HCM22.out.fl _ (List.getElem_mem HJ.out.1)
                have kA : w500.cell? ⟨gA, j, none⟩ = some (lfc N (Ls[j]'HJ.out.1)) := (HCM22.out.own.cellAt j (by have := HJ.out.1; omega)).trans (by simp [HJ.out.1])
                have lA := (HCM22.out.cA0 _ rfl).2.2
                have kL := hxj.1.cell t HJ.out.2.1
                have fL := hxj.1.free t HJ.out.2.1
                have lL := hxj.1.lt
                have hgLc := hxj.2.2.2
                have HSL := Lib.hid (fun (W : World) (v : Int) (hW : Below w500.heap.size w500 W) => (HCM22.out.below hW).setL HJ.out.1 HJ.out.2.1 v)
                have h12L : b12 ≠ (Ls[j]'HJ.out.1).g := fun e => H12.out.2.2.1 _ (List.getElem_mem HJ.out.1) e.symm
                have hLA : gA ≠ (Ls[j]'HJ.out.1).g := HCM22.out.nA _ (List.getElem_mem HJ.out.1) _ rfl
                have hll := HLC.out
                have hmp := fun v => setLf_map Ls j t v HJ.out.1
                unfold lfc at kA
                obtain ⟨gL, hgL⟩ : ∃ x, (Ls[j]'HJ.out.1).g = x := ⟨_, rfl⟩
                obtain ⟨cL, hcL⟩ : ∃ x, (Ls[j]'HJ.out.1).c = x := ⟨_, rfl⟩
                obtain ⟨lv, hlv⟩ : ∃ x, (Ls[j]'HJ.out.1).d.getD t 0 = x := ⟨_, rfl⟩
                rw [hgL] at kA kL fL lL hgLc HSL h12L hLA
                rw [hcL] at kA
                rw [hlv] at kL hll
                obtain ⟨nv, hnv⟩ : ∃ x, lv - cu = x := ⟨_, rfl⟩
                rw [hnv] at hll
                have hlvm : lv ≤ 1099511627776 := by rw [← hlv]; exact HLVM.out
                have mL : IntKind.i64.wrap (lv - cu) = nv := by rw [hnv]; have := HJ.out.2.2; exact IntWalk.i64_in _ (by omega)
                have HKA := Lib.hid (And.intro kA (And.intro kL (And.intro fL (And.intro lA lL))))
                have HLF := Lib.hid (And.intro hgLc (And.intro h12L hLA))
                have HMP := Lib.hid hmp
                have HLL2 := Lib.hid hll
                clear hxj kA kL fL lL lA hgLc h12L hLA hll hmp hgL hcL hlv hnv hlvm k1 k2 k3
                go_upto_region 23 with fail
                have hv0 : Below w500.heap.size w500 w500.drew := (Below.refl _ _).drew
                refine wp_region_late (fun W => Below w500.heap.size w500 W) [20] (by kernel_rfl) (hv0) (fun hHeld => ?_)
                obtain ⟨wd, hwd⟩ : ∃ x, w500.drew = x := ⟨_, rfl⟩
                rw [hwd] at hv0 hHeld ⊢
                clear hwd
                refine wpAnyL_take (i := 0) (oi := { dst := some 103, op := Op.move (Operand.tmp 10), type := 39, pos := "law.go:173", after := #[], guard := none }) (v := ?v0_2301) rfl (by kernel_rfl) (by kernel_rfl) (by kernel_rfl) (by kernel_rfl) (fun _ _ _ h => h) (Or.inl ⟨by rfl, ?h0_2301⟩) (by assumption) ?r0_2301
                case h0_2301 =>
                  intro W hSW
                  try dsimp only at hSW
                  go_simp
                  try with_reducible rfl
                try simp only [Act.put, List.setIfInBounds_toArray, List.set_cons_zero, List.set_cons_succ]
                refine wpAnyL_take (i := 1) (oi := { dst := some 104, op := Op.fieldAddr 35 (Operand.tmp 12) 1, type := 0, pos := "law.go:173", after := #[], guard := none }) (v := ?v1_2302) rfl (by kernel_rfl) (by kernel_rfl) (by kernel_rfl) (by kernel_rfl) (fun _ _ _ h => h) (Or.inl ⟨by rfl, ?h1_2302⟩) (by assumption) ?r1_2302
                case h1_2302 =>
                  intro W hSW
                  try dsimp only at hSW
                  go_simp
                  try with_reducible rfl
                try simp only [Act.put, List.setIfInBounds_toArray, List.set_cons_zero, List.set_cons_succ]
                refine wpAnyL_take (i := 2) (oi := { dst := some 105, op := Op.load 3 (Operand.tmp 104), type := 3, pos := "law.go:173", after := #[{ on := 1, ground := Ground.data }], guard := none }) (v := ?v2_2303) rfl (by kernel_rfl) (by kernel_rfl) (by kernel_rfl) (by kernel_rfl) (fun _ _ _ h => h) (Or.inl ⟨by rfl, ?h2_2303⟩) (by assumption) ?r2_2303
                case h2_2303 =>
                  intro W hSW
                  try dsimp only at hSW
                  have hcc := (hSW.cell (p := ⟨b12, 1, none⟩) HL22.out).trans HK22.out.1
                  go_simp
                  try with_reducible rfl
                try simp only [Act.put, List.setIfInBounds_toArray, List.set_cons_zero, List.set_cons_succ]
                refine wpAnyL_take (i := 3) (oi := { dst := some 106, op := Op.indexAddr 39 (Operand.tmp 103) (Operand.tmp 105), type := 0, pos := "law.go:173", after := #[{ on := 0, ground := Ground.data }, { on := 2, ground := Ground.data }], guard := none }) (v := ?v3_2304) rfl (by kernel_rfl) (by kernel_rfl) (by kernel_rfl) (by kernel_rfl) (fun _ _ _ h => h) (Or.inl ⟨by rfl, ?h3_2304⟩) (by assumption) ?r3_2304
                case h3_2304 =>
                  intro W hSW
                  try dsimp only at hSW
                  go_simp
                  try with_reducible rfl
                try simp only [Act.put, List.setIfInBounds_toArray, List.set_cons_zero, List.set_cons_succ]
                refine wpAnyL_take (i := 4) (oi := { dst := some 107, op := Op.load 29 (Operand.tmp 106), type := 29, pos := "law.go:173", after := #[{ on := 3, ground := Ground.data }], guard := none }) (v := ?v4_2305) rfl (by kernel_rfl) (by kernel_rfl) (by kernel_rfl) (by kernel_rfl) (fun _ _ _ h => h) (Or.inl ⟨by rfl, ?h4_2305⟩) (by assumption) ?r4_2305
                case h4_2305 =>
                  intro W hSW
                  try dsimp only at hSW
                  have hcc := (hSW.cell (p := ⟨gA, j, none⟩) HKA.out.2.2.2.1).trans HKA.out.1
                  go_simp
                  try with_reducible rfl
                try simp only [Act.put, List.setIfInBounds_toArray, List.set_cons_zero, List.set_cons_succ]
                refine wpAnyL_take (i := 5) (oi := { dst := some 108, op := Op.fieldAddr 35 (Operand.tmp 12) 2, type := 0, pos := "law.go:173", after := #[], guard := none }) (v := ?v5_2306) rfl (by kernel_rfl) (by kernel_rfl) (by kernel_rfl) (by kernel_rfl) (fun _ _ _ h => h) (Or.inl ⟨by rfl, ?h5_2306⟩) (by assumption) ?r5_2306
                case h5_2306 =>
                  intro W hSW
                  try dsimp only at hSW
                  go_simp
                  try with_reducible rfl
                try simp only [Act.put, List.setIfInBounds_toArray, List.set_cons_zero, List.set_cons_succ]
                refine wpAnyL_take (i := 6) (oi := { dst := some 109, op := Op.load 3 (Operand.tmp 108), type := 3, pos := "law.go:173", after := #[{ on := 5, ground := Ground.data }], guard := none }) (v := ?v6_2307) rfl (by kernel_rfl) (by kernel_rfl) (by kernel_rfl) (by kernel_rfl) (fun _ _ _ h => h) (Or.inl ⟨by rfl, ?h6_2307⟩) (by assumption) ?r6_2307
                case h6_2307 =>
                  intro W hSW
                  try dsimp only at hSW
                  have hcc := (hSW.cell (p := ⟨b12, 2, none⟩) HL22.out).trans HK22.out.2.1
                  go_simp
                  try with_reducible rfl
                try simp only [Act.put, List.setIfInBounds_toArray, List.set_cons_zero, List.set_cons_succ]
                refine wpAnyL_take (i := 7) (oi := { dst := some 110, op := Op.move (Operand.tmp 10), type := 39, pos := "law.go:173", after := #[], guard := none }) (v := ?v7_2308) rfl (by kernel_rfl) (by kernel_rfl) (by kernel_rfl) (by kernel_rfl) (fun _ _ _ h => h) (Or.inl ⟨by rfl, ?h7_2308⟩) (by assumption) ?r7_2308
                case h7_2308 =>
                  intro W hSW
                  try dsimp only at hSW
                  go_simp
                  try with_reducible rfl
                try simp only [Act.put, List.setIfInBounds_toArray, List.set_cons_zero, List.set_cons_succ]
                refine wpAnyL_take (i := 8) (oi := { dst := some 111, op := Op.fieldAddr 35 (Operand.tmp 12) 1, type := 0, pos := "law.go:173", after := #[], guard := none }) (v := ?v8_2309) rfl (by kernel_rfl) (by kernel_rfl) (by kernel_rfl) (by kernel_rfl) (fun _ _ _ h => h) (Or.inl ⟨by rfl, ?h8_2309⟩) (by assumption) ?r8_2309
                case h8_2309 =>
                  intro W hSW
                  try dsimp only at hSW
                  go_simp
                  try with_reducible rfl
                try simp only [Act.put, List.setIfInBounds_toArray, List.set_cons_zero, List.set_cons_succ]
                refine wpAnyL_take (i := 9) (oi := { dst := some 112, op := Op.load 3 (Operand.tmp 111), type := 3, pos := "law.go:173", after := #[{ on := 8, ground := Ground.data }], guard := none }) (v := ?v9_2310) rfl (by kernel_rfl) (by kernel_rfl) (by kernel_rfl) (by kernel_rfl) (fun _ _ _ h => h) (Or.inl ⟨by rfl, ?h9_2310⟩) (by assumption) ?r9_2310
                case h9_2310 =>
                  intro W hSW
                  try dsimp only at hSW
                  have hcc := (hSW.cell (p := ⟨b12, 1, none⟩) HL22.out).trans HK22.out.1
                  go_simp
                  try with_reducible rfl
                try simp only [Act.put, List.setIfInBounds_toArray, List.set_cons_zero, List.set_cons_succ]
                refine wpAnyL_take (i := 10) (oi := { dst := some 113, op := Op.indexAddr 39 (Operand.tmp 110) (Operand.tmp 112), type := 0, pos := "law.go:173", after := #[{ on := 7, ground := Ground.data }, { on := 9, ground := Ground.data }], guard := none }) (v := ?v10_2311) rfl (by kernel_rfl) (by kernel_rfl) (by kernel_rfl) (by kernel_rfl) (fun _ _ _ h => h) (Or.inl ⟨by rfl, ?h10_2311⟩) (by assumption) ?r10_2311
                case h10_2311 =>
                  intro W hSW
                  try dsimp only at hSW
                  go_simp
                  try with_reducible rfl
                try simp only [Act.put, List.setIfInBounds_toArray, List.set_cons_zero, List.set_cons_succ]
                refine wpAnyL_take (i := 11) (oi := { dst := some 114, op := Op.load 29 (Operand.tmp 113), type := 29, pos := "law.go:173", after := #[{ on := 10, ground := Ground.data }], guard := none }) (v := ?v11_2312) rfl (by kernel_rfl) (by kernel_rfl) (by kernel_rfl) (by kernel_rfl) (fun _ _ _ h => h) (Or.inl ⟨by rfl, ?h11_2312⟩) (by assumption) ?r11_2312
                case h11_2312 =>
                  intro W hSW
                  try dsimp only at hSW
                  have hcc := (hSW.cell (p := ⟨gA, j, none⟩) HKA.out.2.2.2.1).trans HKA.out.1
                  go_simp
                  try with_reducible rfl
                try simp only [Act.put, List.setIfInBounds_toArray, List.set_cons_zero, List.set_cons_succ]
                refine wpAnyL_take (i := 12) (oi := { dst := some 115, op := Op.fieldAddr 35 (Operand.tmp 12) 2, type := 0, pos := "law.go:173", after := #[], guard := none }) (v := ?v12_2313) rfl (by kernel_rfl) (by kernel_rfl) (by kernel_rfl) (by kernel_rfl) (fun _ _ _ h => h) (Or.inl ⟨by rfl, ?h12_2313⟩) (by assumption) ?r12_2313
                case h12_2313 =>
                  intro W hSW
                  try dsimp only at hSW
                  go_simp
                  try with_reducible rfl
                try simp only [Act.put, List.setIfInBounds_toArray, List.set_cons_zero, List.set_cons_succ]
                refine wpAnyL_take (i := 13) (oi := { dst := some 116, op := Op.load 3 (Operand.tmp 115), type := 3, pos := "law.go:173", after := #[{ on := 12, ground := Ground.data }], guard := none }) (v := ?v13_2314) rfl (by kernel_rfl) (by kernel_rfl) (by kernel_rfl) (by kernel_rfl) (fun _ _ _ h => h) (Or.inl ⟨by rfl, ?h13_2314⟩) (by assumption) ?r13_2314
                case h13_2314 =>
                  intro W hSW
                  try dsimp only at hSW
                  have hcc := (hSW.cell (p := ⟨b12, 2, none⟩) HL22.out).trans HK22.out.2.1
                  go_simp
                  try with_reducible rfl
                try simp only [Act.put, List.setIfInBounds_toArray, List.set_cons_zero, List.set_cons_succ]
                refine wpAnyL_take (i := 14) (oi := { dst := some 117, op := Op.indexAddr 29 (Operand.tmp 114) (Operand.tmp 116), type := 0, pos := "law.go:173", after := #[{ on := 11, ground := Ground.data }, { on := 13, ground := Ground.data }], guard := none }) (v := ?v14_2315) rfl (by kernel_rfl) (by kernel_rfl) (by kernel_rfl) (by kernel_rfl) (fun _ _ _ h => h) (Or.inl ⟨by rfl, ?h14_2315⟩) (by assumption) ?r14_2315
                case h14_2315 =>
                  intro W hSW
                  try dsimp only at hSW
                  go_simp
                  try with_reducible rfl
                try simp only [Act.put, List.setIfInBounds_toArray, List.set_cons_zero, List.set_cons_succ]
                refine wpAnyL_take (i := 15) (oi := { dst := some 118, op := Op.load 3 (Operand.tmp 117), type := 3, pos := "law.go:173", after := #[{ on := 14, ground := Ground.data }], guard := none }) (v := ?v15_2316) rfl (by kernel_rfl) (by kernel_rfl) (by kernel_rfl) (by kernel_rfl) (fun _ _ _ h => h) (Or.inl ⟨by rfl, ?h15_2316⟩) (by assumption) ?r15_2316
                case h15_2316 =>
                  intro W hSW
                  try dsimp only at hSW
                  have hcc := (hSW.cell (p := ⟨gL, t, none⟩) HKA.out.2.2.2.2).trans HKA.out.2.1
                  go_simp
                  try with_reducible rfl
                try simp only [Act.put, List.setIfInBounds_toArray, List.set_cons_zero, List.set_cons_succ]
                refine wpAnyL_take (i := 16) (oi := { dst := some 119, op := Op.fieldAddr 35 (Operand.tmp 12) 3, type := 0, pos := "law.go:173", after := #[], guard := none }) (v := ?v16_2317) rfl (by kernel_rfl) (by kernel_rfl) (by kernel_rfl) (by kernel_rfl) (fun _ _ _ h => h) (Or.inl ⟨by rfl, ?h16_2317⟩) (by assumption) ?r16_2317
                case h16_2317 =>
                  intro W hSW
                  try dsimp only at hSW
                  go_simp
                  try with_reducible rfl
                try simp only [Act.put, List.setIfInBounds_toArray, List.set_cons_zero, List.set_cons_succ]
                refine wpAnyL_take (i := 17) (oi := { dst := some 120, op := Op.load 3 (Operand.tmp 119), type := 3, pos := "law.go:173", after := #[{ on := 16, ground := Ground.data }], guard := none }) (v := ?v17_2318) rfl (by kernel_rfl) (by kernel_rfl) (by kernel_rfl) (by kernel_rfl) (fun _ _ _ h => h) (Or.inl ⟨by rfl, ?h17_2318⟩) (by assumption) ?r17_2318
                case h17_2318 =>
                  intro W hSW
                  try dsimp only at hSW
                  have hcc := (hSW.cell (p := ⟨b12, 3, none⟩) HL22.out).trans HK22.out.2.2
                  go_simp
                  try with_reducible rfl
                try simp only [Act.put, List.setIfInBounds_toArray, List.set_cons_zero, List.set_cons_succ]
                refine wpAnyL_take (i := 18) (oi := { dst := some 121, op := Op.binOp BinOp.sub 3 (Operand.tmp 118) (Operand.tmp 120) 3, type := 3, pos := "law.go:173", after := #[{ on := 15, ground := Ground.data }, { on := 17, ground := Ground.data }], guard := none }) (v := ?v18_2319) rfl (by kernel_rfl) (by kernel_rfl) (by kernel_rfl) (by kernel_rfl) (fun _ _ _ h => h) (Or.inl ⟨by rfl, ?h18_2319⟩) (by assumption) ?r18_2319
                case h18_2319 =>
                  intro W hSW
                  try dsimp only at hSW
                  go_simp
                  try with_reducible rfl
                try simp only [Act.put, List.setIfInBounds_toArray, List.set_cons_zero, List.set_cons_succ]
                refine wpAnyL_take (i := 19) (oi := { dst := some 122, op := Op.indexAddr 29 (Operand.tmp 107) (Operand.tmp 109), type := 0, pos := "law.go:173", after := #[{ on := 4, ground := Ground.data }, { on := 6, ground := Ground.data }, { on := 0, ground := Ground.phase }, { on := 1, ground := Ground.phase }, { on := 2, ground := Ground.phase }, { on := 3, ground := Ground.phase }, { on := 4, ground := Ground.phase }, { on := 5, ground := Ground.phase }, { on := 6, ground := Ground.phase }, { on := 7, ground := Ground.phase }, { on := 8, ground := Ground.phase }, { on := 9, ground := Ground.phase }, { on := 10, ground := Ground.phase }, { on := 11, ground := Ground.phase }, { on := 12, ground := Ground.phase }, { on := 13, ground := Ground.phase }, { on := 14, ground := Ground.phase }, { on := 15, ground := Ground.phase }, { on := 16, ground := Ground.phase }, { on := 17, ground := Ground.phase }, { on := 18, ground := Ground.phase }], guard := none }) (v := ?v19_2320) rfl (by kernel_rfl) (by kernel_rfl) (by kernel_rfl) (by kernel_rfl) (fun _ _ _ h => h) (Or.inl ⟨by rfl, ?h19_2320⟩) (by assumption) ?r19_2320
                case h19_2320 =>
                  intro W hSW
                  try dsimp only at hSW
                  go_simp
                  try with_reducible rfl
                try simp only [Act.put, List.setIfInBounds_toArray, List.set_cons_zero, List.set_cons_succ]
                refine wpAnyL_ready (rs := [20]) (by kernel_rfl) (by simp) ?_
                refine AllReadyL.late (o := { dst := none, op := Op.store 3 (Operand.tmp 122) (Operand.tmp 121), type := 0, pos := "law.go:173", after := #[{ on := 19, ground := Ground.data }, { on := 18, ground := Ground.data }, { on := 0, ground := Ground.phase }, { on := 1, ground := Ground.phase }, { on := 2, ground := Ground.phase }, { on := 3, ground := Ground.phase }, { on := 4, ground := Ground.phase }, { on := 5, ground := Ground.phase }, { on := 6, ground := Ground.phase }, { on := 7, ground := Ground.phase }, { on := 8, ground := Ground.phase }, { on := 9, ground := Ground.phase }, { on := 10, ground := Ground.phase }, { on := 11, ground := Ground.phase }, { on := 12, ground := Ground.phase }, { on := 13, ground := Ground.phase }, { on := 14, ground := Ground.phase }, { on := 15, ground := Ground.phase }, { on := 16, ground := Ground.phase }, { on := 17, ground := Ground.phase }, { on := 18, ground := Ground.phase }], guard := none }) rfl (by rfl) (fun K hK => ?_) AllReadyL.nil
                rw [if_pos (by rfl)]
                have hk1 := (hv0.cell (p := ⟨gL, t, none⟩) HKA.out.2.2.2.2).trans HKA.out.2.1
                have hf1 := (hv0.frozen (p := ⟨gL, t, none⟩) HKA.out.2.2.2.2).trans HKA.out.2.2.1
                go_simp
                obtain ⟨w600, hw600⟩ : ∃ x, wd.setCell ⟨gL, t, none⟩ (.int .i64 nv) = x := ⟨_, rfl⟩
                rw [hw600]
                have HCMN : CM w w600 gG gU N (some ⟨gA, 0, none⟩) cA (setLf Ls j t nv) base col' (G.set t gv) U := by rw [← hw600]; exact HSL.out _ nv hv0
                have hkst : Keep (fun q => q = gL) w500 w600 := by rw [← hw600]; exact Keep.setCell (S := fun q => q = gL) (a := ⟨gL, t, none⟩) (Keep.of_below hv0) (.inl rfl) _
                have HLAN := HLA22.out.keeps hkst (fun b e => by have e : b = gL := e; rw [e]; exact HLF.out.1)
                have HQN := keeps_row HQ22.out hkst (show ¬ b12 = gL from HLF.out.2.1)
                have kA := (hkst.cell (p := ⟨gA, j, none⟩) HKA.out.2.2.2.1 (show ¬ gA = gL from HLF.out.2.2)).trans HKA.out.1
                have kL : w600.cell? ⟨gL, t, none⟩ = some (.int .i64 nv) := by rw [← hw600]; exact cell_set_eq _ _ hk1
                clear hkst
                have hv600 := hv0
                clear hw600 hk1 hf1
                refine hK.out _ _ ?_
                clear hK K
                try simp only [Act.put, List.setIfInBounds_toArray, List.set_cons_zero, List.set_cons_succ]
                refine wpAnyL_done (by kernel_rfl) ?_ _
                have k1 := HQN.cell 1
                have k2 := HQN.cell 2
                have k3 := HQN.cell 3
                replace k1 : w600.cell? ⟨b12, 1, none⟩ = some (Value.int .i64 (j : Int)) := by rw [← HKD.out.1]; exact k1
                replace k2 : w600.cell? ⟨b12, 2, none⟩ = some (Value.int .i64 (t : Int)) := by rw [← HKD.out.2.1]; exact k2
                replace k3 : w600.cell? ⟨b12, 3, none⟩ = some (Value.int .i64 cu) := by rw [← HKD.out.2.2.1]; exact k3
                have hlen := setLf_len Ls j t nv HJ.out.1
                have HBN : Hid (base ≤ w600.heap.size) := Lib.hid HCMN.hb
                have hLB : LoopB w w600 bl gG gU N (k + 1) base (some ⟨gA, 0, none⟩) Ls.length cA := ⟨setLf Ls j t nv, col', m', _, G.set t gv, U, hlen.symm, HCMN.done HLAN (invB HINV.out) (by rw [Bil.n_do]; exact HCB6.out.n) (by rw [HMP.out nv]; exact HLL2.out.1) (fun s hs => by
                  have h1 := HCB6.out.bal s hs
                  have h2 := HPC.out s
                  rw [set_getD _ _ _ (by rw [HCB6.out.lG]; exact HJ.out.2.1), h2]
                  have h3 := HGV.out
                  by_cases e : s = t
                  · subst e; rw [if_pos rfl, if_pos rfl]; omega
                  · rw [if_neg e, if_neg e]; omega)⟩
                have HLB := Lib.hid hLB
                have n1 : ¬ nv < 0 := by have := HLL2.out.2.1; omega
                have n2 : ¬ cu < 1 := by have := HJ.out.2.2.1; omega
                have hp65 := HLAN.per
                obtain ⟨ll, hll⟩ : ∃ x, Ls.length = x := ⟨_, rfl⟩
                have hl3 := HLL2.out.2.2
                rw [List.length_map, hll] at hl3
                rw [hll] at i5 HLB ⊢
                have hl6 : ll ≤ 70000 := by rw [← hll, HLL.out]; have := HCB6.out.lat.per; omega
                have m5 : IntKind.i64.wrap ((ll : Int) - 16) = (ll : Int) - 16 := IntWalk.i64_in _ (by omega)
                have n3 : ¬ ((j : Int) < (ll : Int) - 16) := by omega
                clear HCMN HLAN HQN hlen hLB hp65 hl3 hl6 hll hv600
                go_wp2_with fail
                go_quiet (fail)
                go_wp2_with fail
                go_roundw
                case rel => exact ⟨k + 1, ll, cA, some ⟨gA, 0, none⟩, by omega, rfl, by go_num, Lib.hid (LoopB.drewN HLB.out _), HBN⟩
                case measure => simp [intOf]; omega

            · have HE0 := Lib.hid h0
              have e02 : (er == 0) = false := by rw [beq_eq_false_iff_ne]; exact h0
              go_upto_region 15 with (first
                | (refine wpList_loadS rfl _ (.tmp 12) rfl q6 rfl Tryd.underlying35 size5 ?_)
                | (go_at_call 12; refine (HDO.out w6 HCB6.out).mono ?_; rintro e w7 ⟨v, col', m', rfl, h1, h2, hl', hk', hc'⟩; rw [h2 (fun hh => HE0.out (HER.out.symm.trans hh.1)), HER.out]; have HL7 := Lib.hid (And.intro hl' (And.intro hk' hc')); clear h1 h2 hl' hk' hc')
                | (refine wpList_allocRow rfl _ rfl _ info6 ?_; intro w8 r8 b8 z8)
                | (refine wpList_storeRow rfl _ (.tmp 13) (.tmp 59) rfl (l' := Z6) r8 rfl rfl size6 rfl rfl ?_; intro w9 r9 g9 z9))
              have hcb7 := HCB6.out.same HL7.out.1 (Bil.erred (by rw [HER.out]; exact HE0.out)) HL7.out.2.1 HL7.out.2.2
              have hk9 : Keep (fun q => w7.heap.size ≤ q) w7 w9 := (Keep.of_below b8).grown g9 fun q e => .inr (by have := Option.some.inj e; omega)
              have HN9 : Hid (LoopB w w9 bl gG gU N (k + 1) base Al nA cA) := Lib.hid ⟨Ls, col', m', l, G, U, HNA.out, hcb7.fresh hk9⟩
              have HBS9 : Hid (base ≤ w9.heap.size) := Lib.hid (Nat.le_trans HBS6.out (Nat.le_trans HL7.out.2.1.size hk9.size))
              clear hcb7 hk9 r8 r9 b8 g9 z8 z9 HL7 HCB6 HDO q6 HR6
              go_wp2_with fail
              go_roundw
              case rel => exact ⟨k + 1, nA, cA, Al, by omega, rfl, by go_num, HN9, HBS9⟩
              case measure => simp [intOf]; omega
          · obtain rfl : k = n := by omega
            clear hcb hnA
            go_wp2_with fail
            go_loopw [16] (fun u16 wx => ∃ i : Nat, i ≤ N ∧ u16 = .int .i64 i ∧ Hid (LoopB w wx bl gG gU N k base Al nA cA)) (fun u16 _ => N - (intOf u16).toNat)
            case atStart => exact ⟨0, Nat.zero_le _, rfl, HLO⟩
            case round =>
              obtain ⟨wx, hwx⟩ : ∃ x, wr = x := ⟨_, rfl⟩
              rw [hwx] at hrel ⊢
              clear hwx
              obtain ⟨i, hi, rfl, HLX⟩ := hrel
              obtain ⟨Ls, col, m, l, G, U, hnA, hcx⟩ := HLX.out
              have HCX := Lib.hid hcx
              have HNA := Lib.hid hnA
              by_cases hlt2 : i < N
              · have HPD := Lib.hid (fun W (hW : Below wx.heap.size wx W) => pending_any bl col m l W (hcx.lat.below hW) i)
                rw [atOfB (hcx.lat.lp.trans hcx.n) hlt2] at HPD
                have hba := hcx.bal i hlt2
                have hcG := hcx.fG.cell i hlt2
                have hcU := hcx.fU.cell i hlt2
                have hpn := hcx.inv.sm i
                obtain ⟨pp, hpp⟩ : ∃ x, l.pending.getD i 0 = x := ⟨_, rfl⟩
                obtain ⟨gg, hgg⟩ : ∃ x, G.getD i 0 = x := ⟨_, rfl⟩
                obtain ⟨uu, huu⟩ : ∃ x, U.getD i 0 = x := ⟨_, rfl⟩
                rw [hpp] at HPD hba hpn
                rw [hgg] at hcG hba
                rw [huu] at hcU hba
                have HCP := Lib.hid (And.intro hcG hcU)
                have HGL : Hid (gG < wx.heap.size ∧ gU < wx.heap.size) := Lib.hid ⟨hcx.fG.lt, hcx.fU.lt⟩
                have m1 : IntKind.i64.wrap (uu + pp) = gg := by rw [hba.1]; exact IntWalk.i64_in _ (by omega)
                have n1 : ¬ pp < 0 := by omega
                have i0 : (0 : Int) ≤ (i : Int) := by omega
                have i1 : (i : Int) < (N : Int) := by omega
                have hN16 : N ≤ 16 := HN.out.2
                clear hba hcG hcU hpn hpp hgg huu hcx hnA
                go_wp2_with fail
                have hv0 : Below wx.heap.size wx wx.drew := (Below.refl _ _).drew
                refine wp_region_held_drew (S := fun W => Below wx.heap.size wx W) (by kernel_rfl) (hv0) (fun hHeld => ?_)
                obtain ⟨wd, hwd⟩ : ∃ x, wx.drew = x := ⟨_, rfl⟩
                rw [hwd] at hv0 hHeld ⊢
                clear hwd
                refine wpAnyH_take (i := 0) (oi := { dst := some 151, op := Op.move (Operand.tmp 8), type := 29, pos := "law.go:179", after := #[], guard := none }) (v := ?v0_2901) rfl (by kernel_rfl) (by kernel_rfl) (by kernel_rfl) (fun _ _ _ h => h) (Or.inl ⟨by rfl, ?h0_2901⟩) (by assumption) ?r0_2901
                case h0_2901 =>
                  intro W hSW
                  try dsimp only at hSW
                  go_simp
                  try with_reducible rfl
                try simp only [Act.put, List.setIfInBounds_toArray, List.set_cons_zero, List.set_cons_succ]
                refine wpAnyH_take (i := 1) (oi := { dst := some 152, op := Op.move (Operand.tmp 16), type := 3, pos := "law.go:179", after := #[], guard := none }) (v := ?v1_2902) rfl (by kernel_rfl) (by kernel_rfl) (by kernel_rfl) (fun _ _ _ h => h) (Or.inl ⟨by rfl, ?h1_2902⟩) (by assumption) ?r1_2902
                case h1_2902 =>
                  intro W hSW
                  try dsimp only at hSW
                  go_simp
                  try with_reducible rfl
                try simp only [Act.put, List.setIfInBounds_toArray, List.set_cons_zero, List.set_cons_succ]
                refine wpAnyH_take (i := 2) (oi := { dst := some 153, op := Op.indexAddr 29 (Operand.tmp 151) (Operand.tmp 152), type := 0, pos := "law.go:179", after := #[{ on := 0, ground := Ground.data }, { on := 1, ground := Ground.data }], guard := none }) (v := ?v2_2903) rfl (by kernel_rfl) (by kernel_rfl) (by kernel_rfl) (fun _ _ _ h => h) (Or.inl ⟨by rfl, ?h2_2903⟩) (by assumption) ?r2_2903
                case h2_2903 =>
                  intro W hSW
                  try dsimp only at hSW
                  go_simp
                  try with_reducible rfl
                try simp only [Act.put, List.setIfInBounds_toArray, List.set_cons_zero, List.set_cons_succ]
                refine wpAnyH_take (i := 3) (oi := { dst := some 154, op := Op.load 3 (Operand.tmp 153), type := 3, pos := "law.go:179", after := #[{ on := 2, ground := Ground.data }], guard := none }) (v := ?v3_2904) rfl (by kernel_rfl) (by kernel_rfl) (by kernel_rfl) (fun _ _ _ h => h) (Or.inl ⟨by rfl, ?h3_2904⟩) (by assumption) ?r3_2904
                case h3_2904 =>
                  intro W hSW
                  try dsimp only at hSW
                  have hcc := (hSW.cell (p := ⟨gG, i, none⟩) HGL.out.1).trans HCP.out.1
                  go_simp
                  try with_reducible rfl
                try simp only [Act.put, List.setIfInBounds_toArray, List.set_cons_zero, List.set_cons_succ]
                refine wpAnyH_take (i := 4) (oi := { dst := some 155, op := Op.move (Operand.tmp 9), type := 29, pos := "law.go:179", after := #[], guard := none }) (v := ?v4_2905) rfl (by kernel_rfl) (by kernel_rfl) (by kernel_rfl) (fun _ _ _ h => h) (Or.inl ⟨by rfl, ?h4_2905⟩) (by assumption) ?r4_2905
                case h4_2905 =>
                  intro W hSW
                  try dsimp only at hSW
                  go_simp
                  try with_reducible rfl
                try simp only [Act.put, List.setIfInBounds_toArray, List.set_cons_zero, List.set_cons_succ]
                refine wpAnyH_take (i := 5) (oi := { dst := some 156, op := Op.move (Operand.tmp 16), type := 3, pos := "law.go:179", after := #[], guard := none }) (v := ?v5_2906) rfl (by kernel_rfl) (by kernel_rfl) (by kernel_rfl) (fun _ _ _ h => h) (Or.inl ⟨by rfl, ?h5_2906⟩) (by assumption) ?r5_2906
                case h5_2906 =>
                  intro W hSW
                  try dsimp only at hSW
                  go_simp
                  try with_reducible rfl
                try simp only [Act.put, List.setIfInBounds_toArray, List.set_cons_zero, List.set_cons_succ]
                refine wpAnyH_take (i := 6) (oi := { dst := some 157, op := Op.indexAddr 29 (Operand.tmp 155) (Operand.tmp 156), type := 0, pos := "law.go:179", after := #[{ on := 4, ground := Ground.data }, { on := 5, ground := Ground.data }], guard := none }) (v := ?v6_2907) rfl (by kernel_rfl) (by kernel_rfl) (by kernel_rfl) (fun _ _ _ h => h) (Or.inl ⟨by rfl, ?h6_2907⟩) (by assumption) ?r6_2907
                case h6_2907 =>
                  intro W hSW
                  try dsimp only at hSW
                  go_simp
                  try with_reducible rfl
                try simp only [Act.put, List.setIfInBounds_toArray, List.set_cons_zero, List.set_cons_succ]
                refine wpAnyH_take (i := 7) (oi := { dst := some 158, op := Op.load 3 (Operand.tmp 157), type := 3, pos := "law.go:179", after := #[{ on := 6, ground := Ground.data }], guard := none }) (v := ?v7_2908) rfl (by kernel_rfl) (by kernel_rfl) (by kernel_rfl) (fun _ _ _ h => h) (Or.inl ⟨by rfl, ?h7_2908⟩) (by assumption) ?r7_2908
                case h7_2908 =>
                  intro W hSW
                  try dsimp only at hSW
                  have hcc := (hSW.cell (p := ⟨gU, i, none⟩) HGL.out.2).trans HCP.out.2
                  go_simp
                  try with_reducible rfl
                try simp only [Act.put, List.setIfInBounds_toArray, List.set_cons_zero, List.set_cons_succ]
                refine wpAnyH_take (i := 8) (oi := { dst := some 159, op := Op.move (Operand.tmp 6), type := 25, pos := "law.go:179", after := #[], guard := none }) (v := ?v8_2909) rfl (by kernel_rfl) (by kernel_rfl) (by kernel_rfl) (fun _ _ _ h => h) (Or.inl ⟨by rfl, ?h8_2909⟩) (by assumption) ?r8_2909
                case h8_2909 =>
                  intro W hSW
                  try dsimp only at hSW
                  go_simp
                  try with_reducible rfl
                try simp only [Act.put, List.setIfInBounds_toArray, List.set_cons_zero, List.set_cons_succ]
                refine wpAnyH_take (i := 9) (oi := { dst := some 160, op := Op.move (Operand.tmp 16), type := 3, pos := "law.go:179", after := #[], guard := none }) (v := ?v9_2910) rfl (by kernel_rfl) (by kernel_rfl) (by kernel_rfl) (fun _ _ _ h => h) (Or.inl ⟨by rfl, ?h9_2910⟩) (by assumption) ?r9_2910
                case h9_2910 =>
                  intro W hSW
                  try dsimp only at hSW
                  go_simp
                  try with_reducible rfl
                try simp only [Act.put, List.setIfInBounds_toArray, List.set_cons_zero, List.set_cons_succ]
                refine wpAnyH_ready (rs := [10]) (by kernel_rfl) (by simp) ?_
                refine AllReadyH.cons (o := { dst := some 161, op := Op.call { callee := Callee.value (Operand.func 15), args := #[Operand.tmp 159, Operand.tmp 160], argTypes := #[25, 3] }, type := 3, pos := "law.go:179", after := #[{ on := 8, ground := Ground.data }, { on := 9, ground := Ground.data }], guard := none }) rfl (fun K hK => ?_) AllReadyH.nil
                go_simp
                refine (HPD.out _ hv0).mono ?_
                rintro e w300 ⟨rfl, hw300⟩
                have hv300 : Below wx.heap.size wx w300 := by rw [hw300]; exact hv0
                clear hw300
                refine hK.out _ _ (hv300) (fun hHeld => ?_)
                clear hK K
                try simp only [Act.put, List.setIfInBounds_toArray, List.set_cons_zero, List.set_cons_succ]
                refine wpAnyH_take (i := 11) (oi := { dst := some 162, op := Op.binOp BinOp.add 3 (Operand.tmp 158) (Operand.tmp 161) 3, type := 3, pos := "law.go:179", after := #[{ on := 7, ground := Ground.data }, { on := 10, ground := Ground.data }], guard := none }) (v := ?v11_2911) rfl (by kernel_rfl) (by kernel_rfl) (by kernel_rfl) (fun _ _ _ h => h) (Or.inl ⟨by rfl, ?h11_2911⟩) (by assumption) ?r11_2911
                case h11_2911 =>
                  intro W hSW
                  try dsimp only at hSW
                  go_simp
                  try with_reducible rfl
                try simp only [Act.put, List.setIfInBounds_toArray, List.set_cons_zero, List.set_cons_succ]
                refine wpAnyH_take (i := 12) (oi := { dst := some 163, op := Op.binOp BinOp.neq 3 (Operand.tmp 154) (Operand.tmp 162) 3, type := 4, pos := "law.go:179", after := #[{ on := 3, ground := Ground.data }, { on := 11, ground := Ground.data }], guard := none }) (v := ?v12_2912) rfl (by kernel_rfl) (by kernel_rfl) (by kernel_rfl) (fun _ _ _ h => h) (Or.inl ⟨by rfl, ?h12_2912⟩) (by assumption) ?r12_2912
                case h12_2912 =>
                  intro W hSW
                  try dsimp only at hSW
                  go_simp
                  try with_reducible rfl
                try simp only [Act.put, List.setIfInBounds_toArray, List.set_cons_zero, List.set_cons_succ]
                refine wpAnyH_take (i := 13) (oi := { dst := some 164, op := Op.move (Operand.tmp 163), type := 4, pos := "law.go:179", after := #[{ on := 12, ground := Ground.data }, { on := 10, ground := Ground.chain }], guard := none }) (v := ?v13_2913) rfl (by kernel_rfl) (by kernel_rfl) (by kernel_rfl) (fun _ _ _ h => h) (Or.inl ⟨by rfl, ?h13_2913⟩) (by assumption) ?r13_2913
                case h13_2913 =>
                  intro W hSW
                  try dsimp only at hSW
                  go_simp
                  try with_reducible rfl
                try simp only [Act.put, List.setIfInBounds_toArray, List.set_cons_zero, List.set_cons_succ]
                refine wpAnyH_take (i := 14) (oi := { dst := some 165, op := Op.move (Operand.tmp 6), type := 25, pos := "law.go:179", after := #[{ on := 13, ground := Ground.guard }], guard := some (13, false) }) (v := ?v14_2914) rfl (by kernel_rfl) (by kernel_rfl) (by kernel_rfl) (fun _ _ _ h => h) (Or.inl ⟨by rfl, ?h14_2914⟩) (by assumption) ?r14_2914
                case h14_2914 =>
                  intro W hSW
                  try dsimp only at hSW
                  go_simp
                  try with_reducible rfl
                try simp only [Act.put, List.setIfInBounds_toArray, List.set_cons_zero, List.set_cons_succ]
                refine wpAnyH_take (i := 15) (oi := { dst := some 166, op := Op.move (Operand.tmp 16), type := 3, pos := "law.go:179", after := #[{ on := 13, ground := Ground.guard }], guard := some (13, false) }) (v := ?v15_2915) rfl (by kernel_rfl) (by kernel_rfl) (by kernel_rfl) (fun _ _ _ h => h) (Or.inl ⟨by rfl, ?h15_2915⟩) (by assumption) ?r15_2915
                case h15_2915 =>
                  intro W hSW
                  try dsimp only at hSW
                  go_simp
                  try with_reducible rfl
                try simp only [Act.put, List.setIfInBounds_toArray, List.set_cons_zero, List.set_cons_succ]
                refine wpAnyH_ready (rs := [16]) (by kernel_rfl) (by simp) ?_
                refine AllReadyH.cons (o := { dst := some 167, op := Op.call { callee := Callee.value (Operand.func 15), args := #[Operand.tmp 165, Operand.tmp 166], argTypes := #[25, 3] }, type := 3, pos := "law.go:179", after := #[{ on := 14, ground := Ground.data }, { on := 15, ground := Ground.data }, { on := 13, ground := Ground.chain }, { on := 13, ground := Ground.guard }], guard := some (13, false) }) rfl (fun K hK => ?_) AllReadyH.nil
                go_simp
                refine (HPD.out _ hv300).mono ?_
                rintro e w301 ⟨rfl, hw301⟩
                have hv301 : Below wx.heap.size wx w301 := by rw [hw301]; exact hv300
                clear hw301
                refine hK.out _ _ (hv301) (fun hHeld => ?_)
                clear hK K
                try simp only [Act.put, List.setIfInBounds_toArray, List.set_cons_zero, List.set_cons_succ]
                refine wpAnyH_take (i := 17) (oi := { dst := some 168, op := Op.binOp BinOp.lss 3 (Operand.tmp 167) (Operand.const (Value.int IntKind.i64 0)) 3, type := 4, pos := "law.go:179", after := #[{ on := 16, ground := Ground.data }, { on := 13, ground := Ground.guard }], guard := some (13, false) }) (v := ?v17_2916) rfl (by kernel_rfl) (by kernel_rfl) (by kernel_rfl) (fun _ _ _ h => h) (Or.inl ⟨by rfl, ?h17_2916⟩) (by assumption) ?r17_2916
                case h17_2916 =>
                  intro W hSW
                  try dsimp only at hSW
                  go_simp
                  try with_reducible rfl
                try simp only [Act.put, List.setIfInBounds_toArray, List.set_cons_zero, List.set_cons_succ]
                refine wpAnyH_take (i := 18) (oi := { dst := some 169, op := Op.pick (Operand.tmp 164) (Operand.const (Value.bool true)) (Operand.tmp 168), type := 4, pos := "law.go:179", after := #[{ on := 13, ground := Ground.data }, { on := 17, ground := Ground.data }], guard := none }) (v := ?v18_2917) rfl (by kernel_rfl) (by kernel_rfl) (by kernel_rfl) (fun _ _ _ h => h) (Or.inl ⟨by rfl, ?h18_2917⟩) (by assumption) ?r18_2917
                case h18_2917 =>
                  intro W hSW
                  try dsimp only at hSW
                  go_simp
                  try with_reducible rfl
                try simp only [Act.put, List.setIfInBounds_toArray, List.set_cons_zero, List.set_cons_succ]
                refine wpAnyH_done (by kernel_rfl) ?_ _
                have HLF : Hid (LoopB w _ bl gG gU N k base Al nA cA) := Lib.hid ⟨Ls, col, m, l, G, U, HNA.out, HCX.out.below hv301⟩
                clear hv301
                go_wp2_with fail
                go_roundw
                case rel => exact ⟨i + 1, by omega, by go_num, HLF⟩
                case measure => simp [intOf]; omega
              · obtain rfl : i = N := by omega
                have HBE := Lib.hid hcx.bel
                clear hcx hnA
                go_wp2_with fail
                go_ret
                exact ⟨rfl, HBE.out⟩
  · have hf : fewB L = false := by simpa using hfew
    rw [hf] at HF
    clear hf
    clear hL hnc hcc hok rd hT hfew
    go_enter Tryd.func4, Tryd.ntmps4
    go_wp2_with (first
      | (go_at_call 9; refine HS.out.mono ?_; rintro e w1 ⟨rfl, b1⟩)
      | (go_at_call 10; refine (HF.out w1 b1).mono ?_; rintro e w2 ⟨rfl, hw2⟩; rw [hw2]; clear hw2 w2))
    go_ret
    exact ⟨rfl, b1⟩
end Go.Proofs.YtkjomnakolhdcaaDoor
