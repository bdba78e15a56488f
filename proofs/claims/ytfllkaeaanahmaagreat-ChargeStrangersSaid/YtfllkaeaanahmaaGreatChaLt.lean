/- ChargeStrangers: a tenant without blocks and without references in used stripes is charged nothing. Conditions: none. -/
import Derived.Test.YtfllkaeaanahmaaGreatChaO
namespace Go.Proofs.YtfllkaeaanahmaaGreat
set_option linter.unusedVariables false
set_option linter.unusedSimpArgs false
open Go.RowKit
open W (FRow)
def NoR (rs : List S.Str.Rw) (j : Int) (c : Chk.Ck) (x : Chk.Rf) : Prop := x.t = j → c.lost = false → Cha.foundB rs c.at_.r c.at_.g = true → False
set_option maxRecDepth 100000 in
set_option maxHeartbeats 6400000 in
theorem lawCStr (cf : S.Str.Cfg) (A : Option Addr) (n c : Nat) (D : List S.RR) (hnc : n ≤ c) (A1 : Option Addr) (n1 c1 : Nat) (ops : List Chk.Op) (hl : ops.length = n1) (hnc1 : n1 ≤ c1) (hc1 : c1 ≤ 140737488355328) (hok : ∀ o ∈ ops, OpOk o) (A2 : Option Addr) (n2 c2 : Nat) (bs : List Int) (hl2 : bs.length = n2) (hnc2 : n2 ≤ c2) (hc2 : c2 ≤ 140737488355328) (hxr : ∀ x ∈ bs, -9223372036854775808 ≤ x ∧ x ≤ 9223372036854775807) (x4 : Int) (l4 : -9223372036854775808 ≤ x4) (u4 : x4 ≤ 9223372036854775807) (w : World) (hrd : S.RowsIn w w.heap.size A n D (D.map S.RR.r)) (hr : Rd w w.heap.size 9 A1 n1 (ops.flatMap opL)) (hb : Rd w w.heap.size 1 A2 n2 (ivs bs)) :
  Calls Tryz.prog 6 #[S.cfV cf, .slice A n c, .slice A1 n1 c1, .slice A2 n2 c2, .int .i64 x4] w fun e w' => e = .returned (.bool true) ∧ Below w.heap.size w w' := by
 clear hxr l4 u4
 have HSN := Lib.hid sanity34_any
 obtain ⟨ca, cl, w0, hca, hcl, hw0, hrow, hb0, hs0⟩ := cfg_box cf w
 have hmx := hrd.mx
 obtain ⟨fq, hfq⟩ : ∃ q, decide (cf.rows ≤ 64 ∧ n ≤ 64) = q := ⟨_, rfl⟩
 have HFW := Lib.hid (fun (W : World) => few_any cf A n c hrd.mx W fq hfq)
 rw [hca] at HFW ⊢
 have HW := Lib.hid hw0
 have HB := Lib.hid hb0
 have HR := Lib.hid hrow.1
 have HCL := Lib.hid (And.intro hcl hrow.2)
 have HRD := Lib.hid hrd
 have HBL := Lib.hid (And.intro hl2 (And.intro (show n2 ≤ maxLen by unfold maxLen; omega) hb))
 by_cases hn : n1 ≤ 120
 case neg =>
  have HBU := Lib.hid (fun W => build34_long A1 n1 c1 W (by omega))
  clear hw0 hb0 hs0 hcl hca hrow hr hok hl hrd hfq hb hl2
  go_enter Tryz.func6, Tryz.ntmps6
  go_upto_region 1 with fail
  rw [HW.out]
  go_wp2_with (first
   | (go_at_call 8; refine (HBU.out _).mono ?_; rintro e w1 ⟨rfl, b1⟩; have HB1 := Lib.hid (HB.out.trans (b1.mono HB.out.size)); clear b1)
   | (go_at_call 10; refine (HSN.out _).mono ?_; rintro e w3 ⟨rfl, b3⟩))
  go_ret
  exact ⟨rfl, HB1.out.trans (b3.mono HB1.out.size)⟩
 have HOO := Lib.hid (show OpsAt w0 A1 n1 ops from OpsAt.below (w := w) ⟨hr, hl, fun o ho => (hok o ho).2.2.2.2.2⟩ hb0)
 have HBU := Lib.hid (build34_any A1 n1 c1 ops w0 hn HOO.out)
 obtain ⟨l, hll⟩ : ∃ l, Chk.run [] ops = l := ⟨_, rfl⟩
 rw [hll] at HBU
 cases fq with
 | false =>
  clear hw0 hb0 hs0 hcl hca hrow hr hok hl hrd hfq hll hb hl2
  go_enter Tryz.func6, Tryz.ntmps6
  go_upto_region 1 with fail
  rw [HW.out]
  go_upto_region 2 with (go_at_call 8; refine HBU.out.mono ?_; rintro e w1 ⟨a, r, rfl, hp1⟩)
  have HP := Lib.hid hp1
  have HB1 := Lib.hid (HB.out.trans (hp1.b.mono HB.out.size))
  have hcr : w1.rangeAt w.heap.size 0 cl := fun q u hq => by rw [Nat.zero_add, (HR.out.below' hp1.b).cell]; exact hq
  clear hp1
  go_wp2_with (first
   | (have tok := hcr; refine S.wpList_load_rg rfl _ (.tmp 5) rfl w.heap.size 0 rfl cl _ hcr Tryz.underlying23 rfl (by rw [HCL.out.2.1]; exact S.sizeCf) ?_; rw [HCL.out.1]; clear tok)
   | (go_at_call 9; refine (HFW.out _).mono ?_; rintro e w2 ⟨rfl, b2⟩; have HB2 := Lib.hid (HB1.out.trans (b2.mono HB1.out.size)); clear b2 hcr)
   | (go_at_call 10; refine (HSN.out _).mono ?_; rintro e w3 ⟨rfl, b3⟩))
  go_ret
  exact ⟨rfl, HB2.out.trans (b3.mono HB2.out.size)⟩
 | true =>
  have HCA := Lib.hid hca
  have hln := hrd.len.2
  have HLN := Lib.hid hln
  clear hw0 hb0 hs0 hcl hca hrow hr hok hl hrd hfq hll hb hl2 hn hln
  by_cases hgood : (0 ≤ x4 ∧ x4 ≤ 15) ∧ n2 = 16 ∧ bs.getD x4.toNat 0 = 0
  case neg =>
   have hc : x4 < 0 ∨ (0 ≤ x4 ∧ 15 < x4) ∨ (0 ≤ x4 ∧ x4 ≤ 15 ∧ ((n2 : Int) != 16) = true) ∨ (0 ≤ x4 ∧ x4 ≤ 15 ∧ n2 = 16 ∧ bs.getD x4.toNat 0 ≠ 0) := by
    rcases Int.lt_or_le x4 0 with h | h
    ·
     exact .inl h
    ·
     rcases Int.lt_or_le 15 x4 with h2 | h2
     ·
      exact .inr (.inl ⟨h, h2⟩)
     ·
      by_cases h3 : n2 = 16
      ·
       exact .inr (.inr (.inr ⟨h, h2, h3, fun h4 => hgood ⟨⟨h, h2⟩, h3, h4⟩⟩))
      ·
       exact .inr (.inr (.inl ⟨h, h2, by rw [bne_iff_ne]; omega⟩))
   clear hgood
   have h4 : ∀ (w1 : World) (_ : Below w.heap.size w w1), (0 ≤ x4 ∧ x4 ≤ 15 ∧ n2 = 16 ∧ bs.getD x4.toNat 0 ≠ 0) → ∃ (b o : Nat) (j : Nat) (y : Int), x4 = (j : Int) ∧ A2 = some ⟨b, o, none⟩ ∧ w1.cell? ⟨b, o + j, none⟩ = some (.int .i64 y) ∧ (y != 0) = true := fun w1 hw1 ⟨h1, h2, h3, h5⟩ => by
    obtain ⟨b, o, e, _, hc⟩ := (HBL.out.2.2.below hw1).int HBL.out.1 (by omega)
    exact ⟨b, o, x4.toNat, _, by omega, e, hc x4.toNat (by omega), by rw [bne_iff_ne]; exact h5⟩
   have H4 := Lib.hid h4
   clear h4
   rcases hc with e1 | ⟨e1, e2⟩ | ⟨e1, e2, e3⟩ | hc
   iterate 3
    ·
     go_enter Tryz.func6, Tryz.ntmps6
     go_upto_region 1 with fail
     rw [HW.out]
     go_upto_region 2 with (go_at_call 8; refine HBU.out.mono ?_; rintro e w1 ⟨a, r, rfl, hp1⟩)
     have HB1 := Lib.hid (HB.out.trans (hp1.b.mono HB.out.size))
     have hcr : w1.rangeAt w.heap.size 0 cl := fun q u hq => by rw [Nat.zero_add, (HR.out.below' hp1.b).cell]; exact hq
     clear hp1
     go_wp2_with (first
      | (have tok := hcr; refine S.wpList_load_rg rfl _ (.tmp 5) rfl w.heap.size 0 rfl cl _ hcr Tryz.underlying23 rfl (by rw [HCL.out.2.1]; exact S.sizeCf) ?_; rw [HCL.out.1]; clear tok)
      | (go_at_call 9; refine (HFW.out _).mono ?_; rintro e w2 ⟨rfl, b2⟩; have HB2 := Lib.hid (HB1.out.trans (b2.mono HB1.out.size)); clear b2 hcr)
      | (go_at_call 10; refine (HSN.out _).mono ?_; rintro e w3 ⟨rfl, b3⟩))
     go_ret
     exact ⟨rfl, HB2.out.trans (b3.mono HB2.out.size)⟩
   ·
    have HC4 := Lib.hid hc
    obtain ⟨e1, e2, rfl, -⟩ := hc
    go_enter Tryz.func6, Tryz.ntmps6
    go_upto_region 1 with fail
    rw [HW.out]
    go_upto_region 2 with (go_at_call 8; refine HBU.out.mono ?_; rintro e w1 ⟨a, r, rfl, hp1⟩)
    have HB1 := Lib.hid (HB.out.trans (hp1.b.mono HB.out.size))
    have hcr : w1.rangeAt w.heap.size 0 cl := fun q u hq => by rw [Nat.zero_add, (HR.out.below' hp1.b).cell]; exact hq
    obtain ⟨b0, o0, j, y, rfl, rfl, -, hy⟩ := H4.out _ HB1.out HC4.out
    have HQ : Hid (∀ W, Below w1.heap.size w1 W → W.cell? ⟨b0, o0 + j, none⟩ = some (.int .i64 (bs.getD j 0)) ∧ (bs.getD j 0 != 0) = true) := Lib.hid fun V hV => by
     have hwv := HB1.out.trans (hV.mono HB1.out.size)
     obtain ⟨b, o, e, _, hc⟩ := (HBL.out.2.2.below hwv).int HBL.out.1 (by omega)
     have := Option.some.inj e
     have e1 : b0 = b := congrArg Addr.block this
     have e2 : o0 = o := congrArg Addr.off this
     subst e1 e2
     exact ⟨hc j (by omega), by rw [bne_iff_ne]; have := HC4.out.2.2.2; rwa [Int.toNat_natCast] at this⟩
    obtain ⟨yy, hyy⟩ : ∃ z, bs.getD j 0 = z := ⟨_, rfl⟩
    rw [hyy] at HQ
    clear hp1 hy hyy
    go_wp2_with (first
     | (have tok := hcr; refine S.wpList_load_rg rfl _ (.tmp 5) rfl w.heap.size 0 rfl cl _ hcr Tryz.underlying23 rfl (by rw [HCL.out.2.1]; exact S.sizeCf) ?_; rw [HCL.out.1]; clear tok)
     | (go_at_call 9; refine (HFW.out _).mono ?_; rintro e w2 ⟨rfl, b2⟩; have q1 := (HQ.out w2 b2).1; have q2 := (HQ.out w2 b2).2; have HB2 := Lib.hid (HB1.out.trans (b2.mono HB1.out.size)); clear b2 hcr)
     | (go_at_call 10; refine (HSN.out _).mono ?_; rintro e w3 ⟨rfl, b3⟩))
    go_ret
    exact ⟨rfl, HB2.out.trans (b3.mono HB2.out.size)⟩
  obtain ⟨⟨ha, hb⟩, rfl, hc0⟩ := hgood
  obtain ⟨tj, rfl⟩ : ∃ tj : Nat, x4 = (tj : Int) := ⟨x4.toNat, by omega⟩
  rw [Int.toNat_natCast] at hc0
  obtain ⟨b0, o0, rfl, hb0, hcq⟩ := HBL.out.2.2.int HBL.out.1 (by omega)
  have hq0 := hcq tj (by omega)
  rw [hc0] at hq0
  have HQ := Lib.hid (And.intro hq0 hb0)
  have HC0 := Lib.hid hc0
  clear hcq hq0 hb0 hc0
  go_enter Tryz.func6, Tryz.ntmps6
  go_upto_region 1 with fail
  rw [HW.out]
  go_upto_region 2 with (go_at_call 8; refine HBU.out.mono ?_; rintro e w1 ⟨a, r, rfl, hp1⟩)
  have HP := Lib.hid hp1
  have HB1 := Lib.hid (HB.out.trans (hp1.b.mono HB.out.size))
  have HCR1 := Lib.hid (HR.out.below' hp1.b)
  have hcr : w1.rangeAt w.heap.size 0 cl := fun q u hq => by rw [Nat.zero_add, HCR1.out.cell]; exact hq
  clear hp1
  go_upto_region 4 with (first
   | (have tok := hcr; refine S.wpList_load_rg rfl _ (.tmp 5) rfl w.heap.size 0 rfl cl _ hcr Tryz.underlying23 rfl (by rw [HCL.out.2.1]; exact S.sizeCf) ?_; rw [HCL.out.1]; clear tok)
   | (go_at_call 9; refine (HFW.out _).mono ?_; rintro e w2 ⟨rfl, b2⟩; have q1 : w2.cell? ⟨b0, o0 + tj, none⟩ = some (.int .i64 0) := ((HB1.out.trans (b2.mono HB1.out.size)).cell (p := ⟨b0, o0 + tj, none⟩) HQ.out.2).trans HQ.out.1; have HB2 := Lib.hid b2; clear b2))
  clear hcr q1
  have HWV : Hid (∀ W, Below w2.heap.size w2 W → Below w.heap.size w W) := Lib.hid fun V hV => (HB1.out.trans (HB2.out.mono HB1.out.size)).trans (hV.mono (HB1.out.trans (HB2.out.mono HB1.out.size)).size)
  obtain ⟨o, ho⟩ : ∃ o, Cha.ofO l cf (D.map S.RR.r) bs = o := ⟨_, rfl⟩
  obtain ⟨N4, X, H4, E, hXN, hN16, hU, hU0, hU1⟩ := shU o
  have HPO : Hid (∀ W, Below w2.heap.size w2 W → Calls Tryz.prog 11 #[.agg ca, .slice A n c, .pointer (some ⟨a, 0, none⟩), .slice (some ⟨b0, o0, none⟩) 16 c2] W (ShU W N4 X H4 E)) := Lib.hid fun V hV => by
   obtain ⟨F, T, F', T', ⟨t, ht⟩, ⟨t', ht'⟩, -⟩ := HP.out
   have hwV := HWV.out V hV
   have := pof_any (HB2.out.trans (hV.mono HB2.out.size)) ht (HRD.out.below hwV) hwV.size hnc cf _ 16 c2 bs HBL.out.1 HBL.out.2.1 hwV.size (HBL.out.2.2.below hwV)
   rw [ho, HCA.out] at this
   exact this.mono fun e w' h => hU _ _ _ h
  have HO := Lib.hid ho
  have HCR1 := Lib.hid (HCR1.out.below' HB2.out)
  have Hw2 := Lib.hid (Below.refl w2.heap.size w2)
  unfold ShU at HPO
  clear ho hXN hN16 hU
  cases o with
  | none =>
   obtain rfl : E = 1 := hU0 rfl
   clear hU0 hU1
   have hcr : w2.rangeAt w.heap.size 0 cl := fun q u hq => by rw [Nat.zero_add, (HCR1.out.below' Hw2.out).cell]; exact hq
   go_upto_region 5 with (first
    | (have tok := hcr; refine S.wpList_load_rg rfl _ (.tmp 5) rfl w.heap.size 0 rfl cl _ hcr Tryz.underlying23 rfl (by rw [HCL.out.2.1]; exact S.sizeCf) ?_; rw [HCL.out.1]; clear tok)
    | (have tok := r4; refine wpList_storeRow rfl _ (.tmp 14) (.tmp 63) rfl (l' := [.slice A4 N4 c4, .int .i64 H4]) r4 rfl rfl sizeSP rfl rfl ?_; intro w45 r45 g45 z45; clear tok)
    | (go_at_call 11; refine (HPO.out _ Hw2.out).mono ?_; rintro e w43 ⟨A4, c4, rfl, rd4, b43⟩)
    | (refine wpList_allocRow rfl _ rfl _ infoSP ?_; intro w44 r4 b4 z4))
   have hc4 : Below w43.heap.size w43 w45 := b4.grown g45 b4.size (fun i hi => by have := Option.some.inj hi; omega)
   have hd4 := b43.trans (hc4.mono b43.size)
   have HBR4 := Lib.hid hd4
   have Hw45 := Lib.hid (Hw2.out.trans (hd4.mono Hw2.out.size))
   have HX4 := Lib.hid (And.intro r45 ((rd4.below hc4).more hc4.size))
   obtain ⟨b49, hb49⟩ : ∃ y, w43.heap.size = y := ⟨_, rfl⟩
   rw [hb49] at HX4
   try rw [hb49]
   clear hcr r4 b4 z4 r45 g45 z45 hc4 hd4 hb49 rd4 b43
   try simp only [PT]
   go_wp2_with (go_at_call 10; refine (HSN.out _).mono ?_; rintro e w3 ⟨rfl, b3⟩)
   go_ret
   have q4 := HWV.out _ Hw45.out
   exact ⟨rfl, q4.trans (b3.mono q4.size)⟩
  | some s =>
   obtain ⟨rfl, rfl, rfl, rfl⟩ := hU1 s rfl
   clear hU0 hU1
   obtain ⟨h4, hh4⟩ : ∃ y, s.h = y := ⟨_, rfl⟩
   rw [hh4] at HPO
   clear hh4
   have hcr : w2.rangeAt w.heap.size 0 cl := fun q u hq => by rw [Nat.zero_add, (HCR1.out.below' Hw2.out).cell]; exact hq
   go_upto_region 7 with (first
    | (have tok := hcr; refine S.wpList_load_rg rfl _ (.tmp 5) rfl w.heap.size 0 rfl cl _ hcr Tryz.underlying23 rfl (by rw [HCL.out.2.1]; exact S.sizeCf) ?_; rw [HCL.out.1]; clear tok)
    | (have tok := r4; refine wpList_storeRow rfl _ (.tmp 14) (.tmp 63) rfl (l' := [.slice A4 16 c4, .int .i64 h4]) r4 rfl rfl sizeSP rfl rfl ?_; intro w45 r45 g45 z45; clear tok)
    | (go_at_call 11; refine (HPO.out _ Hw2.out).mono ?_; rintro e w43 ⟨A4, c4, rfl, rd4, b43⟩)
    | (refine wpList_allocRow rfl _ rfl _ infoSP ?_; intro w44 r4 b4 z4))
   have hc4 : Below w43.heap.size w43 w45 := b4.grown g45 b4.size (fun i hi => by have := Option.some.inj hi; omega)
   have hd4 := b43.trans (hc4.mono b43.size)
   have HBR4 := Lib.hid hd4
   have Hw45 := Lib.hid (Hw2.out.trans (hd4.mono Hw2.out.size))
   have HX4 := Lib.hid (And.intro r45 ((rd4.below hc4).more hc4.size))
   obtain ⟨b49, hb49⟩ : ∃ y, w43.heap.size = y := ⟨_, rfl⟩
   rw [hb49] at HX4
   try rw [hb49]
   clear hcr r4 b4 z4 r45 g45 z45 hc4 hd4 hb49 rd4 b43
   try simp only [PT]
   obtain ⟨F, T, F', T', ⟨t, ht⟩, ⟨t', ht'⟩, -⟩ := id HP.out
   have HRT := Lib.hid ht'
   have hI := ht.inv
   have HI := Lib.hid hI
   have HNL := Lib.hid ht'.len.1
   have hmx2 := ht'.max
   have k0 : w45.cell? ⟨r, 0, none⟩ = some (.slice t'.A t'.n t'.c) := (ht'.below (HB2.out.trans (Hw45.out.mono HB2.out.size))).cell
   clear ht ht' hI
   obtain ⟨RA, hRA⟩ : ∃ y, t'.A = y := ⟨_, rfl⟩
   obtain ⟨nl, hnl⟩ : ∃ y, t'.n = y := ⟨_, rfl⟩
   obtain ⟨rc, hrc⟩ : ∃ y, t'.c = y := ⟨_, rfl⟩
   rw [hRA, hnl, hrc] at k0
   rw [hnl] at HNL hmx2
   have HT := Lib.hid (And.intro hRA (And.intro hnl hrc))
   clear hRA hnl hrc
   go_upto_region 8 with fail
   clear k0
   go_loopw [73] (fun u73 wx => ∃ (wr : World) (k : Nat), wr = wx ∧ k ≤ nl ∧ u73 = .int .i64 (k : Int) ∧ Hid (∀ i, i < k → ∀ x ∈ (Chk.nth l i).refs, NoR (D.map S.RR.r) tj (Chk.nth l i) x) ∧ Hid (Below w45.heap.size w45 wr)) (fun u73 _ => nl - (intOf u73).toNat)
   case atStart => exact ⟨_, 0, rfl, Nat.zero_le _, rfl, Lib.hid fun i hi => absurd hi (Nat.not_lt_zero i), Lib.hid (Below.refl _ _)⟩
   case round =>
    obtain ⟨wr, k, rfl, hk, rfl, HN, HBR⟩ := hrel
    have Hwr := Lib.hid (Hw45.out.trans (HBR.out.mono Hw45.out.size))
    by_cases hlt : k < nl
    ·
     obtain ⟨g, x, hA, hg, hx, hnth, hcr, hck, hrg⟩ := HRT.out.at (k := k) (by rw [HT.out.2.1]; exact hlt)
     rw [HT.out.1] at hA
     subst hA
     have hb1r := HB2.out.trans (Hwr.out.mono HB2.out.size)
     have HRF := Lib.hid (hcr.rd.below hb1r |>.more hb1r.size)
     have HCN := Lib.hid hcr.n
     have HCK := Lib.hid hck
     have hm16 := refs_len hck.refs
     have hrw : wr.rangeAt g (k * 23) x.cells := fun q u hq => (hb1r.cell (p := ⟨g, k * 23 + q, none⟩) hg).trans (hrg q u hq)
     obtain ⟨ch, xA, xn, xk⟩ := x
     dsimp only at HRF HCN HCK hm16 hnth
     rw [HCN.out] at hm16
     obtain ⟨cs, hcs⟩ : ∃ cs, ckCells ch (.slice xA xn xk) = cs := ⟨_, rfl⟩
     have hrw : wr.rangeAt g (k * 23) cs := by rw [← hcs]; exact hrw
     have HCS : Hid (ckCells ch (.slice xA xn xk) = cs ∧ cs.length = 23) := Lib.hid ⟨hcs, by rw [← hcs]; exact ckCells_len hck.dg _⟩
     have HALL : Hid (cs.all (·.oneCell') = true) := Lib.hid (by rw [← hcs, List.all_eq_true]; exact fun u hu => ckCells_one ch _ rfl u hu)
     have HNT := Lib.hid hnth
     have hat := ckCells_at ch (.slice xA xn xk) hck.dg
     rw [hcs] at hat
     have HAT := Lib.hid hat
     have i0 : (0 : Int) ≤ (k : Int) := by omega
     have i1 : (k : Int) < (nl : Int) := by omega
     clear hg hx hnth hcr hck hrg hcs hat hb1r
     go_upto_region 10 with (first
      | (refine wpList_load_mid rfl _ (.tmp 75) rfl g (k * 23) rfl cs _ hrw Tryz.underlying68 rfl (by rw [HCS.out.2]; exact sizeCk) ?_)
      | (have tok := rz5; refine wpList_storeRow rfl _ (.tmp 17) (.tmp 76) rfl (l' := cs) rz5 rfl rfl (by rw [HCS.out.2]; exact sizeCk) (by rw [HCS.out.2]; rfl) HALL.out ?_; intro w6 rz6 g6 z6; clear tok)
      | (refine wpList_allocRow rfl _ rfl _ infoCk' ?_; intro w5 rz5 b5 z5))
     have hb6 : Below wr.heap.size wr w6 := b5.grown g6 b5.size (fun i hi => by have := Option.some.inj hi; omega)
     have HB6 := Lib.hid hb6
     obtain ⟨b17, hb17⟩ : ∃ y, wr.heap.size = y := ⟨_, rfl⟩
     rw [hb17] at rz6
     try rw [hb17]
     have k18 : w6.cell? ⟨b17, 18, none⟩ = some (.int .i64 ch.at_.r) := (rz6.cell 18).trans HAT.out.2.2.1
     have k19 : w6.cell? ⟨b17, 18 + 1, none⟩ = some (.int .i64 ch.at_.g) := (rz6.cell 19).trans HAT.out.2.2.2.1
     have k19' : w6.cell? ⟨b17, 19, none⟩ = some (.int .i64 ch.at_.g) := (rz6.cell 19).trans HAT.out.2.2.2.1
     have HRZ := Lib.hid rz6
     obtain ⟨er, her⟩ : ∃ y, (if Cha.foundB (D.map S.RR.r) ch.at_.r ch.at_.g = true then (0 : Int) else 12) = y := ⟨_, rfl⟩
     have hww6 := HWV.out _ (Hwr.out.trans (hb6.mono Hwr.out.size))
     have HFI := Lib.hid (find24_any (cp := c) (HRD.out.below hww6) hww6.size ch.at_.r ch.at_.g er her)
     have HER := Lib.hid her
     unfold FindRes at HFI
     clear hrw rz5 b5 z5 g6 z6 rz6 hb6 hb17 her hww6
     try simp only [PT]
     go_upto_region 11 with (first
      | (have tok := rz8; refine wpList_storeRow rfl _ (.tmp 18) (.tmp 83) rfl (l' := [.int .i64 u0, .int .i64 u1, .int .i64 u2]) rz8 rfl rfl S.sizeUs rfl rfl ?_; intro w9 rz9 g9 z9; clear tok)
      | (go_at_call 25; refine HFI.out.mono ?_; rintro e w7 ⟨u0, u1, u2, rfl, b7⟩)
      | (refine wpList_allocRow rfl _ rfl _ infoUd' ?_; intro w8 rz8 b8 z8))
     have hb9 : Below w7.heap.size w7 w9 := b8.grown g9 b8.size (fun i hi => by have := Option.some.inj hi; omega)
     have hb69 := b7.trans (hb9.mono b7.size)
     have HRZ9 := Lib.hid (HRZ.out.below' hb69)
     have HB9 := Lib.hid (HB6.out.trans (hb69.mono HB6.out.size))
     have k22 : w9.cell? ⟨b17, 22, none⟩ = some (.slice xA xn xk) := (HRZ9.out.cell 22).trans HAT.out.2.2.2.2.2.2
     clear k18 k19 k19' rz8 b8 z8 rz9 g9 z9 hb9 hb69 b7
     go_upto_region 12 with fail
     clear k22
     go_loopw [88] (fun u88 wx => ∃ (wi : World) (i : Nat), wi = wx ∧ i ≤ xn ∧ u88 = .int .i64 (i : Int) ∧ Hid (∀ q, q < i → NoR (D.map S.RR.r) tj ch (ch.refs.getD q ⟨0, 0⟩)) ∧ Hid (Below w9.heap.size w9 wi)) (fun u88 _ => xn - (intOf u88).toNat)
     case atStart => exact ⟨_, 0, rfl, Nat.zero_le _, rfl, Lib.hid fun i hi => absurd hi (Nat.not_lt_zero i), Lib.hid (Below.refl _ _)⟩
     case round =>
      obtain ⟨wi, i, rfl, hi, rfl, HNI, HBI⟩ := hrel
      by_cases hli : i < xn
      ·
       obtain ⟨bR, oR, rfl, hbR, hrg⟩ := rf_elem (HRF.out.below (HB9.out.trans (HBI.out.mono HB9.out.size))) HCN.out hli
       obtain ⟨⟨tn, cn⟩, hrf⟩ : ∃ y, ch.refs.getD i ⟨0, 0⟩ = y := ⟨_, rfl⟩
       rw [hrf] at hrg
       unfold rfCells at hrg
       dsimp only at hrg
       have HF := Lib.hid hrf
       have k21 : wi.cell? ⟨b17, 21, none⟩ = some (.bool ch.lost) := ((HRZ9.out.below' HBI.out).cell 21).trans HAT.out.2.2.2.2.2.1
       have HK21 := Lib.hid (fun (W : World) (hW : Below wi.heap.size wi W) => ((HRZ9.out.below' HBI.out).below' hW).cell 21 |>.trans HAT.out.2.2.2.2.2.1)
       obtain ⟨lo, hlo⟩ : ∃ y, ch.lost = y := ⟨_, rfl⟩
       rw [hlo] at HK21
       have HLO := Lib.hid hlo
       have j0 : (0 : Int) ≤ (i : Int) := by omega
       have j1 : (i : Int) < (xn : Int) := by omega
       clear hrf hbR k21 hlo
       go_upto_region 14 with (first
        | (refine wpList_load_mid rfl _ (.tmp 90) rfl bR (oR + i * 2) rfl [.int .i64 tn, .int .i64 cn] _ hrg Tryz.underlying76 rfl sizeRf ?_)
        | (have tok := ra; refine wpList_storeRow rfl _ (.tmp 21) (.tmp 91) rfl (l' := [.int .i64 tn, .int .i64 cn]) ra rfl rfl sizeRf rfl rfl ?_; intro wb rb gb zb; clear tok)
        | (refine wpList_allocRow rfl _ rfl _ infoRf ?_; intro wa ra ba za))
       have hbb : Below wi.heap.size wi wb := ba.grown gb ba.size (fun i hi => by have := Option.some.inj hi; omega)
       have HBB := Lib.hid (HBI.out.trans (hbb.mono HBI.out.size))
       have c0 := rb.cell 0
       dsimp only [List.getElem?_cons_zero] at c0
       have c21 := HK21.out wb hbb
       obtain ⟨b21, hb21⟩ : ∃ y, wi.heap.size = y := ⟨_, rfl⟩
       rw [hb21] at c0
       try rw [hb21]
       have Hwb := Lib.hid (Hwr.out.trans ((HB9.out.trans (HBB.out.mono HB9.out.size)).mono Hwr.out.size))
       clear hrg ra ba za rb gb zb hbb hb21
       try simp only [PT]
       by_cases ht : tn = (tj : Int)
       ·
        have e1 : (tn == (tj : Int)) = true := by simp [ht]
        cases lo with
        | true =>
         have HNX : Hid (∀ q, q < i + 1 → NoR (D.map S.RR.r) tj ch (ch.refs.getD q ⟨0, 0⟩)) := Lib.hid fun q hq => by
          by_cases e : q = i
          ·
           subst e; intro _ h2; rw [HLO.out] at h2; cases h2
          ·
           exact HNI.out q (by omega)
         clear ht
         go_wp2_with fail
         go_roundw
         case rel => exact ⟨_, i + 1, rfl, by omega, by go_num, HNX, HBB⟩
         case measure => simp [intOf]; omega
        | false =>
         by_cases hf : Cha.foundB (D.map S.RR.r) ch.at_.r ch.at_.g = true
         ·
          obtain rfl : er = 0 := by have := HER.out; rw [if_pos hf] at this; exact this.symm
          clear ht hf
          go_wp2_with (go_at_call 10; refine (HSN.out _).mono ?_; rintro e w3 ⟨rfl, b3⟩)
          go_ret
          have q4 := HWV.out _ Hwb.out
          exact ⟨rfl, q4.trans (b3.mono q4.size)⟩
         ·
          obtain rfl : er = 12 := by have := HER.out; rw [if_neg hf] at this; exact this.symm
          have HNX : Hid (∀ q, q < i + 1 → NoR (D.map S.RR.r) tj ch (ch.refs.getD q ⟨0, 0⟩)) := Lib.hid fun q hq => by
           by_cases e : q = i
           ·
            subst e; intro _ _ h3; exact hf h3
           ·
            exact HNI.out q (by omega)
          clear ht hf
          go_wp2_with fail
          go_roundw
          case rel => exact ⟨_, i + 1, rfl, by omega, by go_num, HNX, HBB⟩
          case measure => simp [intOf]; omega
       ·
        have e1 : (tn == (tj : Int)) = false := by simp [ht]
        have HNX : Hid (∀ q, q < i + 1 → NoR (D.map S.RR.r) tj ch (ch.refs.getD q ⟨0, 0⟩)) := Lib.hid fun q hq => by
         by_cases e : q = i
         ·
          subst e; intro h1; rw [HF.out] at h1; exact absurd h1 ht
         ·
          exact HNI.out q (by omega)
        clear ht
        go_wp2_with fail
        go_roundw
        case rel => exact ⟨_, i + 1, rfl, by omega, by go_num, HNX, HBB⟩
        case measure => simp [intOf]; omega
      ·
       obtain rfl : i = xn := by omega
       have HNK : Hid (∀ i, i < k + 1 → ∀ x ∈ (Chk.nth l i).refs, NoR (D.map S.RR.r) tj (Chk.nth l i) x) := Lib.hid fun q hq x hx => by
        by_cases e : q = k
        ·
         subst e
         rw [HNT.out] at hx ⊢
         obtain ⟨y, hy, rfl⟩ := List.getElem_of_mem hx
         have := HNI.out y (by have := HCN.out; omega)
         rwa [List.getD, List.getElem?_eq_getElem hy] at this
        ·
         exact HN.out q (by omega) x hx
       go_wp2_with fail
       go_roundw
       case rel => exact ⟨_, k + 1, rfl, by omega, by go_num, HNK, Lib.hid (HBR.out.trans ((HB9.out.trans (HBI.out.mono HB9.out.size)).mono HBR.out.size))⟩
       case measure => simp [intOf]; omega
    ·
     obtain rfl : k = nl := by omega
     have hz := Cha.stranger HI.out (j := tj) HC0.out HO.out (fun c hc x hx h1 h2 h3 => by
      obtain ⟨i, hi, rfl⟩ := List.getElem_of_mem hc
      have := HN.out i (by rw [← HNL.out]; exact hi)
      rw [← Cha.nth_elem hi] at this
      exact this x hx h1 h2 h3)
     obtain ⟨b4, o4, rfl, hb4, hc4⟩ := (HX4.out.2.below HBR.out).int (W.rowL_len 16 s.t) (by omega)
     have hb4 : b4 < wr.heap.size := by have := HBR.out.size; omega
     have c4 := hc4 tj (by omega)
     rw [W.rowL_get _ (by omega), hz] at c4
     have HC4 := Lib.hid c4
     have HR14 := Lib.hid (HX4.out.1.below' HBR.out)
     have i0 : (0 : Int) ≤ (tj : Int) := by omega
     have i1 : (tj : Int) < 16 := by omega
     clear hz hc4 c4
     go_wp2_with (go_at_call 10; refine (HSN.out _).mono ?_; rintro e w3 ⟨rfl, b3⟩; have k5 : w3.cell? ⟨b49, 0, none⟩ = some (.slice (some ⟨b4, o4, none⟩) 16 c4) := (HR14.out.below' b3).cell 0; have k6 : w3.cell? ⟨b4, o4 + tj, none⟩ = some (.int .i64 0) := (b3.cell (p := ⟨b4, o4 + tj, none⟩) hb4).trans HC4.out)
     go_ret
     have q4 := HWV.out _ Hwr.out
     exact ⟨rfl, q4.trans (b3.mono q4.size)⟩
end Go.Proofs.YtfllkaeaanahmaaGreat
