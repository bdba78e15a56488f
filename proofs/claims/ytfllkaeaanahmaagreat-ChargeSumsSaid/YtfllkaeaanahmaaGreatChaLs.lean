/- ChargeSums: the share of everything is the sum of the shares of all rows and of the metadata. Conditions: none. -/
import Derived.Test.YtfllkaeaanahmaaGreatChaL
namespace Go.Proofs.YtfllkaeaanahmaaGreat
set_option linter.unusedVariables false
set_option linter.unusedSimpArgs false
open Go.RowKit
open W (FRow)
theorem Cha.ofO_some {l : List Chk.Ck} {cf : S.Str.Cfg} {rs : List S.Str.Rw} {bs : List Int} {s : Cha.Sh} (h : Cha.ofO l cf rs bs = some s) : ∃ m, Cha.metaO cf bs = some m ∧ S.Str.validB cf rs = true ∧ s = Cha.ofS l rs cf.d m rs.length := by
 unfold Cha.ofO at h
 cases hm : Cha.metaO cf bs with
 | none => rw [hm] at h; cases h
 | some m =>
  rw [hm] at h
  dsimp only at h
  by_cases hv : S.Str.validB cf rs = true
  ·
   rw [if_pos hv] at h; exact ⟨m, rfl, hv, (Option.some.inj h).symm⟩
  ·
   rw [if_neg hv] at h; cases h
set_option maxRecDepth 100000 in
set_option maxHeartbeats 6400000 in
theorem lawCSums (cf : S.Str.Cfg) (A : Option Addr) (n c : Nat) (D : List S.RR) (hnc : n ≤ c) (A1 : Option Addr) (n1 c1 : Nat) (ops : List Chk.Op) (hl : ops.length = n1) (hnc1 : n1 ≤ c1) (hc1 : c1 ≤ 140737488355328) (hok : ∀ o ∈ ops, OpOk o) (A2 : Option Addr) (n2 c2 : Nat) (bs : List Int) (hl2 : bs.length = n2) (hnc2 : n2 ≤ c2) (hc2 : c2 ≤ 140737488355328) (hxr : ∀ x ∈ bs, -9223372036854775808 ≤ x ∧ x ≤ 9223372036854775807) (w : World) (hrd : S.RowsIn w w.heap.size A n D (D.map S.RR.r)) (hr : Rd w w.heap.size 9 A1 n1 (ops.flatMap opL)) (hb : Rd w w.heap.size 1 A2 n2 (ivs bs)) :
  Calls Tryz.prog 5 #[S.cfV cf, .slice A n c, .slice A1 n1 c1, .slice A2 n2 c2] w fun e w' => e = .returned (.bool true) ∧ Below w.heap.size w w' := by
 clear hxr
 have HSN := Lib.hid sanity34_any
 obtain ⟨ca, cl, w0, hca, hcl, hw0, hrow, hb0, hs0⟩ := cfg_box cf w
 have hmx := hrd.mx
 obtain ⟨fq, hfq⟩ : ∃ q, decide (cf.rows ≤ 64 ∧ n ≤ 64) = q := ⟨_, rfl⟩
 have HFW := Lib.hid (fun (W : World) => few_any cf A n c hrd.mx W fq hfq)
 rw [hca] at HFW ⊢
 have HW := Lib.hid hw0
 have HB := Lib.hid hb0
 have HR := Lib.hid hrow.1
 have HCL := Lib.hid (And.intro hcl hrow.2)
 have HRD := Lib.hid hrd
 have HBL := Lib.hid (And.intro hl2 (And.intro (show n2 ≤ maxLen by unfold maxLen; omega) hb))
 by_cases hn : n1 ≤ 120
 case neg =>
  have HBU := Lib.hid (fun W => build34_long A1 n1 c1 W (by omega))
  clear hw0 hb0 hs0 hcl hca hrow hr hok hl hrd hfq hb hl2
  go_enter Tryz.func5, Tryz.ntmps5
  go_upto_region 1 with fail
  rw [HW.out]
  go_wp2_with (first
   | (go_at_call 8; refine (HBU.out _).mono ?_; rintro e w1 ⟨rfl, b1⟩; have HB1 := Lib.hid (HB.out.trans (b1.mono HB.out.size)); clear b1)
   | (go_at_call 10; refine (HSN.out _).mono ?_; rintro e w3 ⟨rfl, b3⟩))
  go_ret
  exact ⟨rfl, HB1.out.trans (b3.mono HB1.out.size)⟩
 have HOO := Lib.hid (show OpsAt w0 A1 n1 ops from OpsAt.below (w := w) ⟨hr, hl, fun o ho => (hok o ho).2.2.2.2.2⟩ hb0)
 have HBU := Lib.hid (build34_any A1 n1 c1 ops w0 hn HOO.out)
 obtain ⟨l, hll⟩ : ∃ l, Chk.run [] ops = l := ⟨_, rfl⟩
 rw [hll] at HBU
 cases fq with
 | false =>
  clear hw0 hb0 hs0 hcl hca hrow hr hok hl hrd hfq hll hb hl2
  go_enter Tryz.func5, Tryz.ntmps5
  go_upto_region 1 with fail
  rw [HW.out]
  go_upto_region 2 with (go_at_call 8; refine HBU.out.mono ?_; rintro e w1 ⟨a, r, rfl, hp1⟩)
  have HP := Lib.hid hp1
  have HB1 := Lib.hid (HB.out.trans (hp1.b.mono HB.out.size))
  have hcr : w1.rangeAt w.heap.size 0 cl := fun q u hq => by rw [Nat.zero_add, (HR.out.below' hp1.b).cell]; exact hq
  clear hp1
  go_wp2_with (first
   | (have tok := hcr; refine S.wpList_load_rg rfl _ (.tmp 4) rfl w.heap.size 0 rfl cl _ hcr Tryz.underlying23 rfl (by rw [HCL.out.2.1]; exact S.sizeCf) ?_; rw [HCL.out.1]; clear tok)
   | (go_at_call 9; refine (HFW.out _).mono ?_; rintro e w2 ⟨rfl, b2⟩; have HB2 := Lib.hid (HB1.out.trans (b2.mono HB1.out.size)); clear b2 hcr)
   | (go_at_call 10; refine (HSN.out _).mono ?_; rintro e w3 ⟨rfl, b3⟩))
  go_ret
  exact ⟨rfl, HB2.out.trans (b3.mono HB2.out.size)⟩
 | true =>
  have HCA := Lib.hid hca
  have hln := hrd.len.2
  have HLN := Lib.hid hln
  clear hw0 hb0 hs0 hcl hca hrow hr hok hl hrd hfq hll hb hl2 hn hln
  go_enter Tryz.func5, Tryz.ntmps5
  go_upto_region 1 with fail
  rw [HW.out]
  go_upto_region 2 with (go_at_call 8; refine HBU.out.mono ?_; rintro e w1 ⟨a, r, rfl, hp1⟩)
  have HP := Lib.hid hp1
  have HB1 := Lib.hid (HB.out.trans (hp1.b.mono HB.out.size))
  have HCR1 := Lib.hid (HR.out.below' hp1.b)
  have hcr : w1.rangeAt w.heap.size 0 cl := fun q u hq => by rw [Nat.zero_add, HCR1.out.cell]; exact hq
  clear hp1
  go_upto_region 4 with (first
   | (have tok := hcr; refine S.wpList_load_rg rfl _ (.tmp 4) rfl w.heap.size 0 rfl cl _ hcr Tryz.underlying23 rfl (by rw [HCL.out.2.1]; exact S.sizeCf) ?_; rw [HCL.out.1]; clear tok)
   | (go_at_call 9; refine (HFW.out _).mono ?_; rintro e w2 ⟨rfl, b2⟩; have HB2 := Lib.hid b2; clear b2))
  clear hcr
  have HWV : Hid (∀ W, Below w2.heap.size w2 W → Below w.heap.size w W) := Lib.hid fun V hV => (HB1.out.trans (HB2.out.mono HB1.out.size)).trans (hV.mono (HB1.out.trans (HB2.out.mono HB1.out.size)).size)
  obtain ⟨o, ho⟩ : ∃ o, Cha.ofO l cf (D.map S.RR.r) bs = o := ⟨_, rfl⟩
  obtain ⟨N4, X, H4, E, hXN, hN16, hU, hU0, hU1⟩ := shU o
  have HPO : Hid (∀ W, Below w2.heap.size w2 W → Calls Tryz.prog 11 #[.agg ca, .slice A n c, .pointer (some ⟨a, 0, none⟩), .slice A2 n2 c2] W (ShU W N4 X H4 E)) := Lib.hid fun V hV => by
   obtain ⟨F, T, F', T', ⟨t, ht⟩, ⟨t', ht'⟩, -⟩ := HP.out
   have hwV := HWV.out V hV
   have := pof_any (HB2.out.trans (hV.mono HB2.out.size)) ht (HRD.out.below hwV) hwV.size hnc cf A2 n2 c2 bs HBL.out.1 HBL.out.2.1 hwV.size (HBL.out.2.2.below hwV)
   rw [ho, HCA.out] at this
   exact this.mono fun e w' h => hU _ _ _ h
  have HO := Lib.hid ho
  have HCR1 := Lib.hid (HCR1.out.below' HB2.out)
  have Hw2 := Lib.hid (Below.refl w2.heap.size w2)
  unfold ShU at HPO
  clear ho hXN hN16 hU
  cases o with
  | none =>
   obtain rfl : E = 1 := hU0 rfl
   clear hU0 hU1
   have hcr : w2.rangeAt w.heap.size 0 cl := fun q u hq => by rw [Nat.zero_add, (HCR1.out.below' Hw2.out).cell]; exact hq
   go_upto_region 5 with (first
    | (have tok := hcr; refine S.wpList_load_rg rfl _ (.tmp 4) rfl w.heap.size 0 rfl cl _ hcr Tryz.underlying23 rfl (by rw [HCL.out.2.1]; exact S.sizeCf) ?_; rw [HCL.out.1]; clear tok)
    | (have tok := r4; refine wpList_storeRow rfl _ (.tmp 12) (.tmp 41) rfl (l' := [.slice A4 N4 c4, .int .i64 H4]) r4 rfl rfl sizeSP rfl rfl ?_; intro w45 r45 g45 z45; clear tok)
    | (go_at_call 11; refine (HPO.out _ Hw2.out).mono ?_; rintro e w43 ⟨A4, c4, rfl, rd4, b43⟩)
    | (refine wpList_allocRow rfl _ rfl _ infoSP ?_; intro w44 r4 b4 z4))
   have hc4 : Below w43.heap.size w43 w45 := b4.grown g45 b4.size (fun i hi => by have := Option.some.inj hi; omega)
   have hd4 := b43.trans (hc4.mono b43.size)
   have HBR4 := Lib.hid hd4
   have Hw45 := Lib.hid (Hw2.out.trans (hd4.mono Hw2.out.size))
   have HX4 := Lib.hid (And.intro r45 ((rd4.below hc4).more hc4.size))
   obtain ⟨b49, hb49⟩ : ∃ y, w43.heap.size = y := ⟨_, rfl⟩
   rw [hb49] at HX4
   try rw [hb49]
   clear hcr r4 b4 z4 r45 g45 z45 hc4 hd4 hb49 rd4 b43
   try simp only [PT]
   go_wp2_with (go_at_call 10; refine (HSN.out _).mono ?_; rintro e w3 ⟨rfl, b3⟩)
   go_ret
   have q4 := HWV.out _ Hw45.out
   exact ⟨rfl, q4.trans (b3.mono q4.size)⟩
  | some s =>
   obtain ⟨rfl, rfl, rfl, rfl⟩ := hU1 s rfl
   clear hU0 hU1
   obtain ⟨mo, hmo, hv, hso⟩ := Cha.ofO_some HO.out
   have HM := Lib.hid hmo
   have HV := Lib.hid hv
   rw [HLN.out] at hso
   have HME : Hid (∀ V, Below w2.heap.size w2 V → Calls Tryz.prog 19 #[.agg ca, .slice A2 n2 c2] V (ShU V 16 (W.rowL 16 mo.t) mo.h 0)) := Lib.hid fun V hV => by
    have hwV := HWV.out V hV
    have := pmeta_all cf A2 n2 c2 bs HBL.out.1 HBL.out.2.1 w.heap.size V hwV.size (HBL.out.2.2.below hwV)
    rw [HM.out, HCA.out] at this
    exact this
   have HRW : Hid (∀ V, Below w2.heap.size w2 V → ∀ k : Nat, k < n → Calls Tryz.prog 17 #[.agg ca, .slice A n c, .pointer (some ⟨a, 0, none⟩), .int .i64 (k : Int)] V (ShU V 16 (W.rowL 16 (Cha.rowAt l (D.map S.RR.r) cf.d k).t) (Cha.rowAt l (D.map S.RR.r) cf.d k).h 0)) := Lib.hid fun V hV k hk => by
    obtain ⟨F, T, F', T', ⟨t, ht⟩, ⟨t', ht'⟩, -⟩ := HP.out
    have hwV := HWV.out V hV
    have := prow_ok (HB2.out.trans (hV.mono HB2.out.size)) ht (HRD.out.below hwV) hwV.size hnc cf HV.out k hk
    rw [HCA.out] at this
    exact this.mono fun e w' h => h.v
   have HN4 : Hid (n ≤ 4096 ∧ (n : Int) = cf.rows) := Lib.hid (by
    have hV := S.Str.validB_iff.1 HV.out
    have := hV.len
    have := S.Str.Cfg.ok_d hV.ok
    have := HLN.out
    omega)
   have HS0 : Hid (Cha.ofS l (D.map S.RR.r) cf.d mo 0 = mo) := Lib.hid rfl
   have HSS : Hid (∀ k, Cha.ofS l (D.map S.RR.r) cf.d mo (k + 1) = Cha.addS (Cha.ofS l (D.map S.RR.r) cf.d mo k) (Cha.rowAt l (D.map S.RR.r) cf.d k)) := Lib.hid fun _ => rfl
   obtain ⟨of, hof⟩ : ∃ f : Nat → Cha.Sh, Cha.ofS l (D.map S.RR.r) cf.d mo = f := ⟨_, rfl⟩
   obtain ⟨rf, hrf⟩ : ∃ f : Nat → Cha.Sh, Cha.rowAt l (D.map S.RR.r) cf.d = f := ⟨_, rfl⟩
   rw [hof] at HS0 HSS hso
   rw [hrf] at HSS HRW
   have HSO := Lib.hid hso
   have HC2 : Hid (cl[2]? = some (.int .i64 (n : Int))) := Lib.hid (by rw [HN4.out.2]; exact HCL.out.2.2.2)
   unfold ShU at HME HRW
   obtain ⟨X4, hX4⟩ : ∃ y, W.rowL 16 s.t = y := ⟨_, rfl⟩
   obtain ⟨h4, hh4⟩ : ∃ y, s.h = y := ⟨_, rfl⟩
   rw [hX4, hh4] at HPO
   have HX4' := Lib.hid (And.intro hX4 hh4)
   have hn4 := HN4.out.1
   clear hmo hv hso hof hrf hX4 hh4
   have hcr : w2.rangeAt w.heap.size 0 cl := fun q u hq => by rw [Nat.zero_add, (HCR1.out.below' Hw2.out).cell]; exact hq
   go_upto_region 5 with (first
    | (have tok := hcr; refine S.wpList_load_rg rfl _ (.tmp 4) rfl w.heap.size 0 rfl cl _ hcr Tryz.underlying23 rfl (by rw [HCL.out.2.1]; exact S.sizeCf) ?_; rw [HCL.out.1]; clear tok)
    | (have tok := r4; refine wpList_storeRow rfl _ (.tmp 12) (.tmp 41) rfl (l' := [.slice A4 16 c4, .int .i64 h4]) r4 rfl rfl sizeSP rfl rfl ?_; intro w45 r45 g45 z45; clear tok)
    | (go_at_call 11; refine (HPO.out _ Hw2.out).mono ?_; rintro e w43 ⟨A4, c4, rfl, rd4, b43⟩)
    | (refine wpList_allocRow rfl _ rfl _ infoSP ?_; intro w44 r4 b4 z4))
   have hc4 : Below w43.heap.size w43 w45 := b4.grown g45 b4.size (fun i hi => by have := Option.some.inj hi; omega)
   have hd4 := b43.trans (hc4.mono b43.size)
   have HBR4 := Lib.hid hd4
   have Hw45 := Lib.hid (Hw2.out.trans (hd4.mono Hw2.out.size))
   have HX4 := Lib.hid (And.intro r45 ((rd4.below hc4).more hc4.size))
   obtain ⟨b49, hb49⟩ : ∃ y, w43.heap.size = y := ⟨_, rfl⟩
   rw [hb49] at HX4
   try rw [hb49]
   clear hcr r4 b4 z4 r45 g45 z45 hc4 hd4 hb49 rd4 b43
   try simp only [PT]
   have HX4o := HX4
   have hcr : w45.rangeAt w.heap.size 0 cl := fun q u hq => by rw [Nat.zero_add, (HCR1.out.below' Hw45.out).cell]; exact hq
   go_upto_region 8 with (first
    | (have tok := hcr; refine S.wpList_load_rg rfl _ (.tmp 4) rfl w.heap.size 0 rfl cl _ hcr Tryz.underlying23 rfl (by rw [HCL.out.2.1]; exact S.sizeCf) ?_; rw [HCL.out.1]; clear tok)
    | (have tok := r7; refine wpList_storeRow rfl _ (.tmp 14) (.tmp 50) rfl (l' := [.slice A7 16 c7, .int .i64 mo.h]) r7 rfl rfl sizeSP rfl rfl ?_; intro w75 r75 g75 z75; clear tok)
    | (go_at_call 19; refine (HME.out _ Hw45.out).mono ?_; rintro e w73 ⟨A7, c7, rfl, rd7, b73⟩)
    | (refine wpList_allocRow rfl _ rfl _ infoSP ?_; intro w74 r7 b7 z7))
   have hc7 : Below w73.heap.size w73 w75 := b7.grown g75 b7.size (fun i hi => by have := Option.some.inj hi; omega)
   have hd7 := b73.trans (hc7.mono b73.size)
   have HBR7 := Lib.hid hd7
   have Hw75 := Lib.hid (Hw45.out.trans (hd7.mono Hw45.out.size))
   have HX7 := Lib.hid (And.intro r75 ((rd7.below hc7).more hc7.size))
   obtain ⟨b79, hb79⟩ : ∃ y, w73.heap.size = y := ⟨_, rfl⟩
   rw [hb79] at HX7
   try rw [hb79]
   clear hcr r7 b7 z7 r75 g75 z75 hc7 hd7 hb79 rd7 b73
   try simp only [PT]
   have HX7o := HX7
   have HX4 := Lib.hid (And.intro (HX4.out.1.below' HBR7.out) ((HX4.out.2.below HBR7.out).more HBR7.out.size))
   have k1 := HX4.out.1.cell 0
   have k2 := HX7.out.1.cell 0
   dsimp only [List.getElem?_cons_zero] at k1 k2
   have hr14 : w75.rangeAt b79 0 [.slice A7 16 c7, .int .i64 mo.h] := fun q u hq => by rw [Nat.zero_add, HX7.out.1.cell]; exact hq
   go_upto_region 11 with (first
    | (have tok := r10; refine wpList_storeRow rfl _ (.tmp 16) (.tmp 67) rfl (l' := [.slice A7 16 c7, .int .i64 mo.h]) r10 rfl rfl sizeSR rfl rfl ?_; intro w10 r10' g10 z10; clear tok)
    | (go_at_call 14; refine (own_any A7 16 c7 mo.h _).mono ?_; rintro e w8 ⟨rfl, b8⟩)
    | (refine wpList_allocRow rfl _ rfl _ infoSR ?_; intro w9 r10 b9 z9)
    | (have tok := hr14; refine wpList_load_mid rfl _ (.tmp 14) rfl b79 0 rfl [.slice A7 16 c7, .int .i64 mo.h] _ hr14 Tryz.underlying35 rfl sizeSP ?_; clear tok))
   have hc10 : Below w8.heap.size w8 w10 := b9.grown g10 b9.size (fun i hi => by have := Option.some.inj hi; omega)
   have hd10 := b8.trans (hc10.mono b8.size)
   have HBR10 := Lib.hid hd10
   have Hw10 := Lib.hid (Hw75.out.trans (hd10.mono Hw75.out.size))
   have HX4 := Lib.hid (And.intro (HX4.out.1.below' HBR10.out) ((HX4.out.2.below HBR10.out).more HBR10.out.size))
   have HX7 := Lib.hid (And.intro (HX7.out.1.below' HBR10.out) ((HX7.out.2.below HBR10.out).more HBR10.out.size))
   obtain ⟨b16, hb16⟩ : ∃ y, w8.heap.size = y := ⟨_, rfl⟩
   rw [hb16] at r10'
   have HX10 : Hid (IsRow w10 b16 39 [.slice A7 16 c7, .int .i64 (of 0).h] ∧ Rd w10 w10.heap.size 1 A7 16 (ivs (W.rowL 16 (of 0).t)) ∧ ∀ p, A7 = some p → p.block ≠ b16) := Lib.hid (by
    rw [HS0.out]
    refine ⟨r10', HX7.out.2, fun p e => ?_⟩
    obtain ⟨b, o, e2, hb, _⟩ := HX7o.out.2.2 (by omega)
    rw [e2] at e
    have := Option.some.inj e
    subst this
    have := b8.size
    dsimp only; omega)
   have H16 : Hid (b49 < b16 ∧ w.heap.size < b16 ∧ w2.heap.size ≤ b16 ∧ w45.heap.size ≤ b16) := Lib.hid ⟨by have := HX4o.out.1.lt; have := b8.size; have := HBR7.out.size; omega, by have := HX4o.out.1.lt; have := b8.size; have := (HWV.out _ Hw75.out).size; have := HCR1.out.lt; have := Hw75.out.size; omega, by have := b8.size; have := Hw75.out.size; omega, by have := b8.size; have := HBR7.out.size; omega⟩
   try rw [hb16]
   clear k1 k2 hr14 r10 r10' b8 b9 z9 g10 z10 hc10 hd10 hb16
   try simp only [PT]
   have HCR10 := Lib.hid (HCR1.out.below' Hw10.out)
   have k2 : w10.cell? ⟨w.heap.size, 2, none⟩ = some (.int .i64 (n : Int)) := (HCR10.out.cell 2).trans HC2.out
   go_upto_region 12 with fail
   clear k2
   go_loopw [70] (fun u70 wx => ∃ (wr : World) (k : Nat) (A3 : Option Addr) (c3 : Nat), wr = wx ∧ k ≤ n ∧ u70 = .int .i64 (k : Int) ∧ Hid (IsRow wr b16 39 [.slice A3 16 c3, .int .i64 (of k).h] ∧ Rd wr wr.heap.size 1 A3 16 (ivs (W.rowL 16 (of k).t)) ∧ ∀ p, A3 = some p → p.block ≠ b16) ∧ Hid (Keep (fun x => x = b16) w10 wr)) (fun u70 _ => n - (intOf u70).toNat)
   case atStart => exact ⟨_, 0, A7, c7, rfl, Nat.zero_le _, rfl, HX10, Lib.hid (Keep.refl _ _)⟩
   case round =>
    obtain ⟨wr, k, A3, c3, rfl, hk, rfl, HS, HKR⟩ := hrel
    have Hwr : Hid (Below w2.heap.size w2 wr) := Lib.hid (Below.then_keep Hw10.out HKR.out (fun x e => by have := H16.out; omega) (Nat.le_refl _))
    by_cases hlt : k < n
    ·
     have HRK := Lib.hid (HRW.out wr Hwr.out k hlt)
     obtain ⟨sk, hsk⟩ : ∃ y, rf k = y := ⟨_, rfl⟩
     rw [hsk] at HRK
     have HSK : Hid (of (k + 1) = Cha.addS (of k) sk) := Lib.hid (by rw [HSS.out, hsk])
     obtain ⟨ok, hok⟩ : ∃ y, of k = y := ⟨_, rfl⟩
     rw [hok] at HSK HS
     have i0 : (0 : Int) ≤ (k : Int) := by omega
     have i1 : (k : Int) < (n : Int) := by omega
     have hcr : wr.rangeAt w.heap.size 0 cl := fun q u hq => by rw [Nat.zero_add, (HCR1.out.below' Hwr.out).cell]; exact hq
     clear hsk hok
     go_upto_region 15 with (first
      | (have tok := r6; refine wpList_storeRow rfl _ (.tmp 18) (.tmp 79) rfl (l' := [.slice A6 16 c6, .int .i64 sk.h]) r6 rfl rfl sizeSP rfl rfl ?_; intro w6 r6' g6 z6; clear tok)
      | (go_at_call 17; refine HRK.out.mono ?_; rintro e w5 ⟨A6, c6, rfl, rd6, b5⟩)
      | (refine wpList_allocRow rfl _ rfl _ infoSP ?_; intro w5' r6 b6 z6')
      | (have tok := hcr; refine S.wpList_load_rg rfl _ (.tmp 4) rfl w.heap.size 0 rfl cl _ hcr Tryz.underlying23 rfl (by rw [HCL.out.2.1]; exact S.sizeCf) ?_; rw [HCL.out.1]; clear tok))
     have hc6 : Below w5.heap.size w5 w6 := b6.grown g6 b6.size (fun i hi => by have := Option.some.inj hi; omega)
     have hd6 := b5.trans (hc6.mono b5.size)
     have HB6 := Lib.hid hd6
     have HX6 := Lib.hid (And.intro r6' ((rd6.below hc6).more hc6.size))
     have HS6 := Lib.hid (And.intro (HS.out.1.below' hd6) ((Rd.below HS.out.2.1 hd6).more hd6.size))
     obtain ⟨b18, hb18⟩ : ∃ y, w5.heap.size = y := ⟨_, rfl⟩
     rw [hb18] at HX6
     try rw [hb18]
     have k0 := HX6.out.1.cell 0
     dsimp only [List.getElem?_cons_zero] at k0
     clear hcr r6 b6 z6' r6' g6 z6 hc6 hd6 hb18 rd6 b5
     try simp only [PT]
     go_upto_region 17 with fail
     clear k0
     have hv0 : Below w6.heap.size w6 w6.drew := (Below.refl _ _).drew
     refine wp_region_late (fun W => Below w6.heap.size w6 W) [4] (by kernel_rfl) (hv0) (fun hHeld => ?_)
     refine wpAnyL_take (i := 0) (oi := { dst := some 89, op := Op.load 39 (Operand.tmp 16), type := 39, pos := "law.go:148", after := #[], guard := none }) (v := (.agg #[.slice A3 16 c3, .int .i64 ok.h])) rfl (by kernel_rfl) (by kernel_rfl) (by kernel_rfl) (by kernel_rfl) (fun _ _ _ h => h) (yieldsIf_load_mid (by rfl) 39 (.tmp 16) rfl b16 0 rfl [.slice A3 16 c3, .int .i64 ok.h] _ (fun W hW q v hv => by rw [Nat.zero_add]; exact ((HS6.out.1.below' hW).cell q).trans hv) Tryz.underlying39 rfl sizeSR) (by assumption) ?_
     try simp only [PT]
     refine wpAnyL_take (i := 1) (oi := { dst := some 90, op := Op.load 35 (Operand.tmp 18), type := 35, pos := "law.go:148", after := #[], guard := none }) (v := (.agg #[.slice A6 16 c6, .int .i64 sk.h])) rfl (by kernel_rfl) (by kernel_rfl) (by kernel_rfl) (by kernel_rfl) (fun _ _ _ h => h) (yieldsIf_load_mid (by rfl) 35 (.tmp 18) rfl b18 0 rfl [.slice A6 16 c6, .int .i64 sk.h] _ (fun W hW q v hv => by rw [Nat.zero_add]; exact ((HX6.out.1.below' hW).cell q).trans hv) Tryz.underlying35 rfl sizeSP) (by assumption) ?_
     try simp only [PT]
     refine wpAnyL_ready (rs := [2]) (by kernel_rfl) (by simp) ?_
     refine AllReadyL.cons (o := { dst := some 91, op := Op.call { callee := Callee.value (Operand.func 14), args := #[Operand.tmp 90], argTypes := #[35] }, type := 39, pos := "law.go:148", after := #[{ on := 1, ground := Ground.data }], guard := none }) rfl (fun K hK => ?_) AllReadyL.nil
     go_simp
     refine (own_any A6 16 c6 sk.h _).mono ?_
     rintro e w60 ⟨rfl, b60⟩
     have hv60 : Below w6.heap.size w6 w60 := hv0.trans (b60.mono hv0.size)
     clear b60
     refine hK.out _ _ (hv60) (fun hHeld => ?_)
     clear hK K
     try simp only [PT]
     refine wpAnyL_ready (rs := [3]) (by kernel_rfl) (by simp) ?_
     refine AllReadyL.cons (o := { dst := some 92, op := Op.call { callee := Callee.value (Operand.func 24), args := #[Operand.tmp 89, Operand.tmp 91], argTypes := #[39, 39] }, type := 39, pos := "law.go:148", after := #[{ on := 0, ground := Ground.data }, { on := 2, ground := Ground.data }, { on := 2, ground := Ground.chain }], guard := none }) rfl (fun K hK => ?_) AllReadyL.nil
     go_simp
     refine (radd34_any A3 A6 c3 c6 ok sk w6.heap.size _ hv60.size (HS6.out.2.below hv60) (HX6.out.2.below hv60)).mono ?_
     unfold ShNew shL
     rintro e w61 ⟨g9, rfl, F9, hg9, b61⟩
     have hv61 : Below w6.heap.size w6 w61 := hv60.trans (b61.mono hv60.size)
     have HF9 := Lib.hid (And.intro F9 (Nat.le_trans hv60.size hg9))
     clear b61 F9 hg9
     refine hK.out _ _ (hv61) (fun hHeld => ?_)
     clear hK K
     try simp only [PT]
     refine wpAnyL_ready (rs := [4]) (by kernel_rfl) (by simp) ?_
     refine AllReadyL.late (o := { dst := none, op := Op.store 39 (Operand.tmp 16) (Operand.tmp 92), type := 0, pos := "law.go:148", after := #[{ on := 3, ground := Ground.data }, { on := 3, ground := Ground.chain }, { on := 0, ground := Ground.phase }, { on := 1, ground := Ground.phase }, { on := 2, ground := Ground.phase }, { on := 3, ground := Ground.phase }], guard := none }) rfl (by rfl) (fun K hK => ?_) AllReadyL.nil
     rw [if_pos (by rfl)]
     refine wp_storeRow _ (.tmp 16) (.tmp 92) rfl (l' := [.slice (some ⟨g9, 0, none⟩) 16 16, .int .i64 (Cha.addS ok sk).h]) (HS6.out.1.below' hv61) rfl rfl sizeSR rfl rfl ?_
     intro w62 r62 g62 z62
     have HV7 := Lib.hid hv61
     have HR7 := Lib.hid (And.intro r62 g62)
     clear r62 g62 z62
     refine hK.out _ _ ?_
     clear hK K
     try simp only [PT]
     refine wpAnyL_done (by kernel_rfl) ?_ _
     go_wp2_with fail
     go_roundw
     case rel =>
      have h1 := HS6.out.1.lt
      have hF := HF9.out
      have hl9 := hF.1.lt
      refine ⟨_, k + 1, some ⟨g9, 0, none⟩, 16, rfl, by omega, by go_num, Lib.hid ⟨by rw [HSK.out]; exact HR7.out.1, ?_, fun p e => by have := Option.some.inj e; subst this; dsimp only; omega⟩, Lib.hid ((HKR.out.then_below HB6.out).trans ((Keep.of_below HV7.out).grown HR7.out.2 (fun i e => .inl (Option.some.inj e).symm)))⟩
      rw [HSK.out]
      exact (hF.1.keep (HR7.out.2.block g9 hl9 (fun e => by have := Option.some.inj e; omega))).rdL
     case measure => simp [intOf]; omega
    ·
     obtain rfl : k = n := by omega
     have hs4 := HX4.out.1.keep (HKR.out.block _ HX4.out.1.lt (fun e => by have := H16.out; omega))
     have HX4k := Lib.hid (And.intro hs4 ((HX4.out.2.keepS HKR.out (Nat.le_refl _) (fun p e h => by
      obtain ⟨b, o, e2, hb, _⟩ := HX4o.out.2.2 (by omega)
      rw [e2] at e
      have := Option.some.inj e
      subst this
      have h : b = b16 := h
      have := H16.out
      have : b < w45.heap.size := hb
      omega)).more HKR.out.size))
     have HXE : Hid (X4 = W.rowL 16 (of k).t ∧ h4 = (of k).h) := Lib.hid ⟨by rw [← HX4'.out.1, HSO.out], by rw [← HX4'.out.2, HSO.out]⟩
     clear hs4
     go_upto_region 19 with fail
     have hv0 : Below wr.heap.size wr wr.drew := (Below.refl _ _).drew
     refine wp_region_held_drew (S := fun W => Below wr.heap.size wr W) (by kernel_rfl) (hv0) (fun hHeld => ?_)
     refine wpAnyH_ready (rs := [0]) (by kernel_rfl) (by simp) ?_
     refine AllReadyH.cons (o := { dst := some 94, op := Op.call { callee := Callee.value (Operand.func 10), args := #[], argTypes := #[] }, type := 4, pos := "law.go:150", after := #[], guard := none }) rfl (fun K hK => ?_) AllReadyH.nil
     go_simp
     refine (HSN.out _).mono ?_
     rintro e w80 ⟨rfl, b80⟩
     have hv80 : Below wr.heap.size wr w80 := hv0.trans (b80.mono hv0.size)
     clear b80
     refine hK.out _ _ (hv80) (fun hHeld => ?_)
     clear hK K
     try simp only [PT]
     refine wpAnyH_take (i := 1) (oi := { dst := some 95, op := Op.move (Operand.tmp 94), type := 4, pos := "law.go:150", after := #[{ on := 0, ground := Ground.data }, { on := 0, ground := Ground.chain }], guard := none }) (v := ?v1_1) rfl (by kernel_rfl) (by kernel_rfl) (by kernel_rfl) (fun _ _ _ h => h) (Or.inl ⟨by rfl, ?h1_1⟩) (by assumption) ?r1_1
     case h1_1 =>
      intro W hSW
      try dsimp only at hSW
      go_simp
      try with_reducible rfl
     try simp only [PT]
     refine wpAnyH_take (i := 2) (oi := { dst := some 96, op := Op.load 39 (Operand.tmp 16), type := 39, pos := "law.go:150", after := #[{ on := 1, ground := Ground.guard }], guard := some (1, true) }) (v := (.agg #[.slice A3 16 c3, .int .i64 (of k).h])) rfl (by kernel_rfl) (by kernel_rfl) (by kernel_rfl) (fun _ _ _ h => h) (yieldsIf_load_mid (by rfl) 39 (.tmp 16) rfl b16 0 rfl [.slice A3 16 c3, .int .i64 (of k).h] _ (fun W hW q v hv => by rw [Nat.zero_add]; exact ((HS.out.1.below' hW).cell q).trans hv) Tryz.underlying39 rfl sizeSR) (by assumption) ?_
     try simp only [PT]
     refine wpAnyH_take (i := 3) (oi := { dst := some 97, op := Op.load 35 (Operand.tmp 12), type := 35, pos := "law.go:150", after := #[{ on := 1, ground := Ground.guard }], guard := some (1, true) }) (v := (.agg #[.slice A4 16 c4, .int .i64 h4])) rfl (by kernel_rfl) (by kernel_rfl) (by kernel_rfl) (fun _ _ _ h => h) (yieldsIf_load_mid (by rfl) 35 (.tmp 12) rfl b49 0 rfl [.slice A4 16 c4, .int .i64 h4] _ (fun W hW q v hv => by rw [Nat.zero_add]; exact ((HX4k.out.1.below' hW).cell q).trans hv) Tryz.underlying35 rfl sizeSP) (by assumption) ?_
     try simp only [PT]
     refine wpAnyH_ready (rs := [4]) (by kernel_rfl) (by simp) ?_
     refine AllReadyH.cons (o := { dst := some 98, op := Op.call { callee := Callee.value (Operand.func 14), args := #[Operand.tmp 97], argTypes := #[35] }, type := 39, pos := "law.go:150", after := #[{ on := 3, ground := Ground.data }, { on := 1, ground := Ground.chain }, { on := 1, ground := Ground.guard }], guard := some (1, true) }) rfl (fun K hK => ?_) AllReadyH.nil
     go_simp
     refine (own_any A4 16 c4 h4 _).mono ?_
     rintro e w81 ⟨rfl, b81⟩
     have hv81 : Below wr.heap.size wr w81 := hv80.trans (b81.mono hv80.size)
     clear b81
     refine hK.out _ _ (hv81) (fun hHeld => ?_)
     clear hK K
     try simp only [PT]
     refine wpAnyH_ready (rs := [5]) (by kernel_rfl) (by simp) ?_
     refine AllReadyH.cons (o := { dst := some 99, op := Op.call { callee := Callee.value (Operand.func 13), args := #[Operand.tmp 96, Operand.tmp 98], argTypes := #[39, 39] }, type := 4, pos := "law.go:150", after := #[{ on := 2, ground := Ground.data }, { on := 4, ground := Ground.data }, { on := 4, ground := Ground.chain }, { on := 1, ground := Ground.guard }], guard := some (1, true) }) rfl (fun K hK => ?_) AllReadyH.nil
     go_simp
     refine (same34_any A3 A4 c3 c4 16 16 (W.rowL 16 (of k).t) X4 (of k).h h4 _ (W.rowL_len _ _) (by rw [HXE.out.1]; exact W.rowL_len _ _) (by unfold maxLen; omega) wr.heap.size wr.heap.size hv81.size hv81.size (HS.out.2.1.below hv81) (HX4k.out.2.below hv81) true (decide_eq_true ⟨HXE.out.1.symm, HXE.out.2.symm⟩)).mono ?_
     rintro e w82 ⟨rfl, b82⟩
     have hv82 : Below wr.heap.size wr w82 := hv81.trans (b82.mono hv81.size)
     clear b82
     refine hK.out _ _ (hv82) (fun hHeld => ?_)
     clear hK K
     try simp only [PT]
     refine wpAnyH_take (i := 6) (oi := { dst := some 100, op := Op.pick (Operand.tmp 95) (Operand.tmp 99) (Operand.const (Value.bool false)), type := 4, pos := "law.go:150", after := #[{ on := 1, ground := Ground.data }, { on := 5, ground := Ground.data }], guard := none }) (v := ?v6_4) rfl (by kernel_rfl) (by kernel_rfl) (by kernel_rfl) (fun _ _ _ h => h) (Or.inl ⟨by rfl, ?h6_4⟩) (by assumption) ?r6_4
     case h6_4 =>
      intro W hSW
      try dsimp only at hSW
      go_simp
      try with_reducible rfl
     try simp only [PT]
     refine wpAnyH_take (i := 7) (oi := { dst := some 8, op := Op.assign (Operand.tmp 100), type := 4, pos := "law.go:150", after := #[{ on := 6, ground := Ground.data }, { on := 5, ground := Ground.chain }, { on := 0, ground := Ground.phase }, { on := 1, ground := Ground.phase }, { on := 2, ground := Ground.phase }, { on := 3, ground := Ground.phase }, { on := 4, ground := Ground.phase }, { on := 5, ground := Ground.phase }, { on := 6, ground := Ground.phase }], guard := none }) (v := ?v7_5) rfl (by kernel_rfl) (by kernel_rfl) (by kernel_rfl) (fun _ _ _ h => h) (Or.inl ⟨by rfl, ?h7_5⟩) (by assumption) ?r7_5
     case h7_5 =>
      intro W hSW
      try dsimp only at hSW
      go_simp
      try with_reducible rfl
     try simp only [PT]
     refine wpAnyH_done (by kernel_rfl) ?_ _
     have HV9 := Lib.hid hv82
     go_wp2_with fail
     go_ret
     have q5 := HWV.out _ Hwr.out
     exact ⟨rfl, q5.trans (HV9.out.mono q5.size)⟩
end Go.Proofs.YtfllkaeaanahmaaGreat
