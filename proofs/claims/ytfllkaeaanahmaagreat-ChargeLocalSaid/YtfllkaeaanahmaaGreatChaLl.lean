/- ChargeLocal: operations about chunks elsewhere leave a row's share as it is. Conditions: none. -/
import Derived.Test.YtfllkaeaanahmaaGreatChaLk
namespace Go.Proofs.YtfllkaeaanahmaaGreat
set_option linter.unusedVariables false
set_option linter.unusedSimpArgs false
open Go.RowKit
open W (FRow)
set_option maxRecDepth 100000 in
set_option maxHeartbeats 12800000 in
theorem lawCLocal (cf : S.Str.Cfg) (A : Option Addr) (n c : Nat) (D : List S.RR) (hnc : n ≤ c) (A1 : Option Addr) (n1 c1 : Nat) (ops : List Chk.Op) (hl : ops.length = n1) (hnc1 : n1 ≤ c1) (hc1 : c1 ≤ 140737488355328) (hok : ∀ o ∈ ops, OpOk o) (A2 : Option Addr) (n2 c2 : Nat) (more : List Chk.Op) (hl2 : more.length = n2) (hnc2 : n2 ≤ c2) (hc2 : c2 ≤ 140737488355328) (hok2 : ∀ o ∈ more, OpOk o) (x4 : Int) (l4 : -9223372036854775808 ≤ x4) (u4 : x4 ≤ 9223372036854775807) (w : World) (hrd : S.RowsIn w w.heap.size A n D (D.map S.RR.r)) (hr : Rd w w.heap.size 9 A1 n1 (ops.flatMap opL)) (hr2 : Rd w w.heap.size 9 A2 n2 (more.flatMap opL)) :
  Calls Tryz.prog 7 #[S.cfV cf, .slice A n c, .slice A1 n1 c1, .slice A2 n2 c2, .int .i64 x4] w fun e w' => e = .returned (.bool true) ∧ Below w.heap.size w w' := by
 clear l4 u4
 have HSN := Lib.hid sanity34_any
 obtain ⟨ca, cl, w0, hca, hcl, hw0, hrow, hb0, hs0⟩ := cfg_box cf w
 have hmx := hrd.mx
 obtain ⟨fq, hfq⟩ : ∃ q, decide (cf.rows ≤ 64 ∧ n ≤ 64) = q := ⟨_, rfl⟩
 have HFW := Lib.hid (fun (W : World) => few_any cf A n c hrd.mx W fq hfq)
 rw [hca] at HFW ⊢
 have HW := Lib.hid hw0
 have HB := Lib.hid hb0
 have HR := Lib.hid hrow.1
 have HCL := Lib.hid (And.intro hcl hrow.2)
 have HRD := Lib.hid hrd
 have HMO := Lib.hid (And.intro hr2 (And.intro hl2 hok2))
 have hk2 : n2 ≤ 140737488355328 := Nat.le_trans hnc2 hc2
 clear hr2 hl2 hok2 hnc2 hc2
 by_cases hn : n1 ≤ 120
 case neg =>
  have HBU := Lib.hid (fun W => build34_long A1 n1 c1 W (by omega))
  clear hw0 hb0 hs0 hcl hca hrow hr hok hl hrd hfq hk2
  go_enter Tryz.func7, Tryz.ntmps7
  go_upto_region 1 with fail
  rw [HW.out]
  go_wp2_with (first
   | (go_at_call 8; refine (HBU.out _).mono ?_; rintro e w1 ⟨rfl, b1⟩; have HB1 := Lib.hid (HB.out.trans (b1.mono HB.out.size)); clear b1)
   | (go_at_call 10; refine (HSN.out _).mono ?_; rintro e w3 ⟨rfl, b3⟩))
  go_ret
  exact ⟨rfl, HB1.out.trans (b3.mono HB1.out.size)⟩
 have HPR0 := Lib.hid (fun o ho => (hok o ho).2.2.2.2.2)
 have HOO := Lib.hid (show OpsAt w0 A1 n1 ops from OpsAt.below (w := w) ⟨hr, hl, fun o ho => (hok o ho).2.2.2.2.2⟩ hb0)
 have HBU := Lib.hid (build34_any A1 n1 c1 ops w0 hn HOO.out)
 obtain ⟨l, hll⟩ : ∃ l, Chk.run [] ops = l := ⟨_, rfl⟩
 rw [hll] at HBU
 cases fq with
 | false =>
  clear hw0 hb0 hs0 hcl hca hrow hr hok hl hrd hfq hll hk2
  go_enter Tryz.func7, Tryz.ntmps7
  go_upto_region 1 with fail
  rw [HW.out]
  go_upto_region 2 with (go_at_call 8; refine HBU.out.mono ?_; rintro e w1 ⟨a, r, rfl, hp1⟩)
  have HP := Lib.hid hp1
  have HB1 := Lib.hid (HB.out.trans (hp1.b.mono HB.out.size))
  have hcr : w1.rangeAt w.heap.size 0 cl := fun q u hq => by rw [Nat.zero_add, (HR.out.below' hp1.b).cell]; exact hq
  clear hp1
  go_wp2_with (first
   | (have tok := hcr; refine S.wpList_load_rg rfl _ (.tmp 5) rfl w.heap.size 0 rfl cl _ hcr Tryz.underlying23 rfl (by rw [HCL.out.2.1]; exact S.sizeCf) ?_; rw [HCL.out.1]; clear tok)
   | (go_at_call 9; refine (HFW.out _).mono ?_; rintro e w2 ⟨rfl, b2⟩; have HB2 := Lib.hid (HB1.out.trans (b2.mono HB1.out.size)); clear b2 hcr)
   | (go_at_call 10; refine (HSN.out _).mono ?_; rintro e w3 ⟨rfl, b3⟩))
  go_ret
  exact ⟨rfl, HB2.out.trans (b3.mono HB2.out.size)⟩
 | true =>
  have HCA := Lib.hid hca
  clear hw0 hb0 hs0 hcl hca hrow hr hok hrd hfq hl
  by_cases hsum : n1 + n2 ≤ 120
  case neg =>
   clear hll
   have i1 : (n1 : Int) ≤ 120 := by omega
   have i2 : (n2 : Int) ≤ 140737488355328 := by omega
   have i3 : (120 : Int) < (n1 : Int) + (n2 : Int) := by omega
   go_enter Tryz.func7, Tryz.ntmps7
   go_upto_region 1 with fail
   rw [HW.out]
   go_upto_region 2 with (go_at_call 8; refine HBU.out.mono ?_; rintro e w1 ⟨a, r, rfl, hp1⟩)
   have HB1 := Lib.hid (HB.out.trans (hp1.b.mono HB.out.size))
   have hcr : w1.rangeAt w.heap.size 0 cl := fun q u hq => by rw [Nat.zero_add, (HR.out.below' hp1.b).cell]; exact hq
   clear hp1
   go_wp2_with (first
    | (have tok := hcr; refine S.wpList_load_rg rfl _ (.tmp 5) rfl w.heap.size 0 rfl cl _ hcr Tryz.underlying23 rfl (by rw [HCL.out.2.1]; exact S.sizeCf) ?_; rw [HCL.out.1]; clear tok)
    | (go_at_call 9; refine (HFW.out _).mono ?_; rintro e w2 ⟨rfl, b2⟩; have HB2 := Lib.hid (HB1.out.trans (b2.mono HB1.out.size)); clear b2 hcr)
    | (go_at_call 10; refine (HSN.out _).mono ?_; rintro e w3 ⟨rfl, b3⟩))
   go_ret
   exact ⟨rfl, HB2.out.trans (b3.mono HB2.out.size)⟩
  have HLL := Lib.hid hll
  have HLNO := Lib.hid HOO.out.len
  clear hll hn
  go_enter Tryz.func7, Tryz.ntmps7
  go_upto_region 1 with fail
  rw [HW.out]
  go_upto_region 2 with (go_at_call 8; refine HBU.out.mono ?_; rintro e w1 ⟨a, r, rfl, hp1⟩)
  have HP := Lib.hid hp1
  have HB1 := Lib.hid (HB.out.trans (hp1.b.mono HB.out.size))
  have HCR1 := Lib.hid (HR.out.below' hp1.b)
  have hcr : w1.rangeAt w.heap.size 0 cl := fun q u hq => by rw [Nat.zero_add, HCR1.out.cell]; exact hq
  clear hp1
  go_upto_region 4 with (first
   | (have tok := hcr; refine S.wpList_load_rg rfl _ (.tmp 5) rfl w.heap.size 0 rfl cl _ hcr Tryz.underlying23 rfl (by rw [HCL.out.2.1]; exact S.sizeCf) ?_; rw [HCL.out.1]; clear tok)
   | (go_at_call 9; refine (HFW.out _).mono ?_; rintro e w2 ⟨rfl, b2⟩; have HB2 := Lib.hid b2; clear b2))
  clear hcr
  obtain ⟨N4, X, H4, E, hXN, hN16, hU⟩ := shF (Cha.rowF l cf (D.map S.RR.r) x4)
  have H01 := Lib.hid HP.out.b
  have HPO : Hid (∀ W, Below w2.heap.size w2 W → Calls Tryz.prog 17 #[.agg ca, .slice A n c, .pointer (some ⟨a, 0, none⟩), .int .i64 x4] W (ShF W N4 X H4 E)) := Lib.hid fun V hV => by
   obtain ⟨F, T, F', T', ⟨t, ht⟩, ⟨t', ht'⟩, -⟩ := HP.out
   have hwV := (HB1.out.trans (HB2.out.mono HB1.out.size)).trans (hV.mono (HB1.out.trans (HB2.out.mono HB1.out.size)).size)
   have := prow_any (HB2.out.trans (hV.mono HB2.out.size)) ht (HRD.out.below hwV) hwV.size hnc cf x4
   rw [HCA.out] at this
   exact this.mono fun e w' h => hU _ _ _ h
  have HXN := Lib.hid (And.intro hXN hN16)
  have HCR0 := HCR1
  have HCR1 := Lib.hid (HCR1.out.below' HB2.out)
  have Hw2 := Lib.hid (Below.refl w2.heap.size w2)
  have HUU := Lib.hid hU
  unfold ShF at HPO
  clear hXN hN16 hU
  have hcr : w2.rangeAt w.heap.size 0 cl := fun q u hq => by rw [Nat.zero_add, (HCR1.out.below' Hw2.out).cell]; exact hq
  go_upto_region 5 with (first
   | (have tok := hcr; refine S.wpList_load_rg rfl _ (.tmp 5) rfl w.heap.size 0 rfl cl _ hcr Tryz.underlying23 rfl (by rw [HCL.out.2.1]; exact S.sizeCf) ?_; rw [HCL.out.1]; clear tok)
   | (have tok := r4; refine wpList_storeRow rfl _ (.tmp 14) (.tmp 55) rfl (l' := [.slice A4 N4 c4, .int .i64 H4]) r4 rfl rfl sizeSP rfl rfl ?_; intro w45 r45 g45 z45; clear tok)
   | (go_at_call 17; refine (HPO.out _ Hw2.out).mono ?_; rintro e w43 ⟨A4, c4, rfl, rd4, b43⟩)
   | (refine wpList_allocRow rfl _ rfl _ infoSP ?_; intro w44 r4 b4 z4))
  have hc4 : Below w43.heap.size w43 w45 := b4.grown g45 b4.size (fun i hi => by have := Option.some.inj hi; omega)
  have hd4 := b43.trans (hc4.mono b43.size)
  have HBR4 := Lib.hid hd4
  have Hw45 := Lib.hid (Hw2.out.trans (hd4.mono Hw2.out.size))
  have HX4 := Lib.hid (And.intro r45 ((rd4.1.below hc4).more hc4.size))
  have HLO4 := Lib.hid (And.intro b43.size rd4.2)
  obtain ⟨b49, hb49⟩ : ∃ y, w43.heap.size = y := ⟨_, rfl⟩
  rw [hb49] at HX4 HLO4
  try rw [hb49]
  clear hcr r4 b4 z4 r45 g45 z45 hc4 hd4 hb49 rd4 b43
  try simp only [PT]
  have H045 : Hid (Below w0.heap.size w0 w45) := Lib.hid (H01.out.trans ((HB2.out.trans (Hw45.out.mono HB2.out.size)).mono H01.out.size))
  go_upto_region 6 with (at_builtin; refine wpList_appR rfl (.tmp 57) (.tmp 58) 26 rfl w45.heap.size 78 _ 9 64 opT34 (some ⟨w45.heap.size, 0, none⟩) 0 0 [] A1 n1 c1 (ops.flatMap opL) rfl rfl (own_zeroC w45 _ 9) ((HOO.out.rd.below H045.out).alloc H045.out.size _) (ops_one ops) ((Below.refl _ _).alloc (Nat.le_refl _) _) (by omega) (Nat.le_refl _) (by simp) ?_; intro A3 c3 w6 own6 hb6; simp only [Nat.zero_add, List.nil_append] at own6; simp only [Nat.zero_add])
  obtain ⟨B, hB⟩ : ∃ y, w45.heap.size = y := ⟨_, rfl⟩
  obtain ⟨cs4, hcs4⟩ : ∃ y, [Value.slice A4 N4 c4, .int .i64 H4] = y := ⟨_, rfl⟩
  have HLS6 : Hid (LS w0 w6 r B b49 cs4 A4 N4 X l ops A3 n1 c3) := Lib.hid (by
   subst hB hcs4
   have h06 := (HB2.out.trans (Hw45.out.mono HB2.out.size)).trans (hb6.mono (HB2.out.trans (Hw45.out.mono HB2.out.size)).size)
   have hs0 := H01.out.size
   have hs2 := HB2.out.size
   have hs6 := hb6.size
   have hb := HX4.out.1.lt
   have hlo := HLO4.out
   have hs45 := Hw45.out.size
   refine ⟨HP.out.rg.grow h06 fun b e => .inr ?_, HLNO.out, own6, HX4.out.1.below' hb6, (HX4.out.2.below hb6).more hb6.size, by omega, hb, hs6, fun p e => ⟨by have := (hlo.2 p e).1; omega, by have := (hlo.2 p e).2; omega⟩⟩
   rcases e with e | ⟨p, e, e2⟩ | ⟨p, e, e2⟩
   ·
    subst e; exact ⟨by omega, by omega⟩
   ·
    have := hlo.2 p e
    subst e2; exact ⟨by omega, by omega⟩
   ·
    have q1 := own_fr own6 p e
    have q2 := own_lt own6 p e
    subst e2; exact ⟨by omega, q2⟩)
  have HCS4 := Lib.hid hcs4
  clear own6 hb6 hB hcs4
  try simp only [PT]
  go_upto_region 7 with fail
  go_loopw [16, 62] (fun u16 u62 wx => ∃ (wr : World) (k n3 c3 : Nat) (A3 : Option Addr) (all : List Chk.Op) (lk : List Chk.Ck), wr = wx ∧ k ≤ n2 ∧ n3 ≤ n1 + k ∧ u16 = .slice A3 n3 c3 ∧ u62 = .int .i64 (k : Int) ∧ Hid (LS w0 wr r B b49 cs4 A4 N4 X lk all A3 n3 c3) ∧ Hid (Chk.run [] all = lk) ∧ Hid (∀ u : Chk.Un, u.r = x4 → Cha.chunkAt lk u = Cha.chunkAt l u) ∧ Hid (∀ o ∈ all, Chk.inR o.pr 4294967296)) (fun _ u62 _ => n2 - (intOf u62).toNat)
  case atStart => exact ⟨_, 0, n1, c3, A3, ops, l, rfl, Nat.zero_le _, Nat.le_refl _, rfl, rfl, HLS6, HLL, Lib.hid (fun _ _ => rfl), HPR0⟩
  case round =>
   obtain ⟨wr, k, n3, c3, A3, all, lk, rfl, hk, hn3, rfl, rfl, HLS, HRU, HCH, HPA⟩ := hrel
   by_cases hlt : k < n2
   ·
    have hkl : k < more.length := by rw [HMO.out.2.1]; exact hlt
    have hbr := HB.out.trans (HLS.out.rg.b.mono HB.out.size)
    obtain ⟨bo, off, rfl, hbb, hrg⟩ := HMO.out.1.elem (f := opL) (fun _ _ => rfl) hkl hlt
    have hpr := (HMO.out.2.2 more[k] (List.getElem_mem hkl)).2.2.2.2.2
    obtain ⟨o, ho⟩ : ∃ o, more[k] = o := ⟨_, rfl⟩
    rw [ho] at hrg hpr
    have hrw : wr.rangeAt bo (off + k * 9) (opL o) := fun q u hq => (hbr.cell (p := ⟨bo, off + k * 9 + q, none⟩) hbb).trans (hrg q u hq)
    have HPR := Lib.hid hpr
    obtain ⟨os, hos⟩ : ∃ os, opL o = os := ⟨_, rfl⟩
    obtain ⟨ii, hii⟩ : ∃ y, o.id = y := ⟨_, rfl⟩
    obtain ⟨kd, hkd⟩ : ∃ y, o.kind = y := ⟨_, rfl⟩
    obtain ⟨ur, hur⟩ : ∃ y, o.u.r = y := ⟨_, rfl⟩
    have HOV : Hid (opV o = .agg os.toArray) := Lib.hid (by rw [← hos]; rfl)
    have HOE : Hid (os[0]? = some (.int .i64 kd) ∧ os[1]? = some (.int .i64 ii) ∧ os[4]? = some (.int .i64 ur)) := Lib.hid ⟨by rw [← hos, ← hkd]; rfl, by rw [← hos, ← hii]; rfl, by rw [← hos, ← hur]; rfl⟩
    have HON2 := Lib.hid (And.intro hii (And.intro hkd hur))
    rw [hos] at hrw
    have HOS := Lib.hid hos
    have HLN := Lib.hid (show os.length = 9 by rw [← hos]; rfl)
    have HON := Lib.hid (show os.all (·.oneCell') = true by rw [← hos]; rfl)
    have e1 : (0 : Int) ≤ (k : Int) := by omega
    have e2 : (k : Int) < (n2 : Int) := by omega
    clear hkl hbr hbb hrg hpr ho hos hii hkd hur
    go_upto_region 9 with (first
     | (refine wpList_load_mid rfl _ (.tmp 64) rfl bo (off + k * 9) rfl os _ hrw Tryz.underlying78 rfl (by rw [HLN.out]; exact sizeOp) ?_)
     | (refine wpList_allocRow rfl _ rfl _ infoOp ?_; intro w3 rz3 b3 z3; clear z3)
     | (refine wpList_storeRow rfl _ (.tmp 18) (.tmp 65) rfl (l' := os) rz3 rfl rfl (by rw [HLN.out]; exact sizeOp) (by rw [HLN.out]; rfl) HON.out ?_; intro w4 rz4 g4 z4; clear z4))
    have hb4 : Below wr.heap.size wr w4 := b3.grown g4 b3.size (fun i hi => by have := Option.some.inj hi; omega)
    have H18 := Lib.hid (And.intro (Nat.le_refl wr.heap.size) rz4.lt)
    have HB4 := Lib.hid hb4
    obtain ⟨b18, hb18⟩ : ∃ y, wr.heap.size = y := ⟨_, rfl⟩
    rw [hb18] at rz4 ⊢
    have H18 : Hid (wr.heap.size ≤ b18 ∧ b18 < w4.heap.size) := Lib.hid ⟨by omega, rz4.lt⟩
    have HR4 := Lib.hid rz4
    have y1 := (rz4.cell 1).trans HOE.out.2.1
    obtain ⟨ch, has, hdg, hh1, hh0, hget⟩ := (HLS.out.below hb4).rg.get ii
    have HGE := Lib.hid hget
    have HH := Lib.hid (And.intro hh1 hh0)
    have HDG := Lib.hid hdg
    clear rz3 b3 g4 hrw hb4 hb18 rz4 hget hh1 hh0 hdg
    try simp only [PT]
    go_upto_region 10 with (first
     | (have tok := rz8; refine wpList_storeRow rfl _ (.tmp 19) (.tmp 71) rfl (l' := cs) rz8 rfl rfl (by rw [HCL2.out.1]; exact sizeCk) (by rw [HCL2.out.1]; rfl) HCL2.out.2.1 ?_; intro w9 rz9 g9 z9; clear tok)
     | (go_at_call 26; refine HGE.out.mono ?_; rintro e w7 ⟨Ag, ng, kg, rfl, b7⟩; obtain ⟨cs, hcs⟩ : ∃ cs, ckCells ch (.slice Ag ng kg) = cs := ⟨_, rfl⟩; rw [hcs]; have HCL2 : Hid (cs.length = 23 ∧ cs.all (·.oneCell') = true ∧ cs[18]? = some (.int .i64 ch.at_.r) ∧ cs[21]? = some (.bool ch.lost)) := Lib.hid ⟨by rw [← hcs]; exact ckCells_len HDG.out _, by rw [← hcs, List.all_eq_true]; exact fun u hu => ckCells_one ch _ rfl u hu, by rw [← hcs]; exact (ckCells_at ch (.slice Ag ng kg) HDG.out).2.2.1, by rw [← hcs]; exact (ckCells_at ch (.slice Ag ng kg) HDG.out).2.2.2.2.2.1⟩; clear hcs)
     | (refine wpList_allocRow rfl _ rfl _ infoCk' ?_; intro w8 rz8 b8 z8; clear z8))
    have hb9 : Below w7.heap.size w7 w9 := b8.grown g9 b8.size (fun i hi => by have := Option.some.inj hi; omega)
    have hb79 := b7.trans (hb9.mono b7.size)
    have HB9 := Lib.hid (HB4.out.trans (hb79.mono HB4.out.size))
    obtain ⟨b19, hb19⟩ : ∃ y, w7.heap.size = y := ⟨_, rfl⟩
    rw [hb19] at rz9
    try rw [hb19]
    have HR9 := Lib.hid (HR4.out.below' hb79)
    have H189 : Hid (wr.heap.size ≤ b18 ∧ b18 < w9.heap.size) := Lib.hid ⟨H18.out.1, HR9.out.lt⟩
    obtain ⟨lo, hlo⟩ : ∃ y, ch.lost = y := ⟨_, rfl⟩
    obtain ⟨ar, har⟩ : ∃ y, ch.at_.r = y := ⟨_, rfl⟩
    obtain ⟨Z, hZ⟩ : ∃ y, skipB kd ur x4 has lo ar = y := ⟨_, rfl⟩
    have HKE : Hid (Z = false → Cha.keeps lk o x4) := Lib.hid fun e => skipB_keeps (ch := ch) (has := has) (by rw [HON2.out.1]; exact HH.out.1) (by rw [HON2.out.1]; exact HH.out.2) (by rw [HON2.out.2.1, HON2.out.2.2, hlo, har, hZ]; exact e)
    have z18 := (rz9.cell 18).trans HCL2.out.2.2.1
    have z21 := (rz9.cell 21).trans HCL2.out.2.2.2
    rw [har] at z18
    rw [hlo] at z21
    have y0 := (HR9.out.cell 0).trans HOE.out.1
    have y4 := (HR9.out.cell 4).trans HOE.out.2.2
    clear y1 rz8 b8 rz9 g9 z9 hb9 hb79 b7 hb19 hlo har
    try simp only [PT]
    obtain ⟨cb, hcb⟩ : ∃ y, decide (kd = 1 ∨ kd = 4) = y := ⟨_, rfl⟩
    have HKD : Hid (kd = 1 ∨ kd = 4 ∨ (kd ≠ 1 ∧ kd ≠ 4)) := Lib.hid (by omega)
    go_cut [21] from 73 to 80 (fun u21 wx => u21 = .bool cb ∧ w9 = wx)
    case first =>
     rcases HKD.out with rfl | rfl | ⟨k1, k4⟩
     ·
      obtain rfl : cb = true := by rw [← hcb]; decide
      clear hcb
      go_wp2_with fail
      go_meet
      exact ⟨rfl, rfl⟩
     ·
      obtain rfl : cb = true := by rw [← hcb]; decide
      clear hcb
      go_wp2_with fail
      go_meet
      exact ⟨rfl, rfl⟩
     ·
      obtain rfl : cb = false := by rw [← hcb]; simp [k1, k4]
      have q2 : (kd == 1) = false := by simp [k1]
      have q3 : (kd == 4) = false := by simp [k4]
      clear hcb k1 k4
      go_wp2_with fail
      go_meet
      exact ⟨rfl, rfl⟩
    case rest =>
    obtain ⟨rfl, rfl⟩ := hcut
    go_upto_region 11 with fail
    go_cut [110] from 81 to 110 (fun u110 wx => u110 = .bool Z ∧ w9 = wx)
    case first =>
     rcases HKD.out with rfl | rfl | ⟨k1, k4⟩
     ·
      obtain rfl : cb = true := by rw [← hcb]; decide
      clear hcb
      by_cases hr : ur = x4
      ·
       have q1 : (ur == x4) = true := by simp [hr]
       have HZ0 : Hid (true = Z) := Lib.hid (by rw [← hZ]; unfold skipB; simp [hr])
       clear hr hZ
       go_wp2_with fail
       go_meet
       exact ⟨by rw [← HZ0.out], rfl⟩
      ·
       have q1 : (ur == x4) = false := by simp [hr]
       have HZ0 : Hid (false = Z) := Lib.hid (by rw [← hZ]; unfold skipB; simp [hr])
       clear hr hZ
       go_wp2_with fail
       go_meet
       exact ⟨by rw [← HZ0.out], rfl⟩
     ·
      obtain rfl : cb = true := by rw [← hcb]; decide
      clear hcb
      by_cases hr : ur = x4
      ·
       have q1 : (ur == x4) = true := by simp [hr]
       have HZ0 : Hid (true = Z) := Lib.hid (by rw [← hZ]; unfold skipB; simp [hr])
       clear hZ
       go_wp2_with fail
       go_meet
       exact ⟨by rw [← HZ0.out], rfl⟩
      have q1 : (ur == x4) = false := by simp [hr]
      cases has with
      | false =>
       have HZ0 : Hid (false = Z) := Lib.hid (by rw [← hZ]; unfold skipB; simp [hr])
       clear hZ
       go_wp2_with fail
       go_meet
       exact ⟨by rw [← HZ0.out], rfl⟩
      | true =>
       cases lo with
       | true =>
        have HZ0 : Hid (false = Z) := Lib.hid (by rw [← hZ]; unfold skipB; simp [hr])
        clear hZ
        go_wp2_with fail
        go_meet
        exact ⟨by rw [← HZ0.out], rfl⟩
       | false =>
        by_cases ha : ar = x4
        ·
         have q5 : (ar == x4) = true := by simp [ha]
         have HZ0 : Hid (true = Z) := Lib.hid (by rw [← hZ]; unfold skipB; simp [hr, ha])
         clear hZ
         go_wp2_with fail
         go_meet
         exact ⟨by rw [← HZ0.out], rfl⟩
        ·
         have q5 : (ar == x4) = false := by simp [ha]
         have HZ0 : Hid (false = Z) := Lib.hid (by rw [← hZ]; unfold skipB; simp [hr, ha])
         clear hZ
         go_wp2_with fail
         go_meet
         exact ⟨by rw [← HZ0.out], rfl⟩
     ·
      obtain rfl : cb = false := by rw [← hcb]; simp [k1, k4]
      clear hcb
      have q4 : (kd != 1) = true := by simp [k1]
      cases has with
      | false =>
       have HZ0 : Hid (false = Z) := Lib.hid (by rw [← hZ]; unfold skipB; simp [k1, k4])
       clear hZ k1 k4
       go_wp2_with fail
       go_meet
       exact ⟨by rw [← HZ0.out], rfl⟩
      | true =>
       cases lo with
       | true =>
        have HZ0 : Hid (false = Z) := Lib.hid (by rw [← hZ]; unfold skipB; simp [k1, k4])
        clear hZ k1 k4
        go_wp2_with fail
        go_meet
        exact ⟨by rw [← HZ0.out], rfl⟩
       | false =>
        by_cases ha : ar = x4
        ·
         have q5 : (ar == x4) = true := by simp [ha]
         have HZ0 : Hid (true = Z) := Lib.hid (by rw [← hZ]; unfold skipB; simp [k1, k4, ha])
         clear hZ k1 k4
         go_wp2_with fail
         go_meet
         exact ⟨by rw [← HZ0.out], rfl⟩
        ·
         have q5 : (ar == x4) = false := by simp [ha]
         have HZ0 : Hid (false = Z) := Lib.hid (by rw [← hZ]; unfold skipB; simp [k1, k4, ha])
         clear hZ k1 k4
         go_wp2_with fail
         go_meet
         exact ⟨by rw [← HZ0.out], rfl⟩
    case rest =>
    obtain ⟨rfl, rfl⟩ := hcut
    clear hZ hcb z18 z21 y0 y4
    cases Z with
    | true =>
     go_wp2_with fail
     go_roundw
     case rel => exact ⟨_, k + 1, n3, c3, A3, all, lk, rfl, by omega, by omega, rfl, by go_num, Lib.hid (HLS.out.below HB9.out), HRU, HCH, HPA⟩
     case measure => simp [intOf]; omega
    | false =>
     have HDO := Lib.hid (HLS.out.do2 HB9.out b18 H189.out.1 H189.out.2 o HPR.out)
     rw [HOV.out] at HDO
     have hr9 : w9.rangeAt b18 0 os := fun q u hu => by rw [Nat.zero_add, HR9.out.cell]; exact hu
     go_upto_region 13 with (first
      | (refine wpList_load_mid rfl _ (.tmp 18) rfl b18 0 rfl os _ hr9 Tryz.underlying78 rfl (by rw [HLN.out]; exact sizeOp) ?_)
      | (go_at_call 27; refine HDO.out.mono ?_; rintro e wa ⟨⟨v1, v2, rfl⟩, hla, hxa⟩; have HLA := Lib.hid hla; have HXA := Lib.hid (HR9.out.keep hxa); clear hla hxa))
     have hra : wa.rangeAt b18 0 os := fun q u hu => by rw [Nat.zero_add, HXA.out.cell]; exact hu
     clear hr9 HDO
     have hn3' : n3 ≤ 120 := by omega
     go_upto_region 14 with (first
      | (refine wpList_load_mid rfl _ (.tmp 18) rfl b18 0 rfl os _ hra Tryz.underlying78 rfl (by rw [HLN.out]; exact sizeOp) ?_)
      | (at_builtin; refine wpList_appN rfl (.tmp 114) (.tmp 116) 26 rfl B 78 _ 9 64 opT34 A3 n3 c3 (all.flatMap opL) os _ rfl rfl rfl HLA.out.own (Below.refl B _) HLN.out (List.all_eq_true.1 HON.out) (by omega) (Nat.le_refl _) HLA.out.lo.2.2.1 ?_; intro gA cA wb ownA hbA hgA; have HOA := Lib.hid ownA; have HGA := Lib.hid hgA; clear ownA hbA hgA)
      | (refine wpList_plain rfl fun K hK => wp_build9 (.tmp 115) rfl o os HOS.out rfl (hK _ _ ?_); clear hK K))
     have HLB : Hid (LS w0 wb r B b49 cs4 A4 N4 X (Chk.step lk o).1 (all ++ [o]) (some ⟨gA, 0, none⟩) (n3 + 1) cA) := Lib.hid (HLA.out.app o (by rw [HOS.out]; exact HOA.out) HGA.out.1 HGA.out.2)
     have HCB : Hid (∀ u : Chk.Un, u.r = x4 → Cha.chunkAt (Chk.step lk o).1 u = Cha.chunkAt l u) := Lib.hid fun u hu => (Cha.step_row (HKE.out (by trivial)) hu).trans (HCH.out u hu)
     have HPB : Hid (∀ q ∈ all ++ [o], Chk.inR q.pr 4294967296) := Lib.hid fun q hq => by
      rcases List.mem_append.1 hq with h | h
      ·
       exact HPA.out q h
      ·
       rw [List.mem_singleton.1 h]; exact HPR.out
     have HRB : Hid (Chk.run [] (all ++ [o]) = (Chk.step lk o).1) := Lib.hid (by rw [run_snoc, HRU.out])
     clear hra
     try simp only [PT]
     go_wp2_with fail
     go_roundw
     case rel => exact ⟨_, k + 1, n3 + 1, cA, some ⟨gA, 0, none⟩, all ++ [o], _, rfl, by omega, by omega, rfl, by go_num, HLB, HRB, HCB, HPB⟩
     case measure => simp [intOf]; omega
   ·
    obtain rfl : k = n2 := by omega
    have HN120 : Hid (n3 ≤ 120) := Lib.hid (by omega)
    have HBU2 := Lib.hid (build34_any A3 n3 c3 all wr HN120.out (HLS.out.ops HPA.out))
    rw [HRU.out] at HBU2
    have HWR : Hid (Below w.heap.size w wr) := Lib.hid (HB.out.trans (HLS.out.rg.b.mono HB.out.size))
    go_upto_region 16 with (go_at_call 8; refine HBU2.out.mono ?_; rintro e w11 ⟨aa, r2, rfl, hpx⟩; have HPX := Lib.hid hpx; clear hpx)
    have HB11 := Lib.hid HPX.out.b
    have HCRx := Lib.hid ((HR.out.below' HLS.out.rg.b).below' HB11.out)
    have HPX2 : Hid (∀ W, Below w11.heap.size w11 W → Calls Tryz.prog 17 #[.agg ca, .slice A n c, .pointer (some ⟨aa, 0, none⟩), .int .i64 x4] W (ShF W N4 X H4 E)) := Lib.hid fun V hV => by
     obtain ⟨F, T, F', T', ⟨t, ht⟩, ⟨t', ht'⟩, -⟩ := HPX.out
     obtain ⟨F0, T0, -, -, ⟨t0, ht0⟩, -⟩ := HP.out
     have hwV := HWR.out.trans ((HB11.out.trans (hV.mono HB11.out.size)).mono HWR.out.size)
     have := prow_any hV ht (HRD.out.below hwV) hwV.size hnc cf x4
     rw [Cha.rowF_same ht.inv ht0.inv HCH.out, HCA.out] at this
     exact this.mono fun e w' h => HUU.out _ _ _ h
    have Hw11 := Lib.hid (Below.refl w11.heap.size w11)
    have HX4 : Hid (IsRow w11 b49 35 [.slice A4 N4 c4, .int .i64 H4] ∧ Rd w11 w11.heap.size 1 A4 N4 (ivs X)) := Lib.hid ⟨by rw [HCS4.out]; exact HLS.out.row.below' HB11.out, (HLS.out.rd.below HB11.out).more HB11.out.size⟩
    unfold ShF at HPX2
    go_upto_region 18 with fail
    have hcr : w11.rangeAt w.heap.size 0 cl := fun q u hq => by rw [Nat.zero_add, (HCRx.out.below' Hw11.out).cell]; exact hq
    go_upto_region 19 with (first
     | (have tok := hcr; refine S.wpList_load_rg rfl _ (.tmp 5) rfl w.heap.size 0 rfl cl _ hcr Tryz.underlying23 rfl (by rw [HCL.out.2.1]; exact S.sizeCf) ?_; rw [HCL.out.1]; clear tok)
     | (have tok := r5; refine wpList_storeRow rfl _ (.tmp 24) (.tmp 133) rfl (l' := [.slice A5 N4 c5, .int .i64 H4]) r5 rfl rfl sizeSP rfl rfl ?_; intro w55 r55 g55 z55; clear tok)
     | (go_at_call 17; refine (HPX2.out _ Hw11.out).mono ?_; rintro e w53 ⟨A5, c5, rfl, rd5, b53⟩)
     | (refine wpList_allocRow rfl _ rfl _ infoSP ?_; intro w54 r5 b5 z5))
    have hc5 : Below w53.heap.size w53 w55 := b5.grown g55 b5.size (fun i hi => by have := Option.some.inj hi; omega)
    have hd5 := b53.trans (hc5.mono b53.size)
    have HBR5 := Lib.hid hd5
    have Hw55 := Lib.hid (Hw11.out.trans (hd5.mono Hw11.out.size))
    have HX5 := Lib.hid (And.intro r55 ((rd5.1.below hc5).more hc5.size))
    obtain ⟨b59, hb59⟩ : ∃ y, w53.heap.size = y := ⟨_, rfl⟩
    rw [hb59] at HX5
    try rw [hb59]
    clear hcr r5 b5 z5 r55 g55 z55 hc5 hd5 hb59 rd5 b53
    try simp only [PT]
    have HX4 := Lib.hid (And.intro (HX4.out.1.below' HBR5.out) ((HX4.out.2.below HBR5.out).more HBR5.out.size))
    have e9 : (E == E) = true := by simp
    go_upto_region 19 with fail
    have hv0 : Below w55.heap.size w55 w55.drew := (Below.refl _ _).drew
    refine wp_region_held_drew (S := fun W => Below w55.heap.size w55 W) (by kernel_rfl) (hv0) (fun hHeld => ?_)
    refine wpAnyH_ready (rs := [0]) (by kernel_rfl) (by simp) ?_
    refine AllReadyH.cons (o := { dst := some 135, op := Op.call { callee := Callee.value (Operand.func 10), args := #[], argTypes := #[] }, type := 4, pos := "law.go:196", after := #[], guard := none }) rfl (fun K hK => ?_) AllReadyH.nil
    go_simp
    refine (HSN.out _).mono ?_
    rintro e w60 ⟨rfl, b60⟩
    have hv60 : Below w55.heap.size w55 w60 := hv0.trans (b60.mono hv0.size)
    clear b60
    refine hK.out _ _ (hv60) (fun hHeld => ?_)
    clear hK K
    try simp only [PT]
    refine wpAnyH_take (i := 1) (oi := { dst := some 136, op := Op.move (Operand.tmp 135), type := 4, pos := "law.go:196", after := #[{ on := 0, ground := Ground.data }, { on := 0, ground := Ground.chain }], guard := none }) (v := ?v1_1) rfl (by kernel_rfl) (by kernel_rfl) (by kernel_rfl) (fun _ _ _ h => h) (Or.inl ⟨by rfl, ?h1_1⟩) (by assumption) ?r1_1
    case h1_1 =>
     intro W hSW
     try dsimp only at hSW
     go_simp
     try with_reducible rfl
    try simp only [PT]
    refine wpAnyH_take (i := 2) (oi := { dst := some 137, op := Op.move (Operand.tmp 15), type := 36, pos := "law.go:196", after := #[{ on := 1, ground := Ground.guard }], guard := some (1, true) }) (v := ?v2_2) rfl (by kernel_rfl) (by kernel_rfl) (by kernel_rfl) (fun _ _ _ h => h) (Or.inl ⟨by rfl, ?h2_2⟩) (by assumption) ?r2_2
    case h2_2 =>
     intro W hSW
     try dsimp only at hSW
     go_simp
     try with_reducible rfl
    try simp only [PT]
    refine wpAnyH_take (i := 3) (oi := { dst := some 138, op := Op.move (Operand.tmp 25), type := 36, pos := "law.go:196", after := #[{ on := 1, ground := Ground.guard }], guard := some (1, true) }) (v := ?v3_3) rfl (by kernel_rfl) (by kernel_rfl) (by kernel_rfl) (fun _ _ _ h => h) (Or.inl ⟨by rfl, ?h3_3⟩) (by assumption) ?r3_3
    case h3_3 =>
     intro W hSW
     try dsimp only at hSW
     go_simp
     try with_reducible rfl
    try simp only [PT]
    refine wpAnyH_take (i := 4) (oi := { dst := some 139, op := Op.binOp BinOp.eql 36 (Operand.tmp 137) (Operand.tmp 138) 36, type := 4, pos := "law.go:196", after := #[{ on := 2, ground := Ground.data }, { on := 3, ground := Ground.data }, { on := 1, ground := Ground.guard }], guard := some (1, true) }) (v := ?v4_4) rfl (by kernel_rfl) (by kernel_rfl) (by kernel_rfl) (fun _ _ _ h => h) (Or.inl ⟨by rfl, ?h4_4⟩) (by assumption) ?r4_4
    case h4_4 =>
     intro W hSW
     try dsimp only at hSW
     go_simp
     try with_reducible rfl
    try simp only [PT]
    refine wpAnyH_take (i := 5) (oi := { dst := some 140, op := Op.pick (Operand.tmp 136) (Operand.tmp 139) (Operand.const (Value.bool false)), type := 4, pos := "law.go:196", after := #[{ on := 1, ground := Ground.data }, { on := 4, ground := Ground.data }], guard := none }) (v := ?v5_5) rfl (by kernel_rfl) (by kernel_rfl) (by kernel_rfl) (fun _ _ _ h => h) (Or.inl ⟨by rfl, ?h5_5⟩) (by assumption) ?r5_5
    case h5_5 =>
     intro W hSW
     try dsimp only at hSW
     go_simp
     try with_reducible rfl
    try simp only [PT]
    refine wpAnyH_take (i := 6) (oi := { dst := some 141, op := Op.move (Operand.tmp 140), type := 4, pos := "law.go:196", after := #[{ on := 5, ground := Ground.data }, { on := 1, ground := Ground.chain }], guard := none }) (v := ?v6_6) rfl (by kernel_rfl) (by kernel_rfl) (by kernel_rfl) (fun _ _ _ h => h) (Or.inl ⟨by rfl, ?h6_6⟩) (by assumption) ?r6_6
    case h6_6 =>
     intro W hSW
     try dsimp only at hSW
     go_simp
     try with_reducible rfl
    try simp only [PT]
    refine wpAnyH_take (i := 7) (oi := { dst := some 142, op := Op.load 35 (Operand.tmp 14), type := 35, pos := "law.go:196", after := #[{ on := 6, ground := Ground.guard }], guard := some (6, true) }) (v := (.agg #[.slice A4 N4 c4, .int .i64 H4])) rfl (by kernel_rfl) (by kernel_rfl) (by kernel_rfl) (fun _ _ _ h => h) (yieldsIf_load_mid (by rfl) 35 (.tmp 14) rfl b49 0 rfl [.slice A4 N4 c4, .int .i64 H4] _ (fun W hW q v hv => by rw [Nat.zero_add]; exact ((HX4.out.1.below' hW).cell q).trans hv) Tryz.underlying35 rfl sizeSP) (by assumption) ?_
    try simp only [PT]
    refine wpAnyH_take (i := 9) (oi := { dst := some 144, op := Op.load 35 (Operand.tmp 24), type := 35, pos := "law.go:196", after := #[{ on := 6, ground := Ground.guard }], guard := some (6, true) }) (v := (.agg #[.slice A5 N4 c5, .int .i64 H4])) rfl (by kernel_rfl) (by kernel_rfl) (by kernel_rfl) (fun _ _ _ h => h) (yieldsIf_load_mid (by rfl) 35 (.tmp 24) rfl b59 0 rfl [.slice A5 N4 c5, .int .i64 H4] _ (fun W hW q v hv => by rw [Nat.zero_add]; exact ((HX5.out.1.below' hW).cell q).trans hv) Tryz.underlying35 rfl sizeSP) (by assumption) ?_
    try simp only [PT]
    refine wpAnyH_ready (rs := [8]) (by kernel_rfl) (by simp) ?_
    refine AllReadyH.cons (o := { dst := some 143, op := Op.call { callee := Callee.value (Operand.func 14), args := #[Operand.tmp 142], argTypes := #[35] }, type := 39, pos := "law.go:196", after := #[{ on := 7, ground := Ground.data }, { on := 6, ground := Ground.chain }, { on := 6, ground := Ground.guard }], guard := some (6, true) }) rfl (fun K hK => ?_) AllReadyH.nil
    go_simp
    refine (own_any A4 N4 c4 H4 _).mono ?_
    rintro e w61 ⟨rfl, b61⟩
    have hv61 : Below w55.heap.size w55 w61 := hv60.trans (b61.mono hv60.size)
    clear b61
    refine hK.out _ _ (hv61) (fun hHeld => ?_)
    clear hK K
    try simp only [PT]
    refine wpAnyH_ready (rs := [10]) (by kernel_rfl) (by simp) ?_
    refine AllReadyH.cons (o := { dst := some 145, op := Op.call { callee := Callee.value (Operand.func 14), args := #[Operand.tmp 144], argTypes := #[35] }, type := 39, pos := "law.go:196", after := #[{ on := 9, ground := Ground.data }, { on := 8, ground := Ground.chain }, { on := 6, ground := Ground.guard }], guard := some (6, true) }) rfl (fun K hK => ?_) AllReadyH.nil
    go_simp
    refine (own_any A5 N4 c5 H4 _).mono ?_
    rintro e w62 ⟨rfl, b62⟩
    have hv62 : Below w55.heap.size w55 w62 := hv61.trans (b62.mono hv61.size)
    clear b62
    refine hK.out _ _ (hv62) (fun hHeld => ?_)
    clear hK K
    try simp only [PT]
    refine wpAnyH_ready (rs := [11]) (by kernel_rfl) (by simp) ?_
    refine AllReadyH.cons (o := { dst := some 146, op := Op.call { callee := Callee.value (Operand.func 13), args := #[Operand.tmp 143, Operand.tmp 145], argTypes := #[39, 39] }, type := 4, pos := "law.go:196", after := #[{ on := 8, ground := Ground.data }, { on := 10, ground := Ground.data }, { on := 10, ground := Ground.chain }, { on := 6, ground := Ground.guard }], guard := some (6, true) }) rfl (fun K hK => ?_) AllReadyH.nil
    go_simp
    refine (same34_any A4 A5 c4 c5 N4 N4 X X H4 H4 _ HXN.out.1 HXN.out.1 (by have := HXN.out.2; unfold maxLen; omega) w55.heap.size w55.heap.size hv62.size hv62.size (HX4.out.2.below hv62) (HX5.out.2.below hv62) true (decide_eq_true ⟨rfl, rfl⟩)).mono ?_
    rintro e w63 ⟨rfl, b63⟩
    have hv63 : Below w55.heap.size w55 w63 := hv62.trans (b63.mono hv62.size)
    clear b63
    refine hK.out _ _ (hv63) (fun hHeld => ?_)
    clear hK K
    try simp only [PT]
    refine wpAnyH_take (i := 12) (oi := { dst := some 147, op := Op.pick (Operand.tmp 141) (Operand.tmp 146) (Operand.const (Value.bool false)), type := 4, pos := "law.go:196", after := #[{ on := 6, ground := Ground.data }, { on := 11, ground := Ground.data }], guard := none }) (v := ?v12_9) rfl (by kernel_rfl) (by kernel_rfl) (by kernel_rfl) (fun _ _ _ h => h) (Or.inl ⟨by rfl, ?h12_9⟩) (by assumption) ?r12_9
    case h12_9 =>
     intro W hSW
     try dsimp only at hSW
     go_simp
     try with_reducible rfl
    try simp only [PT]
    refine wpAnyH_take (i := 13) (oi := { dst := some 10, op := Op.assign (Operand.tmp 147), type := 4, pos := "law.go:196", after := #[{ on := 12, ground := Ground.data }, { on := 11, ground := Ground.chain }, { on := 0, ground := Ground.phase }, { on := 1, ground := Ground.phase }, { on := 2, ground := Ground.phase }, { on := 3, ground := Ground.phase }, { on := 4, ground := Ground.phase }, { on := 5, ground := Ground.phase }, { on := 6, ground := Ground.phase }, { on := 7, ground := Ground.phase }, { on := 8, ground := Ground.phase }, { on := 9, ground := Ground.phase }, { on := 10, ground := Ground.phase }, { on := 11, ground := Ground.phase }, { on := 12, ground := Ground.phase }], guard := none }) (v := ?v13_10) rfl (by kernel_rfl) (by kernel_rfl) (by kernel_rfl) (fun _ _ _ h => h) (Or.inl ⟨by rfl, ?h13_10⟩) (by assumption) ?r13_10
    case h13_10 =>
     intro W hSW
     try dsimp only at hSW
     go_simp
     try with_reducible rfl
    try simp only [PT]
    refine wpAnyH_done (by kernel_rfl) ?_ _
    have HV9 := Lib.hid hv63
    go_wp2_with fail
    go_ret
    have q11 := HWR.out.trans (HB11.out.mono HWR.out.size)
    have q5 := q11.trans (Hw55.out.mono q11.size)
    exact ⟨rfl, q5.trans (HV9.out.mono q5.size)⟩
end Go.Proofs.YtfllkaeaanahmaaGreat
