/- Charge: Of, the specification's. Conditions: the table, the rows and the blocks are kept. -/
import Derived.Test.YtfllkaeaanahmaaGreatChaE
namespace Go.Proofs.YtfllkaeaanahmaaGreat
set_option linter.unusedVariables false
set_option linter.unusedSimpArgs false
open Go.RowKit
open W (FRow)
set_option maxRecDepth 100000 in
set_option maxHeartbeats 3200000 in
theorem rof_bad1 {w : World} {B m cp : Nat} {A : Option Addr} {D : List S.RR} {rs : List S.Str.Rw} (h : S.RowsIn w B A m D rs) (hB : B ≤ w.heap.size) (hmc : m ≤ cp) (cf : S.Str.Cfg) (Ab : Option Addr) (nb cb : Nat) (bs : List Int) (hl : bs.length = nb) (hnb : nb ≤ maxLen) {B2 : Nat} (hB2 : B2 ≤ w.heap.size) (hr : Rd w B2 1 Ab nb (ivs bs)) (a : Value) (hv : Cha.metaO cf bs = none) :
  Calls Tryz.prog 12 #[S.cfV cf, .slice A m cp, a, .slice Ab nb cb] w (ShRes w none) := by
 obtain ⟨ca, cl, w0, hca, hcl, hw0, hrow, hb0, hs0⟩ := cfg_box cf w
 have hmx := h.mx
 have HME := Lib.hid (fun (W : World) (hW : Below w.heap.size w W) => rmeta_all cf Ab nb cb bs hl hnb w.heap.size W hW.size ((hr.more hB2).below hW))
 have HVA := Lib.hid (fun (W : World) (hW : Below w.heap.size w W) => S.rvalid_any cf ((h.more hB).below hW) hW.size hmc)
 rw [hca] at HME HVA ⊢
 rw [hv] at HME
 have HW := Lib.hid hw0
 have HB := Lib.hid (And.intro hb0 hs0)
 have HR := Lib.hid hrow.1
 have HCL := Lib.hid (And.intro hcl hrow.2)
 clear h hB hw0 hb0 hs0 hcl hca hmc hB2 hr hrow hl hv HVA
 go_enter Tryz.func12, Tryz.ntmps12
 go_upto_region 1 with (rw [HW.out]; refine wpList_allocRow rfl _ rfl _ infoSR ?_; intro w1 r1 b1 z1)
 have hb1 := HB.out.1.trans (b1.mono HB.out.1.size)
 have hcr : w1.rangeAt w.heap.size 0 cl := fun q u hq => by rw [Nat.zero_add, (HR.out.below' b1).cell]; exact hq
 have HB1 := Lib.hid hb1
 have HR1 := Lib.hid (HR.out.below' b1)
 have HZ : Hid (w.heap.size < w0.heap.size) := Lib.hid (by have := HB.out.2; omega)
 obtain ⟨b8, hb8⟩ : ∃ x, w0.heap.size = x := ⟨_, rfl⟩
 rw [hb8] at r1 HZ
 try rw [hb8]
 clear b1 z1 hb1 hb8
 go_upto_region 2 with (first
  | (have tok := r3; refine wpList_storeRow rfl _ (.tmp 10) (.tmp 19) rfl (l' := zShL) r3 rfl rfl sizeSR rfl rfl ?_; intro w4 r4 g4 z4; clear tok)
  | (go_at_call 20; refine (HME.out _ HB1.out).mono ?_; rintro e w2 ⟨rfl, b2⟩; have r2 := r1.below' b2)
  | (refine wpList_allocRow rfl _ rfl _ infoSR ?_; intro w3 r3 b3 z3)
  | (have tok := hcr; refine wpList_load_mid rfl _ (.tmp 4) rfl w.heap.size 0 rfl cl _ hcr Tryz.underlying23 rfl (by rw [HCL.out.2.1]; exact S.sizeCf) ?_; rw [HCL.out.1]; clear tok))
 have hb4 : Below w2.heap.size w2 w4 := b3.grown g4 b3.size (fun i hi => by have := Option.some.inj hi; omega)
 have hbb := HB1.out.trans ((b2.trans (hb4.mono b2.size)).mono HB1.out.size)
 have HBB := Lib.hid hbb
 have r5 := r2.below' hb4
 clear r1 b2 r2 b3 r3 z3 g4 z4 r4 hb4 hbb hcr
 go_wp2_with (refine wpList_storeRow rfl _ (.tmp 8) (.tmp 29) rfl (l' := zShL) r5 rfl rfl sizeSR rfl rfl ?_; intro w6 r6 g6 z6)
 refine bodyPost_ret (resultRowS2 rfl _ _ r6 rfl Tryz.underlying39 sizeSR) rfl ?_
 exact ⟨rfl, HBB.out.grown g6 HBB.out.size (fun i hi => by have := Option.some.inj hi; have := HZ.out; omega)⟩
set_option maxRecDepth 100000 in
set_option maxHeartbeats 3200000 in
theorem rof_bad2 {w : World} {B m cp : Nat} {A : Option Addr} {D : List S.RR} {rs : List S.Str.Rw} (h : S.RowsIn w B A m D rs) (hB : B ≤ w.heap.size) (hmc : m ≤ cp) (cf : S.Str.Cfg) (Ab : Option Addr) (nb cb : Nat) (bs : List Int) (hl : bs.length = nb) (hnb : nb ≤ maxLen) {B2 : Nat} (hB2 : B2 ≤ w.heap.size) (hr : Rd w B2 1 Ab nb (ivs bs)) (a : Value) (s : Cha.Sh) (hs : Cha.metaO cf bs = some s) (hv : S.Str.validB cf rs = false) :
  Calls Tryz.prog 12 #[S.cfV cf, .slice A m cp, a, .slice Ab nb cb] w (ShRes w none) := by
 obtain ⟨ca, cl, w0, hca, hcl, hw0, hrow, hb0, hs0⟩ := cfg_box cf w
 have hmx := h.mx
 have HME := Lib.hid (fun (W : World) (hW : Below w.heap.size w W) => rmeta_all cf Ab nb cb bs hl hnb w.heap.size W hW.size ((hr.more hB2).below hW))
 have HVA := Lib.hid (fun (W : World) (hW : Below w.heap.size w W) => S.rvalid_any cf ((h.more hB).below hW) hW.size hmc)
 rw [hca] at HME HVA ⊢
 rw [hs] at HME
 rw [hv] at HVA
 have HW := Lib.hid hw0
 have HB := Lib.hid (And.intro hb0 hs0)
 have HR := Lib.hid hrow.1
 have HCL := Lib.hid (And.intro hcl hrow.2)
 clear h hB hw0 hb0 hs0 hcl hca hmc hB2 hr hrow hl hv hs
 go_enter Tryz.func12, Tryz.ntmps12
 go_upto_region 1 with (rw [HW.out]; refine wpList_allocRow rfl _ rfl _ infoSR ?_; intro w1 r1 b1 z1)
 have hb1 := HB.out.1.trans (b1.mono HB.out.1.size)
 have hcr : w1.rangeAt w.heap.size 0 cl := fun q u hq => by rw [Nat.zero_add, (HR.out.below' b1).cell]; exact hq
 have HB1 := Lib.hid hb1
 have HR1 := Lib.hid (HR.out.below' b1)
 have HZ : Hid (w.heap.size < w0.heap.size) := Lib.hid (by have := HB.out.2; omega)
 obtain ⟨b8, hb8⟩ : ∃ x, w0.heap.size = x := ⟨_, rfl⟩
 rw [hb8] at r1 HZ
 try rw [hb8]
 clear b1 z1 hb1 hb8
 go_upto_region 2 with (first
  | (have tok := r3; refine wpList_storeRow rfl _ (.tmp 10) (.tmp 19) rfl (l' := [.slice A2 16 c2, .int .i64 s.h]) r3 rfl rfl sizeSR rfl rfl ?_; intro w4 r4 g4 z4; clear tok)
  | (go_at_call 20; refine (HME.out _ HB1.out).mono ?_; rintro e w2 ⟨A2, c2, rfl, _, b2⟩; have r2 := r1.below' b2)
  | (refine wpList_allocRow rfl _ rfl _ infoSR ?_; intro w3 r3 b3 z3)
  | (have tok := hcr; refine wpList_load_mid rfl _ (.tmp 4) rfl w.heap.size 0 rfl cl _ hcr Tryz.underlying23 rfl (by rw [HCL.out.2.1]; exact S.sizeCf) ?_; rw [HCL.out.1]; clear tok))
 have hb4 : Below w2.heap.size w2 w4 := b3.grown g4 b3.size (fun i hi => by have := Option.some.inj hi; omega)
 have hbb := HB1.out.trans ((b2.trans (hb4.mono b2.size)).mono HB1.out.size)
 have HBB := Lib.hid hbb
 have HR5 := Lib.hid (r2.below' hb4)
 have hcr : w4.rangeAt w.heap.size 0 cl := fun q u hq => by rw [Nat.zero_add, ((HR1.out.below' b2).below' hb4).cell]; exact hq
 obtain ⟨b10, hb10⟩ : ∃ x, w2.heap.size = x := ⟨_, rfl⟩
 try rw [hb10]
 clear r1 b2 r2 b3 r3 z3 g4 z4 r4 hb4 hbb hb10
 go_upto_region 3 with (first
  | (go_at_call 41; refine (HVA.out _ HBB.out).mono ?_; rintro e w5 ⟨rfl, b5⟩; have HB5 := Lib.hid (HBB.out.trans (b5.mono HBB.out.size)); have r5 := HR5.out.below' b5; clear b5)
  | (have tok := hcr; refine S.wpList_load_rg rfl _ (.tmp 4) rfl w.heap.size 0 rfl cl _ hcr Tryz.underlying23 rfl (by rw [HCL.out.2.1]; exact S.sizeCf) ?_; rw [HCL.out.1]; clear tok))
 clear hcr
 go_wp2_with (refine wpList_storeRow rfl _ (.tmp 8) (.tmp 29) rfl (l' := zShL) r5 rfl rfl sizeSR rfl rfl ?_; intro w6 r6 g6 z6)
 refine bodyPost_ret (resultRowS2 rfl _ _ r6 rfl Tryz.underlying39 sizeSR) rfl ?_
 exact ⟨rfl, HB5.out.grown g6 HB5.out.size (fun i hi => by have := Option.some.inj hi; have := HZ.out; omega)⟩
set_option maxRecDepth 100000 in
set_option maxHeartbeats 6400000 in
theorem rof_ok {wz w : World} (hz : Below wz.heap.size wz w) {F T : Nat → Prop} {a : Nat} {t : RM} {l : List Chk.Ck} (ht : RAt wz F T a t l) {B m cp : Nat} {A : Option Addr} {D : List S.RR} {rs : List S.Str.Rw} (h : S.RowsIn w B A m D rs) (hB : B ≤ w.heap.size) (hmc : m ≤ cp) (cf : S.Str.Cfg) (Ab : Option Addr) (nb cb : Nat) (bs : List Int) (hl : bs.length = nb) (hnb : nb ≤ maxLen) {B2 : Nat} (hB2 : B2 ≤ w.heap.size) (hr : Rd w B2 1 Ab nb (ivs bs)) (s : Cha.Sh) (hs : Cha.metaO cf bs = some s) (hv : S.Str.validB cf rs = true) :
  Calls Tryz.prog 12 #[S.cfV cf, .slice A m cp, .pointer (some ⟨a, 0, none⟩), .slice Ab nb cb] w (ShVRes w (some (Cha.ofS l rs cf.d s m))) := by
 obtain ⟨ca, cl, w0, hca, hcl, hw0, hrow, hb0, hs0⟩ := cfg_box cf w
 have hmx := h.mx
 have HME := Lib.hid (fun (W : World) (hW : Below w.heap.size w W) => rmeta_all cf Ab nb cb bs hl hnb w.heap.size W hW.size ((hr.more hB2).below hW))
 have HVA := Lib.hid (fun (W : World) (hW : Below w.heap.size w W) => S.rvalid_any cf ((h.more hB).below hW) hW.size hmc)
 rw [hca] at HME HVA ⊢
 have hV := S.Str.validB_iff.1 hv
 have hd := S.Str.Cfg.ok_d hV.ok
 have hln := h.len.2
 have hrl := hV.len
 rw [hs] at HME
 rw [hv] at HVA
 have HRW := Lib.hid (fun (W : World) (hW : Below w.heap.size w W) (k : Nat) (hk : k < m) => rrow_ok (hz.trans (hW.mono hz.size)) ht ((h.more hB).below hW) hW.size hmc cf hv k hk)
 rw [hca] at HRW
 have hrows : (m : Int) = cf.rows := by omega
 obtain ⟨d, hdd⟩ : ∃ d, cf.d = d := ⟨_, rfl⟩
 rw [hdd] at HRW ⊢
 have HSU : Hid (∀ k, Cha.ofS l rs d s (k + 1) = Cha.addS (Cha.ofS l rs d s k) (Cha.rowAt l rs d k)) := Lib.hid fun _ => rfl
 have HS0 : Hid (Cha.ofS l rs d s 0 = s) := Lib.hid rfl
 obtain ⟨of, hof⟩ : ∃ f : Nat → Cha.Sh, Cha.ofS l rs d s = f := ⟨_, rfl⟩
 obtain ⟨rf, hrf⟩ : ∃ f : Nat → Cha.Sh, Cha.rowAt l rs d = f := ⟨_, rfl⟩
 rw [hof] at HSU HS0 ⊢
 rw [hrf] at HSU HRW
 have hm64 : m ≤ 4096 ∧ 1 ≤ m := by omega
 have HW := Lib.hid hw0
 have HB := Lib.hid (And.intro hb0 hs0)
 have HR := Lib.hid hrow.1
 have HCL := Lib.hid (And.intro hcl hrow.2)
 have HC2 : Hid (cl[2]? = some (.int .i64 (m : Int))) := Lib.hid (by rw [hrows]; exact hrow.2.2.2)
 clear h hB hw0 hb0 hs0 hcl hca hmc hB2 hr hrow hl hv hs hz ht hd hV hrl hln hrows hdd hof hrf
 go_enter Tryz.func12, Tryz.ntmps12
 go_upto_region 1 with (rw [HW.out]; refine wpList_allocRow rfl _ rfl _ infoSR ?_; intro w1 r1 b1 z1)
 have hb1 := HB.out.1.trans (b1.mono HB.out.1.size)
 have hcr : w1.rangeAt w.heap.size 0 cl := fun q u hq => by rw [Nat.zero_add, (HR.out.below' b1).cell]; exact hq
 have HB1 := Lib.hid hb1
 have HR1 := Lib.hid (HR.out.below' b1)
 have HZ : Hid (w.heap.size < w0.heap.size) := Lib.hid (by have := HB.out.2; omega)
 obtain ⟨b8, hb8⟩ : ∃ x, w0.heap.size = x := ⟨_, rfl⟩
 rw [hb8] at r1 HZ
 try rw [hb8]
 clear b1 z1 hb1 hb8
 go_upto_region 2 with (first
  | (have tok := r3; refine wpList_storeRow rfl _ (.tmp 10) (.tmp 19) rfl (l' := [.slice A2 16 c2, .int .i64 s.h]) r3 rfl rfl sizeSR rfl rfl ?_; intro w4 r4 g4 z4; clear tok)
  | (go_at_call 20; refine (HME.out _ HB1.out).mono ?_; rintro e w2 ⟨A2, c2, rfl, rd2, b2⟩; have r2 := r1.below' b2)
  | (refine wpList_allocRow rfl _ rfl _ infoSR ?_; intro w3 r3 b3 z3)
  | (have tok := hcr; refine wpList_load_mid rfl _ (.tmp 4) rfl w.heap.size 0 rfl cl _ hcr Tryz.underlying23 rfl (by rw [HCL.out.2.1]; exact S.sizeCf) ?_; rw [HCL.out.1]; clear tok))
 have hb4 : Below w2.heap.size w2 w4 := b3.grown g4 b3.size (fun i hi => by have := Option.some.inj hi; omega)
 have hb2 := HB1.out.trans (b2.mono HB1.out.size)
 have hbb := hb2.trans (hb4.mono hb2.size)
 have HBB := Lib.hid hbb
 have HR5 := Lib.hid (r2.below' hb4)
 have HCR4 := Lib.hid ((HR1.out.below' b2).below' hb4)
 have HRD := Lib.hid (rd2.below hb4)
 have hcr : w4.rangeAt w.heap.size 0 cl := fun q u hq => by rw [Nat.zero_add, HCR4.out.cell]; exact hq
 obtain ⟨b10, hb10⟩ : ∃ x, w2.heap.size = x := ⟨_, rfl⟩
 rw [hb10] at r4 HRD
 have HR4 := Lib.hid r4
 have H10 : Hid (w.heap.size < b8 ∧ b8 < b10) := Lib.hid ⟨HZ.out, by have := r2.lt; omega⟩
 try rw [hb10]
 clear r1 b2 r2 b3 r3 z3 g4 z4 r4 hb4 hbb hb10 rd2 hb2
 go_upto_region 4 with (first
  | (go_at_call 41; refine (HVA.out _ HBB.out).mono ?_; rintro e w5 ⟨rfl, b5⟩; have HB5 := Lib.hid b5; clear b5)
  | (have tok := hcr; refine S.wpList_load_rg rfl _ (.tmp 4) rfl w.heap.size 0 rfl cl _ hcr Tryz.underlying23 rfl (by rw [HCL.out.2.1]; exact S.sizeCf) ?_; rw [HCL.out.1]; clear tok))
 have HR8 := Lib.hid (HR5.out.below' HB5.out)
 have HCR5 := Lib.hid (HCR4.out.below' HB5.out)
 have HR10 := Lib.hid (HR4.out.below' HB5.out)
 have HRD5 : Hid (Rd w5 w5.heap.size 1 A2 16 (ivs (W.rowL 16 (of 0).t)) ∧ ∀ p, A2 = some p → p.block ≠ b10) := Lib.hid ⟨by rw [HS0.out]; exact (HRD.out.below (HB5.out.mono (by have := HR4.out.lt; omega))).more (by have := HR10.out.lt; omega), fun p e => by
  obtain ⟨b, o, e2, hb, _⟩ := HRD.out.2 (by omega)
  rw [e2] at e
  have := Option.some.inj e
  subst this
  dsimp only; omega⟩
 have HBW5 := Lib.hid (HBB.out.trans (HB5.out.mono HBB.out.size))
 clear hcr
 go_upto_region 5 with fail
 go_loopw [12] (fun u12 wx => ∃ (wr : World) (k : Nat) (A3 : Option Addr) (c3 : Nat), wr = wx ∧ k ≤ m ∧ u12 = .int .i64 (k : Int) ∧ Hid (IsRow wr b10 39 [.slice A3 16 c3, .int .i64 (of k).h] ∧ Rd wr wr.heap.size 1 A3 16 (ivs (W.rowL 16 (of k).t)) ∧ (∀ p, A3 = some p → p.block ≠ b10) ∧ (0 < k → ∀ p, A3 = some p → p.block ≠ b8)) ∧ Hid (Keep (fun x => x = b10) w5 wr)) (fun u12 _ => m - (intOf u12).toNat)
 case atStart => exact ⟨_, 0, A2, c2, rfl, Nat.zero_le _, rfl, Lib.hid ⟨by rw [HS0.out]; exact HR10.out, HRD5.out.1, HRD5.out.2, fun h => absurd h (Nat.not_lt_zero _)⟩, Lib.hid (Keep.refl _ _)⟩
 case round =>
  obtain ⟨wr, k, A3, c3, rfl, hk, rfl, HS, HKR⟩ := hrel
  have HCR := Lib.hid (HCR5.out.keep (HKR.out.block _ HCR5.out.lt (fun e => by have := H10.out; omega)))
  have k2 : wr.cell? ⟨w.heap.size, 2, none⟩ = some (.int .i64 (m : Int)) := (HCR.out.cell 2).trans HC2.out
  have HBW : Hid (Below w.heap.size w wr) := Lib.hid (Below.then_keep HBW5.out HKR.out (fun x e => by have := H10.out; omega) (Nat.le_refl _))
  by_cases hlt : k < m
  ·
   have hcr : wr.rangeAt w.heap.size 0 cl := fun q u hq => by rw [Nat.zero_add, HCR.out.cell]; exact hq
   have HRK := Lib.hid (HRW.out wr HBW.out k hlt)
   obtain ⟨sk, hsk⟩ : ∃ y, rf k = y := ⟨_, rfl⟩
   rw [hsk] at HRK
   have HSK : Hid (of (k + 1) = Cha.addS (of k) sk) := Lib.hid (by rw [HSU.out, hsk])
   unfold ShRes shL at HRK
   dsimp only at HRK
   obtain ⟨ok, hok⟩ : ∃ y, of k = y := ⟨_, rfl⟩
   rw [hok] at HSK HS
   have i0 : (0 : Int) ≤ (k : Int) := by omega
   have i1 : (k : Int) < (m : Int) := by omega
   clear hsk hok
   go_upto_region 8 with (first
    | (have tok := r8; refine wpList_storeRow rfl _ (.tmp 13) (.tmp 42) rfl (l' := [.slice (some ⟨g7, 0, none⟩) 16 16, .int .i64 sk.h]) r8 rfl rfl sizeSR rfl rfl ?_; intro w9 r9 g9 z9; clear tok)
    | (go_at_call 18; refine HRK.out.mono ?_; rintro e w7 ⟨g7, rfl, F7, hg7, b7⟩)
    | (refine wpList_allocRow rfl _ rfl _ infoSR ?_; intro w8 r8 b8' z8)
    | (have tok := hcr; refine wpList_load_mid rfl _ (.tmp 4) rfl w.heap.size 0 rfl cl _ hcr Tryz.underlying23 rfl (by rw [HCL.out.2.1]; exact S.sizeCf) ?_; rw [HCL.out.1]; clear tok))
   have hb9 : Below w7.heap.size w7 w9 := b8'.grown g9 b8'.size (fun i hi => by have := Option.some.inj hi; omega)
   have hb79 := b7.trans (hb9.mono b7.size)
   have HB9 := Lib.hid hb79
   have HA9 := Lib.hid ((Rd.below HS.out.2.1 hb79).more hb79.size)
   have HF9 := Lib.hid (F7.below hb9).rdL
   have r10 := HS.out.1.below' hb79
   have HR10' := Lib.hid r10
   obtain ⟨b13, hb13⟩ : ∃ x, w7.heap.size = x := ⟨_, rfl⟩
   rw [hb13] at r9
   try rw [hb13]
   have hr10 : w9.rangeAt b10 0 [.slice A3 16 c3, .int .i64 ok.h] := fun q u hq => by rw [Nat.zero_add, r10.cell]; exact hq
   have hr13 : w9.rangeAt b13 0 [.slice (some ⟨g7, 0, none⟩) 16 16, .int .i64 sk.h] := fun q u hq => by rw [Nat.zero_add, r9.cell]; exact hq
   have HAD := Lib.hid (radd34_any A3 (some ⟨g7, 0, none⟩) c3 16 ok sk w9.heap.size w9 (Nat.le_refl _) HA9.out HF9.out)
   unfold ShNew shL at HAD
   clear r8 b8' z8 g9 z9 hb9 hb79 r9 hb13 F7 hg7 b7 hcr k2
   try simp only [PT]
   go_wp2_with (first
    | (have tok := r11; refine wpList_storeRow rfl _ (.tmp 10) (.tmp 46) rfl (l' := [.slice (some ⟨g9, 0, none⟩) 16 16, .int .i64 (Cha.addS ok sk).h]) r11 rfl rfl sizeSR rfl rfl ?_; intro w12 r12 g12 z12; clear tok)
    | (go_at_call 24; refine HAD.out.mono ?_; rintro e w11 ⟨g9, rfl, F11, hg11, b11⟩; have r11 := r10.below' b11)
    | (have tok := hr10; refine wpList_load_mid rfl _ (.tmp 10) rfl b10 0 rfl [.slice A3 16 c3, .int .i64 ok.h] _ hr10 Tryz.underlying39 rfl sizeSR ?_; clear tok)
    | (have tok := hr13; refine wpList_load_mid rfl _ (.tmp 13) rfl b13 0 rfl [.slice (some ⟨g7, 0, none⟩) 16 16, .int .i64 sk.h] _ hr13 Tryz.underlying39 rfl sizeSR ?_; clear tok))
   go_roundw
   case rel =>
    have hlt9 := HR10'.out.lt
    have hltF := F11.lt
    refine ⟨_, k + 1, some ⟨g9, 0, none⟩, 16, rfl, by omega, by go_num, Lib.hid ⟨by rw [HSK.out]; exact r12, ?_, fun p e => by have := Option.some.inj e; subst this; dsimp only; omega, fun _ p e => by have := Option.some.inj e; subst this; have := H10.out; dsimp only; omega⟩, Lib.hid ((HKR.out.then_below HB9.out).trans ((Keep.of_below b11).grown g12 (fun i e => .inl (Option.some.inj e).symm)))⟩
    rw [HSK.out]
    exact (F11.keep (g12.block g9 hltF (fun e => by have := Option.some.inj e; omega))).rdL
   case measure => simp [intOf]; omega
  ·
   obtain rfl : k = m := by omega
   have r8 := HR8.out.keep (HKR.out.block _ HR8.out.lt (fun e => by have := H10.out; omega))
   have hr10 : wr.rangeAt b10 0 [.slice A3 16 c3, .int .i64 (of k).h] := fun q u hq => by rw [Nat.zero_add, HS.out.1.cell]; exact hq
   obtain ⟨ok, hok⟩ : ∃ y, of k = y := ⟨_, rfl⟩
   rw [hok] at HS hr10
   have HOK := Lib.hid hok
   clear hok
   go_wp2_with (first
    | (have tok := r8; refine wpList_storeRow rfl _ (.tmp 8) (.tmp 47) rfl (l' := [.slice A3 16 c3, .int .i64 ok.h]) r8 rfl rfl sizeSR rfl rfl ?_; intro w12 r12 g12 z12; clear tok)
    | (have tok := hr10; refine wpList_load_mid rfl _ (.tmp 10) rfl b10 0 rfl [.slice A3 16 c3, .int .i64 ok.h] _ hr10 Tryz.underlying39 rfl sizeSR ?_; clear tok))
   refine bodyPost_ret (resultRowS2 rfl _ _ r12 rfl Tryz.underlying39 sizeSR) rfl ?_
   rw [HOK.out]
   have h10 := H10.out
   have hd : ∀ q, A3 = some q → q.block ≠ b8 := HS.out.2.2.2 (by omega)
   refine ⟨A3, c3, rfl, ?_, HBW.out.grown g12 HBW.out.size (fun i hi => by have := Option.some.inj hi; omega)⟩
   exact (HS.out.2.1.grown_far g12 (Nat.le_refl _) (fun q e h => hd q e (Option.some.inj h))).more g12.size
end Go.Proofs.YtfllkaeaanahmaaGreat
