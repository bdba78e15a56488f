/- Joined texts: ChaA, ChaB, ChaD. Conditions: as each part says. -/
import Derived.Test.YtfllkaeaanahmaaGreatChaY
import Derived.Test.YtfllkaeaanahmaaGreatChaU
import Derived.Test.YtfllkaeaanahmaaGreatStrNW
import Derived.WalkMore
namespace Go.Proofs.YtfllkaeaanahmaaGreat
set_option linter.unusedVariables false
set_option linter.unusedSimpArgs false
section
open Go.RowKit
open W (FRow)
theorem prow_any {wz w : World} (hz : Below wz.heap.size wz w) {F T : Nat → Prop} {a : Nat} {t : TM} {l : List Chk.Ck} (ht : TAt wz F T a t l) {B m cp : Nat} {A : Option Addr} {D : List S.RR} {rs : List S.Str.Rw} (h : S.RowsIn w B A m D rs) (hB : B ≤ w.heap.size) (hmc : m ≤ cp) (cf : S.Str.Cfg) (k : Int) :
  Calls Tryz.prog 17 #[S.cfV cf, .slice A m cp, .pointer (some ⟨a, 0, none⟩), .int .i64 k] w (ShRes w (Cha.rowF l cf rs k)) := by
 unfold Cha.rowF
 by_cases hv : S.Str.validB cf rs = true ∧ 0 ≤ k ∧ k < rs.length
 ·
  rw [if_pos hv]
  obtain ⟨h1, h2, h3⟩ := hv
  have := prow_ok hz ht h hB hmc cf h1 k.toNat (by have := h.len.2; omega)
  rwa [Int.toNat_of_nonneg h2] at this
 ·
  rw [if_neg hv]
  exact prow_bad h hB hmc cf _ k hv
theorem rrow_any {wz w : World} (hz : Below wz.heap.size wz w) {F T : Nat → Prop} {a : Nat} {t : RM} {l : List Chk.Ck} (ht : RAt wz F T a t l) {B m cp : Nat} {A : Option Addr} {D : List S.RR} {rs : List S.Str.Rw} (h : S.RowsIn w B A m D rs) (hB : B ≤ w.heap.size) (hmc : m ≤ cp) (cf : S.Str.Cfg) (k : Int) :
  Calls Tryz.prog 18 #[S.cfV cf, .slice A m cp, .pointer (some ⟨a, 0, none⟩), .int .i64 k] w (ShRes w (Cha.rowF l cf rs k)) := by
 unfold Cha.rowF
 by_cases hv : S.Str.validB cf rs = true ∧ 0 ≤ k ∧ k < rs.length
 ·
  rw [if_pos hv]
  obtain ⟨h1, h2, h3⟩ := hv
  have := rrow_ok hz ht h hB hmc cf h1 k.toNat (by have := h.len.2; omega)
  rwa [Int.toNat_of_nonneg h2] at this
 ·
  rw [if_neg hv]
  exact rrow_bad h hB hmc cf _ k hv
namespace Cha
def upto (f : Nat → Int) (k : Nat) : Nat → Int := fun j => if j < k then f j else 0
end Cha
end
section
open Go.RowKit
open W (FRow)
namespace Cha
open Classical in
noncomputable def metaO (c : S.Str.Cfg) (bs : List Int) : Option Sh := if c.ok = true ∧ blocksOk c bs then some (metaS c bs) else none
theorem metaO_cfg {c : S.Str.Cfg} {bs : List Int} (h : c.ok = false) : metaO c bs = none := by unfold metaO; rw [if_neg (by rw [h]; simp)]
theorem metaO_len {c : S.Str.Cfg} {bs : List Int} (h : bs.length ≠ 16) : metaO c bs = none := by unfold metaO; rw [if_neg (fun e => h e.2.1)]
theorem allz_of {bs : List Int} (h : ∀ j, j < bs.length → bs.getD j 0 = 0) : ∀ x ∈ bs, x = 0 := fun x hx => by
 obtain ⟨i, hi, rfl⟩ := List.getElem_of_mem hx
 have := h i hi
 rwa [List.getD, List.getElem?_eq_getElem hi] at this
theorem metaO_zero {c : S.Str.Cfg} {bs : List Int} (h : c.ok = true) (hl : bs.length = 16) (hz : ∀ x ∈ bs, x = 0) : metaO c bs = some ⟨fun _ => 0, metaT c⟩ := by
 unfold metaO; rw [if_pos ⟨h, hl, .inl hz⟩]; unfold metaS; rw [if_pos hz]
theorem metaO_good {c : S.Str.Cfg} {bs : List Int} (h : c.ok = true) (hl : bs.length = 16) (hz : ¬ ∀ x ∈ bs, x = 0) (hg : good (metaT c) bs) : metaO c bs = some ⟨fun j => (wsh (metaT c) bs).getD j 0, 0⟩ := by
 unfold metaO; rw [if_pos ⟨h, hl, .inr hg⟩]; unfold metaS; rw [if_neg hz]
theorem metaO_bad {c : S.Str.Cfg} {bs : List Int} (hz : ¬ ∀ x ∈ bs, x = 0) (hg : ¬ good (metaT c) bs) : metaO c bs = none := by
 unfold metaO; rw [if_neg (fun e => e.2.2.elim hz hg)]
theorem rowL_getD {xs : List Int} {n : Nat} (h : xs.length = n) : W.rowL n (fun j => xs.getD j 0) = xs := by
 unfold W.rowL
 refine List.ext_getElem (by simp [h]) fun i h1 h2 => ?_
 rw [List.getElem_map, List.getElem_range, List.getD, List.getElem?_eq_getElem h2]; rfl
end Cha
def ShVRes (w : World) (o : Option Cha.Sh) (e : Ending) (w' : World) : Prop := match o with
 | some s => ∃ A c, e = .returned (.tuple #[.agg #[.slice A 16 c, .int .i64 s.h], .int .i64 0]) ∧ Rd w' w'.heap.size 1 A 16 (ivs (W.rowL 16 s.t)) ∧ Below w.heap.size w w'
 | none => e = .returned (.tuple #[.agg zShL.toArray, .int .i64 1]) ∧ Below w.heap.size w w'
theorem ShRes.v {w w' : World} {o : Option Cha.Sh} {e : Ending} (h : ShRes w o e w') : ShVRes w o e w' := by
 cases o with
 | none => exact h
 | some s =>
  obtain ⟨g, he, hf, _, hb⟩ := h
  exact ⟨_, _, he, hf.rdL, hb⟩
theorem new_er (cf : S.Str.Cfg) (er : Int) (he : (if cf.ok = true then (0 : Int) else 1) = er) (w : World) : Calls Tryz.prog 50 #[S.cfV cf] w fun e w' => ∃ A n c, e = .returned (.tuple #[.slice A n c, .int .i64 er]) ∧ Below w.heap.size w w' := by
 refine (S.new_any cf w).mono fun e w' h => ?_
 unfold S.NewIs at h
 by_cases hc : cf.ok = true
 ·
  rw [if_pos hc] at h he
  subst he
  obtain ⟨A, c, _, h1, _, h2⟩ := h
  exact ⟨_, _, _, h1, h2⟩
 ·
  rw [if_neg hc] at h he
  subst he
  exact ⟨_, _, _, h.1, h.2⟩
set_option maxRecDepth 100000 in
set_option maxHeartbeats 3200000 in
theorem pmeta_bad (cf : S.Str.Cfg) (Ab : Option Addr) (n cb : Nat) (hn : n ≤ maxLen) (w : World) (hv : cf.ok = false ∨ n ≠ 16) :
  Calls Tryz.prog 19 #[S.cfV cf, .slice Ab n cb] w (ShVRes w none) := by
 unfold maxLen at hn
 obtain ⟨ca, cl, w0, hca, hcl, hw0, hrow, hb0, hs0⟩ := cfg_box cf w
 obtain ⟨er, her⟩ : ∃ er : Int, (if cf.ok = true then (0 : Int) else 1) = er := ⟨_, rfl⟩
 have HNW := Lib.hid (fun W => new_er cf er her W)
 rw [hca] at HNW ⊢
 have HW := Lib.hid hw0
 have HB := Lib.hid (And.intro hb0 hs0)
 have HR := Lib.hid hrow.1
 have HCL := Lib.hid (And.intro hcl hrow.2.1)
 have hc : er = 1 ∨ (er = 0 ∧ ((n : Int) != 16) = true) := by
  cases h : cf.ok with
  | false => rw [h] at her; exact .inl (by simpa using her.symm)
  | true =>
   rw [h] at her hv
   exact .inr ⟨by simpa using her.symm, by rw [bne_iff_ne]; have := hv.resolve_left (by simp); omega⟩
 clear hw0 hb0 hs0 hcl hca hrow hv her
 rcases hc with rfl | ⟨rfl, e1⟩
 all_goals
  go_enter Tryz.func19, Tryz.ntmps19
  go_upto_region 1 with (rw [HW.out]; refine wpList_allocRow rfl _ rfl _ infoSP ?_; intro w1 r1 b1 z1)
  have hb1 := HB.out.1.trans (b1.mono HB.out.1.size)
  have hcr : w1.rangeAt w.heap.size 0 cl := fun q u hq => by rw [Nat.zero_add, (HR.out.below' b1).cell]; exact hq
  have HB1 := Lib.hid hb1
  have HZ : Hid (w.heap.size < w0.heap.size) := Lib.hid (by have := HB.out.2; omega)
  obtain ⟨b8, hb8⟩ : ∃ x, w0.heap.size = x := ⟨_, rfl⟩
  rw [hb8] at r1 HZ
  try rw [hb8]
  clear b1 z1 hb1 hb8
  go_step3
  go_upto_region 2 with (first
   | (go_at_call 50; refine (HNW.out _).mono ?_; rintro e w2 ⟨A2, n2, c2, rfl, b2⟩; have HB2 := Lib.hid b2; have r2 := r1.below' b2; clear r1 b2)
   | (have tok := hcr; refine wpList_load_mid rfl _ (.tmp 2) rfl w.heap.size 0 rfl cl _ hcr Tryz.underlying23 rfl (by rw [HCL.out.2]; exact S.sizeCf) ?_; rw [HCL.out.1]; clear tok))
  clear hcr
  go_wp2_with (have tok := r2; refine wpList_storeRow rfl _ (.tmp 4) (.tmp 26) rfl (l' := zShL) r2 rfl rfl sizeSP rfl rfl ?_; intro w3 r3 g3 z3; clear tok)
  try rw [Exit.noGoto_ret]
  refine bodyPost_ret (resultRowS2 rfl _ _ r3 rfl Tryz.underlying35 sizeSP) rfl ?_
  have hb := HB1.out.trans (HB2.out.mono HB1.out.size)
  exact ⟨rfl, hb.grown g3 hb.size (fun i hi => by have := Option.some.inj hi; have := HZ.out; omega)⟩
set_option maxRecDepth 100000 in
set_option maxHeartbeats 6400000 in
theorem pmeta_ok (cf : S.Str.Cfg) (hok : cf.ok = true) (Ab : Option Addr) (cb : Nat) (bs : List Int) (hl : bs.length = 16) (B : Nat) (w : World) (hB : B ≤ w.heap.size) (hr : Rd w B 1 Ab 16 (ivs bs)) :
  Calls Tryz.prog 19 #[S.cfV cf, .slice Ab 16 cb] w (ShVRes w (Cha.metaO cf bs)) := by
 obtain ⟨ca, cl, w0, hca, hcl, hw0, hrow, hb0, hs0⟩ := cfg_box cf w
 have HNW := Lib.hid (fun W => new_er cf 0 (if_pos hok) W)
 have HMT := Lib.hid (fun W => pmeta_any cf hok W)
 rw [hca] at HNW HMT ⊢
 have HM0 := Lib.hid (fun hz => Cha.metaO_zero hok hl hz)
 have HMG := Lib.hid (fun hz hg => Cha.metaO_good (bs := bs) hok hl hz hg)
 have HMB := Lib.hid (fun hz hg => Cha.metaO_bad (c := cf) (bs := bs) hz hg)
 obtain ⟨mo, hmo⟩ : ∃ y, Cha.metaO cf bs = y := ⟨_, rfl⟩
 rw [hmo] at HM0 HMG HMB ⊢
 obtain ⟨T, hT⟩ : ∃ T, Cha.metaT cf = T := ⟨_, rfl⟩
 rw [hT] at HMT HM0 HMG HMB
 have HWG := Lib.hid (fun (W : World) (hW : Below w.heap.size w W) => weighted_any T Ab 16 cb bs hl (by omega) w.heap.size W ((hr.more hB).below hW) hW.size)
 have HWL := Lib.hid (fun (hg : Cha.good T bs) => (Cha.wsh_len hg).trans hl)
 obtain ⟨sh, hsh⟩ : ∃ y, Cha.wsh T bs = y := ⟨_, rfl⟩
 rw [hsh] at HWG HWL HMG
 have HRD := Lib.hid (hr.more hB)
 have HL := Lib.hid hl
 have HW := Lib.hid hw0
 have HB := Lib.hid (And.intro hb0 hs0)
 have HR := Lib.hid hrow.1
 have HCL := Lib.hid (And.intro hcl hrow.2.1)
 clear hw0 hb0 hs0 hcl hca hrow hok hl hB hr hmo hT hsh
 go_enter Tryz.func19, Tryz.ntmps19
 go_upto_region 1 with (rw [HW.out]; refine wpList_allocRow rfl _ rfl _ infoSP ?_; intro w1 r1 b1 z1)
 have hb1 := HB.out.1.trans (b1.mono HB.out.1.size)
 have hcr : w1.rangeAt w.heap.size 0 cl := fun q u hq => by rw [Nat.zero_add, (HR.out.below' b1).cell]; exact hq
 have HB1 := Lib.hid hb1
 have HR1 := Lib.hid (HR.out.below' b1)
 have HZ : Hid (w.heap.size < w0.heap.size) := Lib.hid (by have := HB.out.2; omega)
 obtain ⟨b4, hb4⟩ : ∃ x, w0.heap.size = x := ⟨_, rfl⟩
 rw [hb4] at r1 HZ
 try rw [hb4]
 clear b1 z1 hb1 hb4
 go_step3
 go_upto_region 2 with (first
  | (go_at_call 50; refine (HNW.out _).mono ?_; rintro e w2 ⟨A2, n2, c2, rfl, b2⟩; have HB2 := Lib.hid (HB1.out.trans (b2.mono HB1.out.size)); have HR2 := Lib.hid (HR1.out.below' b2); have HRR := Lib.hid (r1.below' b2); clear r1 b2)
  | (have tok := hcr; refine wpList_load_mid rfl _ (.tmp 2) rfl w.heap.size 0 rfl cl _ hcr Tryz.underlying23 rfl (by rw [HCL.out.2]; exact S.sizeCf) ?_; rw [HCL.out.1]; clear tok))
 clear hcr
 have HPS := Lib.hid (psum_any none 0 0 [] 0 w2 (Nat.zero_le _) rfl (by omega) (Rd.nil_ _ _ _ _) (fun x hx => (List.not_mem_nil hx).elim))
 go_upto_region 5 with (first
  | (have tok := r5; refine wpList_storeRow rfl _ (.tmp 8) (.tmp 27) rfl (l' := [.slice (some ⟨g8, 0, none⟩) 16 16, .int .i64 0]) r5 rfl rfl sizeSP rfl rfl ?_; intro w6 r6 g6 z6; clear tok)
  | (go_at_call 40; refine HPS.out.mono ?_; rintro e w4 ⟨g8, rfl, F4, hg8, b4'⟩)
  | (refine wpList_allocRow rfl _ rfl _ infoSP ?_; intro w5 r5 b5 z5))
 have hb6 : Below w4.heap.size w4 w6 := b5.grown g6 b5.size (fun i hi => by have := Option.some.inj hi; omega)
 have hb26 := b4'.trans (hb6.mono b4'.size)
 have HB6 := Lib.hid (HB2.out.trans (hb26.mono HB2.out.size))
 have HCR6 := Lib.hid (HR2.out.below' hb26)
 have HR6 := Lib.hid (HRR.out.below' hb26)
 obtain ⟨bx, hbx⟩ : ∃ y, w4.heap.size = y := ⟨_, rfl⟩
 rw [hbx] at r6
 have HBX : Hid (BoxS 35 w6 bx g8 Cha.zero) := Lib.hid ⟨r6, F4.below hb6, by have := F4.lt; omega⟩
 have HXX : Hid (w.heap.size < b4 ∧ b4 < g8 ∧ g8 < bx) := Lib.hid ⟨HZ.out, by have := HRR.out.lt; omega, by have := F4.lt; omega⟩
 have HRD6 := Lib.hid (HRD.out.below HB6.out)
 try rw [hbx]
 clear r5 b5 z5 g6 z6 hb6 hb26 F4 hg8 b4' r6 hbx HPS
 try simp only [PT]
 go_wp2_with fail
 go_step3
 go_upto_region 7 with fail
 go_loop [9, 30] (fun u9 u30 => ∃ k : Nat, k ≤ 16 ∧ u9 = .bool false ∧ u30 = .int .i64 (k : Int) ∧ Hid (∀ j, j < k → bs.getD j 0 = 0)) (fun _ u30 => 16 - (intOf u30).toNat)
 case atStart => exact ⟨0, Nat.zero_le _, rfl, rfl, Lib.hid fun j hj => absurd hj (Nat.not_lt_zero j)⟩
 case round =>
  obtain ⟨k, hk, rfl, rfl, HZ0⟩ := hrel
  by_cases hlt : k < 16
  ·
   obtain ⟨b, off, rfl, _, hc⟩ := HRD6.out.int HL.out (by omega)
   have hck := hc k hlt
   have i0 : (0 : Int) ≤ (k : Int) := by omega
   have i1 : (k : Int) < 16 := by omega
   obtain ⟨x, hx⟩ : ∃ x, bs.getD k 0 = x := ⟨_, rfl⟩
   rw [hx] at hck
   have HX := Lib.hid hx
   clear hc hx
   by_cases hx0 : x = 0
   ·
    subst hx0
    go_wp2_with fail
    go_round
    case rel => exact ⟨k + 1, by omega, rfl, by go_num, Lib.hid fun j hj => by
     by_cases e : j = k
     ·
      subst e; exact HX.out
     ·
      exact HZ0.out j (by omega)⟩
    case measure => simp [intOf]; omega
   ·
    have hne : (x != 0) = true := by rw [bne_iff_ne]; exact hx0
    have HNZ : Hid (¬ ∀ y ∈ bs, y = 0) := Lib.hid fun h => by
     have h1 := h (bs.getD k 0) (Cha.getD_mem (by rw [HL.out]; exact hlt))
     exact hx0 (by rw [← HX.out]; exact h1)
    have hcr : w6.rangeAt w.heap.size 0 cl := fun q u hq => by rw [Nat.zero_add, HCR6.out.cell]; exact hq
    have hbs := HBX.out
    clear hx0
    by_cases hg : Cha.good T bs
    ·
     have HG := Lib.hid hg
     have hN := HWL.out hg
     rw [hN] at HWG
     have HSN := Lib.hid hN
     clear hg hN
     go_upto_region 18 with (first
      | (go_at_call 43; refine (HMT.out _).mono ?_; rintro e w7 ⟨rfl, b7⟩; have HB7 := Lib.hid b7; clear b7)
      | (go_at_call 51; refine (HWG.out _ (HB6.out.trans (HB7.out.mono HB6.out.size))).mono ?_; rintro e w8 ⟨A8, c8, er, rfl, r8, f8, her, b8⟩; have HR8 := Lib.hid (And.intro r8 f8); have HB8 := Lib.hid (HB7.out.trans (b8.mono HB7.out.size)); obtain rfl := her.2 HG.out; clear r8 b8 f8 her)
      | (have tok := hcr; refine wpList_load_mid rfl _ (.tmp 2) rfl w.heap.size 0 rfl cl _ hcr Tryz.underlying23 rfl (by rw [HCL.out.2]; exact S.sizeCf) ?_; rw [HCL.out.1]; clear tok))
     have hb8 := hbs.below HB8.out
     have q0 := hb8.cells.1
     have q1 := hb8.row.frozen 0
     have HS8 := Lib.hid (hb8.row.set 0 (.slice A8 16 c8))
     have HL8 := Lib.hid hb8.row.lt
     clear hcr hbs hb8
     try simp only [PT]
     go_upto_region 19 with fail
     obtain ⟨w9, hw9⟩ : ∃ y, w8.setCell ⟨bx, 0, none⟩ (.slice A8 16 c8) = y := ⟨_, rfl⟩
     have hg9 : w8.grownBy w9 (some bx) := by rw [← hw9]; exact grown_set_ w8 bx 0 _
     rw [hw9] at HS8 ⊢
     have hx := HXX.out
     have HB9 : Hid (Below w.heap.size w w9) := Lib.hid ((HB6.out.trans (HB8.out.mono HB6.out.size)).grown hg9 (HB6.out.trans (HB8.out.mono HB6.out.size)).size (fun i hi => by have := Option.some.inj hi; omega))
     have hrng : w9.rangeAt bx 0 [.slice A8 16 c8, .int .i64 0] := fun q u hq => by rw [Nat.zero_add, HS8.out.cell]; exact hq
     have r9 : IsRow w9 b4 35 zShL := (HR6.out.below' HB8.out).grown hg9 (fun e => by have := Option.some.inj e; omega)
     have HG9 := Lib.hid hg9
     have HL7 : Hid (bx < w7.heap.size) := Lib.hid (by have := HBX.out.lt; have := HB7.out.size; omega)
     clear hw9 hx q0 q1 hg9
     go_wp2_with (first
      | (refine wpList_load_mid rfl _ (.tmp 8) rfl bx 0 rfl [.slice A8 16 c8, .int .i64 0] _ hrng Tryz.underlying35 rfl sizeSP ?_)
      | (refine wpList_storeRow rfl _ (.tmp 4) (.tmp 55) rfl (l' := [.slice A8 16 c8, .int .i64 0]) r9 rfl rfl sizeSP rfl rfl ?_; intro w10 r10 g10 z10))
     try rw [Exit.noGoto_ret]
     refine bodyPost_ret (resultRowS2 rfl _ _ r10 rfl Tryz.underlying35 sizeSP) rfl ?_
     rw [HMG.out HNZ.out HG.out]
     have hx := HXX.out
     have hk : Keep (fun x => x = bx ∨ x = b4) w8 w10 := (Keep.of_grown HG9.out (fun k e => .inl (Option.some.inj e).symm)).grown g10 (fun k e => .inl (.inr (Option.some.inj e).symm))
     refine ⟨A8, c8, rfl, ?_, HB9.out.grown g10 HB9.out.size (fun i hi => by have := Option.some.inj hi; omega)⟩
     dsimp only
     rw [Cha.rowL_getD HSN.out]
     exact (keep_rd HR8.out.1 HR8.out.2 hk (fun x e => by have := HL7.out; rcases e with rfl | rfl <;> omega) (Nat.le_refl _)).more (by have := hk.size; omega)
    ·
     have HG := Lib.hid hg
     clear hg
     go_upto_region 16 with (first
      | (go_at_call 43; refine (HMT.out _).mono ?_; rintro e w7 ⟨rfl, b7⟩; have HB7 := Lib.hid b7; clear b7)
      | (go_at_call 51; refine (HWG.out _ (HB6.out.trans (HB7.out.mono HB6.out.size))).mono ?_; rintro e w8 ⟨A8, c8, er, rfl, _, _, her, b8⟩; have HB8 := Lib.hid (HB7.out.trans (b8.mono HB7.out.size)); have hne2 : (er != 0) = true := (by rw [bne_iff_ne]; exact fun h => HG.out (her.1 h)); clear b8 her)
      | (have tok := hcr; refine wpList_load_mid rfl _ (.tmp 2) rfl w.heap.size 0 rfl cl _ hcr Tryz.underlying23 rfl (by rw [HCL.out.2]; exact S.sizeCf) ?_; rw [HCL.out.1]; clear tok))
     have r9 := HR6.out.below' HB8.out
     clear hcr hbs
     go_wp2_with (refine wpList_storeRow rfl _ (.tmp 4) (.tmp 52) rfl (l' := zShL) r9 rfl rfl sizeSP rfl rfl ?_; intro w10 r10 g10 z10)
     try rw [Exit.noGoto_ret]
     refine bodyPost_ret (resultRowS2 rfl _ _ r10 rfl Tryz.underlying35 sizeSP) rfl ?_
     rw [HMB.out HNZ.out HG.out]
     have hx := HXX.out
     have hb := HB6.out.trans (HB8.out.mono HB6.out.size)
     exact ⟨rfl, hb.grown g10 hb.size (fun i hi => by have := Option.some.inj hi; omega)⟩
  ·
   obtain rfl : k = 16 := by omega
   have HAZ : Hid (∀ x ∈ bs, x = 0) := Lib.hid (Cha.allz_of (fun j hj => HZ0.out j (by have := HL.out; omega)))
   have hcr : w6.rangeAt w.heap.size 0 cl := fun q u hq => by rw [Nat.zero_add, HCR6.out.cell]; exact hq
   go_upto_region 14 with (first
    | (go_at_call 43; refine (HMT.out _).mono ?_; rintro e w7 ⟨rfl, b7⟩; have HB7 := Lib.hid b7; have hs7 := HBX.out.below b7; have q0 := hs7.cells.2.1; have q1 := hs7.cells.2.2; have HS7 := Lib.hid hs7; clear b7 hs7)
    | (have tok := hcr; refine wpList_load_mid rfl _ (.tmp 2) rfl w.heap.size 0 rfl cl _ hcr Tryz.underlying23 rfl (by rw [HCL.out.2]; exact S.sizeCf) ?_; rw [HCL.out.1]; clear tok))
   obtain ⟨w9, hw9⟩ : ∃ y, w7.setCell ⟨bx, 1, none⟩ (.int .i64 T) = y := ⟨_, rfl⟩
   have hg9 : w7.grownBy w9 (some bx) := by rw [← hw9]; exact grown_set_ w7 bx 1 _
   have hs9 := HS7.out.setH T
   rw [hw9] at hs9 ⊢
   have HS9 := Lib.hid hs9
   have hx := HXX.out
   have HB9 : Hid (Below w.heap.size w w9) := Lib.hid ((HB6.out.trans (HB7.out.mono HB6.out.size)).grown hg9 (HB6.out.trans (HB7.out.mono HB6.out.size)).size (fun i hi => by have := Option.some.inj hi; omega))
   have hrng : w9.rangeAt bx 0 [.slice (some ⟨g8, 0, none⟩) 16 16, .int .i64 T] := fun q u hq => by rw [Nat.zero_add, HS9.out.row.cell]; exact hq
   have r9 : IsRow w9 b4 35 zShL := (HR6.out.below' HB7.out).grown hg9 (fun e => by have := Option.some.inj e; omega)
   clear hw9 hx q0 q1 hg9 hs9 hcr
   go_wp2_with (first
    | (refine wpList_load_mid rfl _ (.tmp 8) rfl bx 0 rfl [.slice (some ⟨g8, 0, none⟩) 16 16, .int .i64 T] _ hrng Tryz.underlying35 rfl sizeSP ?_)
    | (refine wpList_storeRow rfl _ (.tmp 4) (.tmp 42) rfl (l' := [.slice (some ⟨g8, 0, none⟩) 16 16, .int .i64 T]) r9 rfl rfl sizeSP rfl rfl ?_; intro w10 r10 g10 z10))
   try rw [Exit.noGoto_ret]
   refine bodyPost_ret (resultRowS2 rfl _ _ r10 rfl Tryz.underlying35 sizeSP) rfl ?_
   rw [HM0.out HAZ.out]
   have hx := HXX.out
   exact ⟨some ⟨g8, 0, none⟩, 16, rfl, (HS9.out.ten.keep (g10.block g8 HS9.out.ten.lt (fun e => by have := Option.some.inj e; omega))).rdL, HB9.out.grown g10 HB9.out.size (fun i hi => by have := Option.some.inj hi; omega)⟩
end
section
open Go.RowKit
open W (FRow)
namespace Cha
theorem sum_mono {ws : List Int} {n : Nat} (h : ∀ j, j < n → 0 ≤ ws.getD j 0) : ∀ k, k ≤ n → 0 ≤ Spl.sumTo (W.wOf ws) k
 | 0, _ => Int.le_refl 0
 | k + 1, hk => by
  have h1 := sum_mono h k (by omega)
  have h2 := h k (by omega)
  show 0 ≤ Spl.sumTo (W.wOf ws) k + ws.getD k 0
  omega
theorem sum_top {ws : List Int} {n : Nat} (h : ∀ j, j < n → 0 ≤ ws.getD j 0) : ∀ d k, k + d = n → Spl.sumTo (W.wOf ws) k ≤ Spl.sumTo (W.wOf ws) n
 | 0, k, e => by rw [show k = n by omega]; exact Int.le_refl _
 | d + 1, k, e => by
  have h1 := sum_top h d (k + 1) (by omega)
  have h2 := h k (by omega)
  have h3 : Spl.sumTo (W.wOf ws) (k + 1) = Spl.sumTo (W.wOf ws) k + ws.getD k 0 := rfl
  omega
theorem okTo_of {ws : List Int} {n : Nat} (h : ∀ j, j < n → 0 ≤ ws.getD j 0) (hs : Spl.sumTo (W.wOf ws) n ≤ 2147483647) : W.OkTo ws n := fun i hi => by
 have := sum_top h (n - (i + 1)) (i + 1) (by omega)
 exact ⟨h i hi, by omega⟩
theorem sum_zero {ws : List Int} {n : Nat} (h : ∀ j, j < n → 0 ≤ ws.getD j 0) (hs : Spl.sumTo (W.wOf ws) n = 0) : ∀ j, j < n → ws.getD j 0 = 0 := fun j hj => by
 have h1 := sum_mono h j (by omega)
 have h2 := sum_top h (n - (j + 1)) (j + 1) (by omega)
 have h3 := h j hj
 have h4 : Spl.sumTo (W.wOf ws) (j + 1) = Spl.sumTo (W.wOf ws) j + ws.getD j 0 := rfl
 omega
theorem zero_sum {ws : List Int} (h : ∀ x ∈ ws, x = 0) : ∀ n, n ≤ ws.length → Spl.sumTo (W.wOf ws) n = 0
 | 0, _ => rfl
 | n + 1, hn => by
  show Spl.sumTo (W.wOf ws) n + ws.getD n 0 = 0
  rw [zero_sum h n (by omega), h _ (getD_mem (by omega))]; rfl
end Cha
set_option maxRecDepth 100000 in
set_option maxHeartbeats 3200000 in
theorem rmeta_bad (cf : S.Str.Cfg) (Ab : Option Addr) (n cb : Nat) (hn : n ≤ maxLen) (w : World) (hv : cf.ok = false ∨ n ≠ 16) :
  Calls Tryz.prog 20 #[S.cfV cf, .slice Ab n cb] w (ShVRes w none) := by
 unfold maxLen at hn
 obtain ⟨ca, cl, w0, hca, hcl, hw0, hrow, hb0, hs0⟩ := cfg_box cf w
 obtain ⟨er, her⟩ : ∃ er : Int, (if cf.ok = true then (0 : Int) else 1) = er := ⟨_, rfl⟩
 have HNW := Lib.hid (fun W => S.rcheck_any cf W)
 rw [hca, her] at HNW
 rw [hca]
 have HW := Lib.hid hw0
 have HB := Lib.hid (And.intro hb0 hs0)
 have HR := Lib.hid hrow.1
 have HCL := Lib.hid (And.intro hcl hrow.2.1)
 have hc : er = 1 ∨ (er = 0 ∧ ((n : Int) != 16) = true) := by
  cases h : cf.ok with
  | false => rw [h] at her; exact .inl (by simpa using her.symm)
  | true =>
   rw [h] at her hv
   exact .inr ⟨by simpa using her.symm, by rw [bne_iff_ne]; have := hv.resolve_left (by simp); omega⟩
 clear hw0 hb0 hs0 hcl hca hrow hv her
 rcases hc with rfl | ⟨rfl, e1⟩
 all_goals
  go_enter Tryz.func20, Tryz.ntmps20
  go_upto_region 1 with (rw [HW.out]; refine wpList_allocRow rfl _ rfl _ infoSR ?_; intro w1 r1 b1 z1)
  have hb1 := HB.out.1.trans (b1.mono HB.out.1.size)
  have hcr : w1.rangeAt w.heap.size 0 cl := fun q u hq => by rw [Nat.zero_add, (HR.out.below' b1).cell]; exact hq
  have HB1 := Lib.hid hb1
  have HZ : Hid (w.heap.size < w0.heap.size) := Lib.hid (by have := HB.out.2; omega)
  obtain ⟨b8, hb8⟩ : ∃ x, w0.heap.size = x := ⟨_, rfl⟩
  rw [hb8] at r1 HZ
  try rw [hb8]
  clear b1 z1 hb1 hb8
  go_upto_region 2 with (first
   | (go_at_call 52; refine (HNW.out _).mono ?_; rintro e w2 ⟨rfl, b2⟩; have HB2 := Lib.hid b2; have r2 := r1.below' b2; clear r1 b2)
   | (have tok := hcr; refine wpList_load_mid rfl _ (.tmp 2) rfl w.heap.size 0 rfl cl _ hcr Tryz.underlying23 rfl (by rw [HCL.out.2]; exact S.sizeCf) ?_; rw [HCL.out.1]; clear tok))
  clear hcr
  go_wp2_with (have tok := r2; refine wpList_storeRow rfl _ (.tmp 4) (.tmp 19) rfl (l' := zShL) r2 rfl rfl sizeSR rfl rfl ?_; intro w3 r3 g3 z3; clear tok)
  refine bodyPost_ret (resultRowS2 rfl _ _ r3 rfl Tryz.underlying39 sizeSR) rfl ?_
  have hb := HB1.out.trans (HB2.out.mono HB1.out.size)
  exact ⟨rfl, hb.grown g3 hb.size (fun i hi => by have := Option.some.inj hi; have := HZ.out; omega)⟩
set_option maxRecDepth 100000 in
set_option maxHeartbeats 6400000 in
theorem rmeta_ok (cf : S.Str.Cfg) (hok : cf.ok = true) (Ab : Option Addr) (cb : Nat) (bs : List Int) (hl : bs.length = 16) (B : Nat) (w : World) (hB : B ≤ w.heap.size) (hr : Rd w B 1 Ab 16 (ivs bs)) :
  Calls Tryz.prog 20 #[S.cfV cf, .slice Ab 16 cb] w (ShVRes w (Cha.metaO cf bs)) := by
 obtain ⟨ca, cl, w0, hca, hcl, hw0, hrow, hb0, hs0⟩ := cfg_box cf w
 have HNW := Lib.hid (fun W => S.rcheck_any cf W)
 rw [if_pos hok] at HNW
 have HMT := Lib.hid (fun W => rmeta_any cf hok W)
 rw [hca] at HNW HMT ⊢
 have hmr := Cha.meta_range hok
 have HM0 := Lib.hid (fun hz => Cha.metaO_zero hok hl hz)
 have HMG := Lib.hid (fun hz hg => Cha.metaO_good (bs := bs) hok hl hz hg)
 have HMB := Lib.hid (fun hz hg => Cha.metaO_bad (c := cf) (bs := bs) hz hg)
 obtain ⟨mo, hmo⟩ : ∃ y, Cha.metaO cf bs = y := ⟨_, rfl⟩
 rw [hmo] at HM0 HMG HMB ⊢
 obtain ⟨T, hT⟩ : ∃ T, Cha.metaT cf = T := ⟨_, rfl⟩
 rw [hT] at HMT HM0 HMG HMB hmr
 have HTR : Hid (0 ≤ T ∧ T ≤ 2147483647) := Lib.hid ⟨hmr.2.2.2.2.2.2.1, by omega⟩
 have HWG := Lib.hid (fun (W : World) (hW : Below w.heap.size w W) => rweighted_any T Ab 16 cb bs hl (by omega) w.heap.size W ((hr.more hB).below hW) hW.size)
 have HWL := Lib.hid (fun (hg : Cha.good T bs) => (Cha.wsh_len hg).trans hl)
 obtain ⟨sh, hsh⟩ : ∃ y, Cha.wsh T bs = y := ⟨_, rfl⟩
 rw [hsh] at HWG HWL HMG
 have HRD := Lib.hid (hr.more hB)
 have HL := Lib.hid hl
 have HW := Lib.hid hw0
 have HB := Lib.hid (And.intro hb0 hs0)
 have HR := Lib.hid hrow.1
 have HCL := Lib.hid (And.intro hcl hrow.2.1)
 clear hw0 hb0 hs0 hcl hca hrow hok hl hB hr hmo hT hsh hmr
 go_enter Tryz.func20, Tryz.ntmps20
 go_upto_region 1 with (rw [HW.out]; refine wpList_allocRow rfl _ rfl _ infoSR ?_; intro w1 r1 b1 z1)
 have hb1 := HB.out.1.trans (b1.mono HB.out.1.size)
 have hcr : w1.rangeAt w.heap.size 0 cl := fun q u hq => by rw [Nat.zero_add, (HR.out.below' b1).cell]; exact hq
 have HB1 := Lib.hid hb1
 have HR1 := Lib.hid (HR.out.below' b1)
 have HZ : Hid (w.heap.size < w0.heap.size) := Lib.hid (by have := HB.out.2; omega)
 obtain ⟨b4, hb4⟩ : ∃ x, w0.heap.size = x := ⟨_, rfl⟩
 rw [hb4] at r1 HZ
 try rw [hb4]
 clear b1 z1 hb1 hb4
 go_upto_region 2 with (first
  | (go_at_call 52; refine (HNW.out _).mono ?_; rintro e w2 ⟨rfl, b2⟩; have HB2 := Lib.hid (HB1.out.trans (b2.mono HB1.out.size)); have HR2 := Lib.hid (HR1.out.below' b2); have HRR := Lib.hid (r1.below' b2); have HRD2 := Lib.hid (HRD.out.below (HB1.out.trans (b2.mono HB1.out.size))); clear r1 b2)
  | (have tok := hcr; refine wpList_load_mid rfl _ (.tmp 2) rfl w.heap.size 0 rfl cl _ hcr Tryz.underlying23 rfl (by rw [HCL.out.2]; exact S.sizeCf) ?_; rw [HCL.out.1]; clear tok))
 clear hcr
 go_upto_region 5 with fail
 go_loop [6, 7] (fun u6 u7 => ∃ (k : Nat) (s : Int), k ≤ 16 ∧ u6 = .int .i64 s ∧ u7 = .int .i64 (k : Int) ∧ 0 ≤ s ∧ s ≤ (k : Int) * 2147483647 ∧ Hid (s = Spl.sumTo (W.wOf bs) k) ∧ Hid (∀ j, j < k → 0 ≤ bs.getD j 0)) (fun _ u7 => 16 - (intOf u7).toNat)
 case atStart => exact ⟨0, 0, Nat.zero_le _, rfl, rfl, by decide, by decide, Lib.hid rfl, Lib.hid fun j hj => absurd hj (Nat.not_lt_zero j)⟩
 case round =>
  obtain ⟨k, s, hk, rfl, rfl, s0, s1, HSU, HNN⟩ := hrel
  by_cases hlt : k < 16
  ·
   obtain ⟨b, off, rfl, _, hc⟩ := HRD2.out.int HL.out (by omega)
   have hck := hc k hlt
   have i0 : (0 : Int) ≤ (k : Int) := by omega
   have i1 : (k : Int) < 16 := by omega
   have hsu : Spl.sumTo (W.wOf bs) (k + 1) = Spl.sumTo (W.wOf bs) k + bs.getD k 0 := rfl
   rw [← HSU.out] at hsu
   obtain ⟨x, hx⟩ : ∃ x, bs.getD k 0 = x := ⟨_, rfl⟩
   rw [hx] at hck hsu
   have HX := Lib.hid hx
   have HS1 := Lib.hid hsu
   have HRR' := HRR.out
   clear hc hx hsu
   have herr : x < 0 ∨ 2147483647 < x → mo = none := fun h => HMB.out (fun hz => by
     have := hz _ (Cha.getD_mem (show k < bs.length by rw [HL.out]; exact hlt))
     rw [HX.out] at this; omega) (fun hg => by
     have h1 := hg.2.2.1
     have h2 := (h1 k (by rw [HL.out]; exact hlt)).1
     have h3 := h1.le (t := k) (by rw [HL.out]; exact hlt)
     rw [HX.out] at h2 h3
     omega)
   have HER := Lib.hid herr
   clear herr
   by_cases h1 : x < 0
   ·
    have HE := Lib.hid (HER.out (.inl h1))
    go_wp2_with (refine wpList_storeRow rfl _ (.tmp 4) (.tmp 36) rfl (l' := zShL) HRR' rfl rfl sizeSR rfl rfl ?_; intro w10 r10 g10 z10)
    refine bodyPost_ret (resultRowS2 rfl _ _ r10 rfl Tryz.underlying39 sizeSR) rfl ?_
    rw [HE.out]
    exact ⟨rfl, HB2.out.grown g10 HB2.out.size (fun i hi => by have := Option.some.inj hi; have := HZ.out; omega)⟩
   ·
    by_cases h2 : 2147483647 < x
    ·
     have HE := Lib.hid (HER.out (.inr h2))
     go_wp2_with (refine wpList_storeRow rfl _ (.tmp 4) (.tmp 36) rfl (l' := zShL) HRR' rfl rfl sizeSR rfl rfl ?_; intro w10 r10 g10 z10)
     refine bodyPost_ret (resultRowS2 rfl _ _ r10 rfl Tryz.underlying39 sizeSR) rfl ?_
     rw [HE.out]
     exact ⟨rfl, HB2.out.grown g10 HB2.out.size (fun i hi => by have := Option.some.inj hi; have := HZ.out; omega)⟩
    ·
     have w2' : IntKind.i64.wrap (s + x) = s + x := IntWalk.i64_in _ (by omega)
     clear HRR'
     go_wp2_with fail
     go_round
     case rel => exact ⟨k + 1, s + x, by omega, rfl, by go_num, by omega, by omega, Lib.hid HS1.out.symm, Lib.hid fun j hj => by
      by_cases e : j = k
      ·
       subst e; rw [HX.out]; omega
      ·
       exact HNN.out j (by omega)⟩
     case measure => simp [intOf]; omega
  ·
   obtain rfl : k = 16 := by omega
   have HRR' := HRR.out
   by_cases hs : 2147483647 < s
   ·
    have HE : Hid (mo = none) := Lib.hid (HMB.out (fun hz => by
     have := Cha.zero_sum hz 16 (by rw [HL.out]; exact Nat.le_refl _)
     rw [← HSU.out] at this; omega) (fun hg => by
     have := (hg.2.2.1.sum_le (Nat.le_refl _)).2
     rw [HL.out, ← HSU.out] at this; omega))
    go_wp2_with (refine wpList_storeRow rfl _ (.tmp 4) (.tmp 45) rfl (l' := zShL) HRR' rfl rfl sizeSR rfl rfl ?_; intro w10 r10 g10 z10)
    refine bodyPost_ret (resultRowS2 rfl _ _ r10 rfl Tryz.underlying39 sizeSR) rfl ?_
    rw [HE.out]
    exact ⟨rfl, HB2.out.grown g10 HB2.out.size (fun i hi => by have := Option.some.inj hi; have := HZ.out; omega)⟩
   ·
    have HPS := Lib.hid (rnone34 w2)
    have HS := Lib.hid (show s ≤ 2147483647 by omega)
    clear HRR'
    go_upto_region 13 with (first
     | (have tok := r5; refine wpList_storeRow rfl _ (.tmp 8) (.tmp 46) rfl (l' := [.slice (some ⟨g8, 0, none⟩) 16 16, .int .i64 0]) r5 rfl rfl sizeSR rfl rfl ?_; intro w6 r6 g6 z6; clear tok)
     | (go_at_call 46; refine HPS.out.mono ?_; rintro e w4 ⟨g8, rfl, F4, hg8, b4'⟩)
     | (refine wpList_allocRow rfl _ rfl _ infoSR ?_; intro w5 r5 b5 z5))
    have hb6 : Below w4.heap.size w4 w6 := b5.grown g6 b5.size (fun i hi => by have := Option.some.inj hi; omega)
    have hb26 := b4'.trans (hb6.mono b4'.size)
    have HB6 := Lib.hid (HB2.out.trans (hb26.mono HB2.out.size))
    have HCR6 := Lib.hid (HR2.out.below' hb26)
    have HR6 := Lib.hid (HRR.out.below' hb26)
    obtain ⟨bx, hbx⟩ : ∃ y, w4.heap.size = y := ⟨_, rfl⟩
    rw [hbx] at r6
    have HBX : Hid (BoxS 39 w6 bx g8 Cha.zero) := Lib.hid ⟨r6, F4.below hb6, by have := F4.lt; omega⟩
    have HXX : Hid (w.heap.size < b4 ∧ b4 < g8 ∧ g8 < bx) := Lib.hid ⟨HZ.out, by have := HRR.out.lt; omega, by have := F4.lt; omega⟩
    try rw [hbx]
    clear r5 b5 z5 g6 z6 hb6 hb26 F4 hg8 b4' r6 hbx HPS
    try simp only [PT]
    have hcr : w6.rangeAt w.heap.size 0 cl := fun q u hq => by rw [Nat.zero_add, HCR6.out.cell]; exact hq
    by_cases hs0 : s = 0
    ·
     subst hs0
     have HAZ : Hid (∀ x ∈ bs, x = 0) := Lib.hid (Cha.allz_of (fun j hj => Cha.sum_zero HNN.out HSU.out.symm j (by rw [HL.out] at hj; exact hj)))
     go_upto_region 15 with (first
      | (go_at_call 45; refine (HMT.out _).mono ?_; rintro e w7 ⟨rfl, b7⟩; have HB7 := Lib.hid b7; have hs7 := HBX.out.below b7; have q0 := hs7.cells.2.1; have q1 := hs7.cells.2.2; have HS7 := Lib.hid hs7; clear b7 hs7)
      | (have tok := hcr; refine wpList_load_mid rfl _ (.tmp 2) rfl w.heap.size 0 rfl cl _ hcr Tryz.underlying23 rfl (by rw [HCL.out.2]; exact S.sizeCf) ?_; rw [HCL.out.1]; clear tok))
     obtain ⟨w9, hw9⟩ : ∃ y, w7.setCell ⟨bx, 1, none⟩ (.int .i64 T) = y := ⟨_, rfl⟩
     have hg9 : w7.grownBy w9 (some bx) := by rw [← hw9]; exact grown_set_ w7 bx 1 _
     have hs9 := HS7.out.setH T
     rw [hw9] at hs9 ⊢
     have HS9 := Lib.hid hs9
     have hx := HXX.out
     have HB9 : Hid (Below w.heap.size w w9) := Lib.hid ((HB6.out.trans (HB7.out.mono HB6.out.size)).grown hg9 (HB6.out.trans (HB7.out.mono HB6.out.size)).size (fun i hi => by have := Option.some.inj hi; omega))
     have hrng : w9.rangeAt bx 0 [.slice (some ⟨g8, 0, none⟩) 16 16, .int .i64 T] := fun q u hq => by rw [Nat.zero_add, HS9.out.row.cell]; exact hq
     have r9 : IsRow w9 b4 39 zShL := (HR6.out.below' HB7.out).grown hg9 (fun e => by have := Option.some.inj e; omega)
     clear hw9 hx q0 q1 hg9 hs9 hcr
     go_wp2_with (first
      | (refine wpList_load_mid rfl _ (.tmp 8) rfl bx 0 rfl [.slice (some ⟨g8, 0, none⟩) 16 16, .int .i64 T] _ hrng Tryz.underlying39 rfl sizeSR ?_)
      | (refine wpList_storeRow rfl _ (.tmp 4) (.tmp 52) rfl (l' := [.slice (some ⟨g8, 0, none⟩) 16 16, .int .i64 T]) r9 rfl rfl sizeSR rfl rfl ?_; intro w10 r10 g10 z10))
     refine bodyPost_ret (resultRowS2 rfl _ _ r10 rfl Tryz.underlying39 sizeSR) rfl ?_
     rw [HM0.out HAZ.out]
     have hx := HXX.out
     exact ⟨some ⟨g8, 0, none⟩, 16, rfl, (HS9.out.ten.keep (g10.block g8 HS9.out.ten.lt (fun e => by have := Option.some.inj e; omega))).rdL, HB9.out.grown g10 HB9.out.size (fun i hi => by have := Option.some.inj hi; omega)⟩
    ·
     have HG : Hid (Cha.good T bs) := Lib.hid ⟨HTR.out.1, HTR.out.2, by rw [HL.out]; exact Cha.okTo_of HNN.out (by rw [← HSU.out]; exact HS.out), by rw [HL.out, ← HSU.out]; exact hs0⟩
     have HNZ : Hid (¬ ∀ x ∈ bs, x = 0) := Lib.hid fun hz => hs0 (by rw [HSU.out]; exact Cha.zero_sum hz 16 (by rw [HL.out]; exact Nat.le_refl _))
     have e1 : (s == 0) = false := by rw [beq_eq_false_iff_ne]; exact hs0
     have hbs := HBX.out
     have hN := HWL.out HG.out
     rw [hN] at HWG
     have HSN := Lib.hid hN
     clear hN hs0
     go_upto_region 17 with (first
      | (go_at_call 45; refine (HMT.out _).mono ?_; rintro e w7 ⟨rfl, b7⟩; have HB7 := Lib.hid b7; clear b7)
      | (go_at_call 53; refine (HWG.out _ (HB6.out.trans (HB7.out.mono HB6.out.size))).mono ?_; rintro e w8 ⟨A8, c8, er, rfl, r8, f8, her, b8⟩; have HR8 := Lib.hid (And.intro r8 f8); have HB8 := Lib.hid (HB7.out.trans (b8.mono HB7.out.size)); clear r8 b8 f8 her)
      | (have tok := hcr; refine wpList_load_mid rfl _ (.tmp 2) rfl w.heap.size 0 rfl cl _ hcr Tryz.underlying23 rfl (by rw [HCL.out.2]; exact S.sizeCf) ?_; rw [HCL.out.1]; clear tok))
     have hb8 := hbs.below HB8.out
     have q0 := hb8.cells.1
     have q1 := hb8.row.frozen 0
     have HS8 := Lib.hid (hb8.row.set 0 (.slice A8 16 c8))
     clear hcr hbs hb8
     try simp only [PT]
     go_upto_region 18 with fail
     obtain ⟨w9, hw9⟩ : ∃ y, w8.setCell ⟨bx, 0, none⟩ (.slice A8 16 c8) = y := ⟨_, rfl⟩
     have hg9 : w8.grownBy w9 (some bx) := by rw [← hw9]; exact grown_set_ w8 bx 0 _
     rw [hw9] at HS8 ⊢
     have hx := HXX.out
     have HB9 : Hid (Below w.heap.size w w9) := Lib.hid ((HB6.out.trans (HB8.out.mono HB6.out.size)).grown hg9 (HB6.out.trans (HB8.out.mono HB6.out.size)).size (fun i hi => by have := Option.some.inj hi; omega))
     have hrng : w9.rangeAt bx 0 [.slice A8 16 c8, .int .i64 0] := fun q u hq => by rw [Nat.zero_add, HS8.out.cell]; exact hq
     have r9 : IsRow w9 b4 39 zShL := (HR6.out.below' HB8.out).grown hg9 (fun e => by have := Option.some.inj e; omega)
     have HG9 := Lib.hid hg9
     have HL7 : Hid (bx < w7.heap.size) := Lib.hid (by have := HBX.out.lt; have := HB7.out.size; omega)
     clear hw9 hx q0 q1 hg9
     go_wp2_with (first
      | (refine wpList_load_mid rfl _ (.tmp 8) rfl bx 0 rfl [.slice A8 16 c8, .int .i64 0] _ hrng Tryz.underlying39 rfl sizeSR ?_)
      | (refine wpList_storeRow rfl _ (.tmp 4) (.tmp 62) rfl (l' := [.slice A8 16 c8, .int .i64 0]) r9 rfl rfl sizeSR rfl rfl ?_; intro w10 r10 g10 z10))
     refine bodyPost_ret (resultRowS2 rfl _ _ r10 rfl Tryz.underlying39 sizeSR) rfl ?_
     rw [HMG.out HNZ.out HG.out]
     have hx := HXX.out
     have hk : Keep (fun x => x = bx ∨ x = b4) w8 w10 := (Keep.of_grown HG9.out (fun k e => .inl (Option.some.inj e).symm)).grown g10 (fun k e => .inl (.inr (Option.some.inj e).symm))
     refine ⟨A8, c8, rfl, ?_, HB9.out.grown g10 HB9.out.size (fun i hi => by have := Option.some.inj hi; omega)⟩
     dsimp only
     rw [Cha.rowL_getD HSN.out]
     exact (keep_rd HR8.out.1 HR8.out.2 hk (fun x e => by have := HL7.out; rcases e with rfl | rfl <;> omega) (Nat.le_refl _)).more (by have := hk.size; omega)
theorem pmeta_all (cf : S.Str.Cfg) (Ab : Option Addr) (n cb : Nat) (bs : List Int) (hl : bs.length = n) (hn : n ≤ maxLen) (B : Nat) (w : World) (hB : B ≤ w.heap.size) (hr : Rd w B 1 Ab n (ivs bs)) :
  Calls Tryz.prog 19 #[S.cfV cf, .slice Ab n cb] w (ShVRes w (Cha.metaO cf bs)) := by
 cases hc : cf.ok with
 | false => rw [Cha.metaO_cfg hc]; exact pmeta_bad cf Ab n cb hn w (.inl hc)
 | true =>
  by_cases h : n = 16
  ·
   subst h; exact pmeta_ok cf hc Ab cb bs hl B w hB hr
  ·
   rw [Cha.metaO_len (by omega)]; exact pmeta_bad cf Ab n cb hn w (.inr h)
theorem rmeta_all (cf : S.Str.Cfg) (Ab : Option Addr) (n cb : Nat) (bs : List Int) (hl : bs.length = n) (hn : n ≤ maxLen) (B : Nat) (w : World) (hB : B ≤ w.heap.size) (hr : Rd w B 1 Ab n (ivs bs)) :
  Calls Tryz.prog 20 #[S.cfV cf, .slice Ab n cb] w (ShVRes w (Cha.metaO cf bs)) := by
 cases hc : cf.ok with
 | false => rw [Cha.metaO_cfg hc]; exact rmeta_bad cf Ab n cb hn w (.inl hc)
 | true =>
  by_cases h : n = 16
  ·
   subst h; exact rmeta_ok cf hc Ab cb bs hl B w hB hr
  ·
   rw [Cha.metaO_len (by omega)]; exact rmeta_bad cf Ab n cb hn w (.inr h)
end
end Go.Proofs.YtfllkaeaanahmaaGreat
