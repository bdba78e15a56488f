/- Charge: Of, the program's. Conditions: the table, the rows and the blocks are kept. -/
import Derived.Test.YtfllkaeaanahmaaGreatChaD
namespace Go.Proofs.YtfllkaeaanahmaaGreat
set_option linter.unusedVariables false
set_option linter.unusedSimpArgs false
open Go.RowKit
open W (FRow)
theorem own_row1 (w : World) (cs : List Value) (e : TypeId) (size base : Nat) (hl : cs.length = size) (hb : base ≤ w.heap.size) : (w.alloc (.cells cs.toArray e)).ownsRow base e size (.slice (some ⟨w.heap.size, 0, none⟩) 1 1) 1 cs :=
 ⟨by omega, .inr ⟨w.heap.size, 1, cs.toArray, rfl, hb, heap_alloc_new w _, Nat.le_refl _, by unfold maxLen; omega, by simp [hl], by simp [hl]; exact List.take_of_length_le (by omega)⟩⟩
theorem shT34 : ElemT Tryz.prog 94 35 (.agg zShL.toArray) 2 32 := ⟨Tryz.underlying94, by kernel_rfl, by kernel_rfl, by decide, by decide⟩
namespace Cha
theorem wsh_range {T : Int} {ws : List Int} (j : Nat) : 0 ≤ (wsh T ws).getD j 0 ∧ (wsh T ws).getD j 0 ≤ 2147483648 := by
 by_cases hg : good T ws
 ·
  have hk := k_range hg
  rw [wsh_good hg (ordP_is _ _) hk.1 hk.2]
  by_cases hj : j < ws.length
  ·
   rw [W.rowL_get _ hj]
   have := W.sh_range (T := T) rfl hg (ordP_is _ _) hk.2 hj
   have := hg.2.1
   omega
  ·
   rw [List.getD, List.getElem?_eq_none (by rw [W.rowL_len]; omega)]; decide
 ·
  rw [wsh_bad hg]; simp
theorem metaO_range {c : S.Str.Cfg} {bs : List Int} {s : Sh} (h : metaO c bs = some s) : (∀ j, 0 ≤ s.t j ∧ s.t j ≤ 2147483648) ∧ 0 ≤ s.h ∧ s.h ≤ 2147483648 := by
 unfold metaO at h
 by_cases hc : c.ok = true ∧ blocksOk c bs
 ·
  rw [if_pos hc] at h
  have := Option.some.inj h
  subst this
  have hm := meta_range hc.1
  unfold metaS
  by_cases hz : ∀ x ∈ bs, x = 0
  ·
   rw [if_pos hz]; exact ⟨fun _ => by show 0 ≤ (0 : Int) ∧ (0 : Int) ≤ 2147483648; omega, by show 0 ≤ metaT c ∧ metaT c ≤ _; omega⟩
  ·
   rw [if_neg hz]; exact ⟨fun j => wsh_range j, by show 0 ≤ (0 : Int) ∧ (0 : Int) ≤ 2147483648; omega⟩
 ·
  rw [if_neg hc] at h; cases h
theorem add_zero {s : Sh} (h : (∀ j, 0 ≤ s.t j ∧ s.t j ≤ 2147483648) ∧ 0 ≤ s.h ∧ s.h ≤ 2147483648) : addS zero s = s := by
 obtain ⟨t, hh⟩ := s
 unfold addS zero wr
 dsimp only at h ⊢
 congr 1
 ·
  funext j
  have := h.1 j
  rw [Int.zero_add, IntWalk.wrap64_in _ (by omega)]
 ·
  rw [Int.zero_add, IntWalk.wrap64_in _ (by omega)]
theorem sumS_of {f rf : Nat → Sh} {s : Sh} (h0 : f 0 = s) (hs : addS zero s = s) : ∀ n, (∀ j, j < n → f (j + 1) = rf j) → ∀ (g : Nat → Sh), (g 0 = s) → (∀ j, j < n → g (j + 1) = addS (g j) (rf j)) → sumS f (n + 1) = g n
 | 0, _, g, h1, _ => by show addS zero (f 0) = g 0; rw [h0, hs, h1]
 | n + 1, hf, g, h1, h2 => by
  show addS (sumS f (n + 1)) (f (n + 1)) = g (n + 1)
  rw [sumS_of h0 hs n (fun j hj => hf j (by omega)) g h1 (fun j hj => h2 j (by omega)), hf n (by omega), h2 n (by omega)]
noncomputable def ofO (l : List Chk.Ck) (cf : S.Str.Cfg) (rs : List S.Str.Rw) (bs : List Int) : Option Sh := match metaO cf bs with
 | some s => if S.Str.validB cf rs = true then some (ofS l rs cf.d s rs.length) else none
 | none => none
end Cha
set_option maxRecDepth 100000 in
set_option maxHeartbeats 3200000 in
theorem pof_bad1 {w : World} {B m cp : Nat} {A : Option Addr} {D : List S.RR} {rs : List S.Str.Rw} (h : S.RowsIn w B A m D rs) (hB : B ≤ w.heap.size) (hmc : m ≤ cp) (cf : S.Str.Cfg) (Ab : Option Addr) (nb cb : Nat) (bs : List Int) (hl : bs.length = nb) (hnb : nb ≤ maxLen) {B2 : Nat} (hB2 : B2 ≤ w.heap.size) (hr : Rd w B2 1 Ab nb (ivs bs)) (a : Value) (hv : Cha.metaO cf bs = none) :
  Calls Tryz.prog 11 #[S.cfV cf, .slice A m cp, a, .slice Ab nb cb] w (ShRes w none) := by
 obtain ⟨ca, cl, w0, hca, hcl, hw0, hrow, hb0, hs0⟩ := cfg_box cf w
 have hmx := h.mx
 have HME := Lib.hid (fun (W : World) (hW : Below w.heap.size w W) => pmeta_all cf Ab nb cb bs hl hnb w.heap.size W hW.size ((hr.more hB2).below hW))
 have HVA := Lib.hid (fun (W : World) (hW : Below w.heap.size w W) => S.valid_any cf ((h.more hB).below hW) hW.size hmc)
 rw [hca] at HME HVA ⊢
 rw [hv] at HME
 have HW := Lib.hid hw0
 have HB := Lib.hid (And.intro hb0 hs0)
 have HR := Lib.hid hrow.1
 have HCL := Lib.hid (And.intro hcl hrow.2)
 clear h hB hw0 hb0 hs0 hcl hca hmc hB2 hr hrow hl hv HVA
 go_enter Tryz.func11, Tryz.ntmps11
 go_upto_region 1 with (rw [HW.out]; refine wpList_allocRow rfl _ rfl _ infoSP ?_; intro w1 r1 b1 z1)
 have hb1 := HB.out.1.trans (b1.mono HB.out.1.size)
 have hcr : w1.rangeAt w.heap.size 0 cl := fun q u hq => by rw [Nat.zero_add, (HR.out.below' b1).cell]; exact hq
 have HB1 := Lib.hid hb1
 have HR1 := Lib.hid (HR.out.below' b1)
 have HZ : Hid (w.heap.size < w0.heap.size) := Lib.hid (by have := HB.out.2; omega)
 obtain ⟨b8, hb8⟩ : ∃ x, w0.heap.size = x := ⟨_, rfl⟩
 rw [hb8] at r1 HZ
 try rw [hb8]
 clear b1 z1 hb1 hb8
 go_upto_region 2 with (first
  | (have tok := r3; refine wpList_storeRow rfl _ (.tmp 10) (.tmp 18) rfl (l' := zShL) r3 rfl rfl sizeSP rfl rfl ?_; intro w4 r4 g4 z4; clear tok)
  | (go_at_call 19; refine (HME.out _ HB1.out).mono ?_; rintro e w2 ⟨rfl, b2⟩; have r2 := r1.below' b2)
  | (refine wpList_allocRow rfl _ rfl _ infoSP ?_; intro w3 r3 b3 z3)
  | (have tok := hcr; refine wpList_load_mid rfl _ (.tmp 4) rfl w.heap.size 0 rfl cl _ hcr Tryz.underlying23 rfl (by rw [HCL.out.2.1]; exact S.sizeCf) ?_; rw [HCL.out.1]; clear tok))
 have hb4 : Below w2.heap.size w2 w4 := b3.grown g4 b3.size (fun i hi => by have := Option.some.inj hi; omega)
 have hbb := HB1.out.trans ((b2.trans (hb4.mono b2.size)).mono HB1.out.size)
 have HBB := Lib.hid hbb
 have r5 := r2.below' hb4
 clear r1 b2 r2 b3 r3 z3 g4 z4 r4 hb4 hbb hcr
 go_wp2_with (refine wpList_storeRow rfl _ (.tmp 8) (.tmp 28) rfl (l' := zShL) r5 rfl rfl sizeSP rfl rfl ?_; intro w6 r6 g6 z6)
 refine bodyPost_ret (resultRowS2 rfl _ _ r6 rfl Tryz.underlying35 sizeSP) rfl ?_
 exact ⟨rfl, HBB.out.grown g6 HBB.out.size (fun i hi => by have := Option.some.inj hi; have := HZ.out; omega)⟩
set_option maxRecDepth 100000 in
set_option maxHeartbeats 3200000 in
theorem pof_bad2 {w : World} {B m cp : Nat} {A : Option Addr} {D : List S.RR} {rs : List S.Str.Rw} (h : S.RowsIn w B A m D rs) (hB : B ≤ w.heap.size) (hmc : m ≤ cp) (cf : S.Str.Cfg) (Ab : Option Addr) (nb cb : Nat) (bs : List Int) (hl : bs.length = nb) (hnb : nb ≤ maxLen) {B2 : Nat} (hB2 : B2 ≤ w.heap.size) (hr : Rd w B2 1 Ab nb (ivs bs)) (a : Value) (s : Cha.Sh) (hs : Cha.metaO cf bs = some s) (hv : S.Str.validB cf rs = false) :
  Calls Tryz.prog 11 #[S.cfV cf, .slice A m cp, a, .slice Ab nb cb] w (ShRes w none) := by
 obtain ⟨ca, cl, w0, hca, hcl, hw0, hrow, hb0, hs0⟩ := cfg_box cf w
 have hmx := h.mx
 have HME := Lib.hid (fun (W : World) (hW : Below w.heap.size w W) => pmeta_all cf Ab nb cb bs hl hnb w.heap.size W hW.size ((hr.more hB2).below hW))
 have HVA := Lib.hid (fun (W : World) (hW : Below w.heap.size w W) => S.valid_any cf ((h.more hB).below hW) hW.size hmc)
 rw [hca] at HME HVA ⊢
 rw [hs] at HME
 rw [hv] at HVA
 have HW := Lib.hid hw0
 have HB := Lib.hid (And.intro hb0 hs0)
 have HR := Lib.hid hrow.1
 have HCL := Lib.hid (And.intro hcl hrow.2)
 clear h hB hw0 hb0 hs0 hcl hca hmc hB2 hr hrow hl hv hs
 go_enter Tryz.func11, Tryz.ntmps11
 go_upto_region 1 with (rw [HW.out]; refine wpList_allocRow rfl _ rfl _ infoSP ?_; intro w1 r1 b1 z1)
 have hb1 := HB.out.1.trans (b1.mono HB.out.1.size)
 have hcr : w1.rangeAt w.heap.size 0 cl := fun q u hq => by rw [Nat.zero_add, (HR.out.below' b1).cell]; exact hq
 have HB1 := Lib.hid hb1
 have HR1 := Lib.hid (HR.out.below' b1)
 have HZ : Hid (w.heap.size < w0.heap.size) := Lib.hid (by have := HB.out.2; omega)
 obtain ⟨b8, hb8⟩ : ∃ x, w0.heap.size = x := ⟨_, rfl⟩
 rw [hb8] at r1 HZ
 try rw [hb8]
 clear b1 z1 hb1 hb8
 go_upto_region 2 with (first
  | (have tok := r3; refine wpList_storeRow rfl _ (.tmp 10) (.tmp 18) rfl (l' := [.slice A2 16 c2, .int .i64 s.h]) r3 rfl rfl sizeSP rfl rfl ?_; intro w4 r4 g4 z4; clear tok)
  | (go_at_call 19; refine (HME.out _ HB1.out).mono ?_; rintro e w2 ⟨A2, c2, rfl, _, b2⟩; have r2 := r1.below' b2)
  | (refine wpList_allocRow rfl _ rfl _ infoSP ?_; intro w3 r3 b3 z3)
  | (have tok := hcr; refine wpList_load_mid rfl _ (.tmp 4) rfl w.heap.size 0 rfl cl _ hcr Tryz.underlying23 rfl (by rw [HCL.out.2.1]; exact S.sizeCf) ?_; rw [HCL.out.1]; clear tok))
 have hb4 : Below w2.heap.size w2 w4 := b3.grown g4 b3.size (fun i hi => by have := Option.some.inj hi; omega)
 have hbb := HB1.out.trans ((b2.trans (hb4.mono b2.size)).mono HB1.out.size)
 have HBB := Lib.hid hbb
 have HR5 := Lib.hid (r2.below' hb4)
 have hcr : w4.rangeAt w.heap.size 0 cl := fun q u hq => by rw [Nat.zero_add, ((HR1.out.below' b2).below' hb4).cell]; exact hq
 obtain ⟨b10, hb10⟩ : ∃ x, w2.heap.size = x := ⟨_, rfl⟩
 try rw [hb10]
 clear r1 b2 r2 b3 r3 z3 g4 z4 r4 hb4 hbb hb10
 go_upto_region 3 with (first
  | (go_at_call 38; refine (HVA.out _ HBB.out).mono ?_; rintro e w5 ⟨rfl, b5⟩; have HB5 := Lib.hid (HBB.out.trans (b5.mono HBB.out.size)); have r5 := HR5.out.below' b5; clear b5)
  | (have tok := hcr; refine S.wpList_load_rg rfl _ (.tmp 4) rfl w.heap.size 0 rfl cl _ hcr Tryz.underlying23 rfl (by rw [HCL.out.2.1]; exact S.sizeCf) ?_; rw [HCL.out.1]; clear tok))
 clear hcr
 go_wp2_with (refine wpList_storeRow rfl _ (.tmp 8) (.tmp 28) rfl (l' := zShL) r5 rfl rfl sizeSP rfl rfl ?_; intro w6 r6 g6 z6)
 refine bodyPost_ret (resultRowS2 rfl _ _ r6 rfl Tryz.underlying35 sizeSP) rfl ?_
 exact ⟨rfl, HB5.out.grown g6 HB5.out.size (fun i hi => by have := Option.some.inj hi; have := HZ.out; omega)⟩
set_option maxRecDepth 100000 in
set_option maxHeartbeats 6400000 in
theorem pof_ok {wz w : World} (hz : Below wz.heap.size wz w) {F T : Nat → Prop} {a : Nat} {t : TM} {l : List Chk.Ck} (ht : TAt wz F T a t l) {B m cp : Nat} {A : Option Addr} {D : List S.RR} {rs : List S.Str.Rw} (h : S.RowsIn w B A m D rs) (hB : B ≤ w.heap.size) (hmc : m ≤ cp) (cf : S.Str.Cfg) (Ab : Option Addr) (nb cb : Nat) (bs : List Int) (hl : bs.length = nb) (hnb : nb ≤ maxLen) {B2 : Nat} (hB2 : B2 ≤ w.heap.size) (hr : Rd w B2 1 Ab nb (ivs bs)) (s : Cha.Sh) (hs : Cha.metaO cf bs = some s) (hv : S.Str.validB cf rs = true) :
  Calls Tryz.prog 11 #[S.cfV cf, .slice A m cp, .pointer (some ⟨a, 0, none⟩), .slice Ab nb cb] w (ShRes w (some (Cha.ofS l rs cf.d s m))) := by
 obtain ⟨ca, cl, w0, hca, hcl, hw0, hrow, hb0, hs0⟩ := cfg_box cf w
 have hmx := h.mx
 have HME := Lib.hid (fun (W : World) (hW : Below w.heap.size w W) => pmeta_all cf Ab nb cb bs hl hnb w.heap.size W hW.size ((hr.more hB2).below hW))
 have HVA := Lib.hid (fun (W : World) (hW : Below w.heap.size w W) => S.valid_any cf ((h.more hB).below hW) hW.size hmc)
 rw [hca] at HME HVA ⊢
 have hV := S.Str.validB_iff.1 hv
 have hd := S.Str.Cfg.ok_d hV.ok
 have hln := h.len.2
 have hrl := hV.len
 rw [hs] at HME
 rw [hv] at HVA
 have hra : S.RowsAt w B A m D rs := h.at_ (by omega) (fun r hr => by have := Cha.valid_small hV r hr; omega)
 have hu : ∀ k, k < m → (rs.getD k S.Str.free).used.length ≤ 64 := fun k hk => by
  rw [List.getD, List.getElem?_eq_getElem (by omega)]
  exact Cha.valid_small hV _ (List.getElem_mem (by omega))
 have HRW := Lib.hid (fun (W : World) (hW : Below w.heap.size w W) (k : Nat) (hk : k < m) => row_any (cp := cp) (hz.trans (hW.mono hz.size)) ht ((hra.more hB).below hW) hW.size cf (by omega) (by omega) k hk (by have := hu k hk; omega))
 rw [hca] at HRW
 have HSR := Lib.hid (Cha.metaO_range hs)
 obtain ⟨rf, hrf⟩ : ∃ f : Nat → Cha.Sh, (fun k => Cha.rowAt l rs cf.d k) = f := ⟨_, rfl⟩
 have HRF := Lib.hid (fun k => show Cha.rowAt l rs cf.d k = rf k from congrFun hrf k)
 have hm64 : m ≤ 4096 := by omega
 have HW := Lib.hid hw0
 have HB := Lib.hid (And.intro hb0 hs0)
 have HR := Lib.hid hrow.1
 have HCL := Lib.hid (And.intro hcl hrow.2)
 clear h hB hw0 hb0 hs0 hcl hca hmc hB2 hr hrow hl hv hs hz ht hra hu hd hV hrl hln hrf
 go_enter Tryz.func11, Tryz.ntmps11
 go_upto_region 1 with (rw [HW.out]; refine wpList_allocRow rfl _ rfl _ infoSP ?_; intro w1 r1 b1 z1)
 have hb1 := HB.out.1.trans (b1.mono HB.out.1.size)
 have hcr : w1.rangeAt w.heap.size 0 cl := fun q u hq => by rw [Nat.zero_add, (HR.out.below' b1).cell]; exact hq
 have HB1 := Lib.hid hb1
 have HR1 := Lib.hid (HR.out.below' b1)
 have HZ : Hid (w.heap.size < w0.heap.size) := Lib.hid (by have := HB.out.2; omega)
 obtain ⟨b8, hb8⟩ : ∃ x, w0.heap.size = x := ⟨_, rfl⟩
 rw [hb8] at r1 HZ
 try rw [hb8]
 clear b1 z1 hb1 hb8
 go_upto_region 2 with (first
  | (have tok := r3; refine wpList_storeRow rfl _ (.tmp 10) (.tmp 18) rfl (l' := [.slice A2 16 c2, .int .i64 s.h]) r3 rfl rfl sizeSP rfl rfl ?_; intro w4 r4 g4 z4; clear tok)
  | (go_at_call 19; refine (HME.out _ HB1.out).mono ?_; rintro e w2 ⟨A2, c2, rfl, rd2, b2⟩; have r2 := r1.below' b2)
  | (refine wpList_allocRow rfl _ rfl _ infoSP ?_; intro w3 r3 b3 z3)
  | (have tok := hcr; refine wpList_load_mid rfl _ (.tmp 4) rfl w.heap.size 0 rfl cl _ hcr Tryz.underlying23 rfl (by rw [HCL.out.2.1]; exact S.sizeCf) ?_; rw [HCL.out.1]; clear tok))
 have hb4 : Below w2.heap.size w2 w4 := b3.grown g4 b3.size (fun i hi => by have := Option.some.inj hi; omega)
 have hb2 := HB1.out.trans (b2.mono HB1.out.size)
 have hbb := hb2.trans (hb4.mono hb2.size)
 have HBB := Lib.hid hbb
 have HR5 := Lib.hid (r2.below' hb4)
 have HCR4 := Lib.hid ((HR1.out.below' b2).below' hb4)
 have HRD := Lib.hid (rd2.below hb4)
 have hcr : w4.rangeAt w.heap.size 0 cl := fun q u hq => by rw [Nat.zero_add, HCR4.out.cell]; exact hq
 obtain ⟨b10, hb10⟩ : ∃ x, w2.heap.size = x := ⟨_, rfl⟩
 rw [hb10] at r4 HRD
 have HR4 := Lib.hid r4
 have H10 : Hid (w.heap.size < b8 ∧ b8 < b10) := Lib.hid ⟨HZ.out, by have := r2.lt; omega⟩
 try rw [hb10]
 clear r1 b2 r2 b3 r3 z3 g4 z4 r4 hb4 hbb hb10 rd2 hb2
 go_upto_region 4 with (first
  | (go_at_call 38; refine (HVA.out _ HBB.out).mono ?_; rintro e w5 ⟨rfl, b5⟩; have HB5 := Lib.hid b5; clear b5)
  | (have tok := hcr; refine S.wpList_load_rg rfl _ (.tmp 4) rfl w.heap.size 0 rfl cl _ hcr Tryz.underlying23 rfl (by rw [HCL.out.2.1]; exact S.sizeCf) ?_; rw [HCL.out.1]; clear tok))
 have r10 := HR4.out.below' HB5.out
 have hrng : w5.rangeAt b10 0 [.slice A2 16 c2, .int .i64 s.h] := fun q u hq => by rw [Nat.zero_add, r10.cell]; exact hq
 have HR8 := Lib.hid (HR5.out.below' HB5.out)
 have HCR5 := Lib.hid (HCR4.out.below' HB5.out)
 have HRD5 := Lib.hid (HRD.out.below (HB5.out.mono (by have := HR4.out.lt; omega)))
 have HL10 : Hid (b10 < w5.heap.size) := Lib.hid r10.lt
 have HBW5 := Lib.hid (HBB.out.trans (HB5.out.mono HBB.out.size))
 clear hcr r10
 go_upto_region 6 with (refine wpList_load_mid rfl _ (.tmp 10) rfl b10 0 rfl [.slice A2 16 c2, .int .i64 s.h] _ hrng Tryz.underlying35 rfl sizeSP ?_)
 have own6 := own_row1 w5 [.slice A2 16 c2, .int .i64 s.h] 35 2 w5.heap.size rfl (Nat.le_refl _)
 have b6 : Below w5.heap.size w5 (w5.alloc (.cells #[.slice A2 16 c2, .int .i64 s.h] 35)) := (Below.refl _ _).alloc (Nat.le_refl _) _
 obtain ⟨w6, hw6⟩ : ∃ x, w5.alloc (.cells #[.slice A2 16 c2, .int .i64 s.h] 35) = x := ⟨_, rfl⟩
 rw [show w5.alloc (.cells [Value.slice A2 16 c2, .int .i64 s.h].toArray 35) = w6 from hw6] at own6
 rw [hw6] at b6 ⊢
 have HO6 := Lib.hid own6
 have HB6 := Lib.hid b6
 have HD6 : Hid (∀ x ∈ [(⟨s, A2, c2⟩ : ShV)], x.Ok w6 w6.heap.size) := Lib.hid fun x hx => by
  obtain rfl := List.mem_singleton.1 hx
  exact (HRD5.out.more (by have := HL10.out; omega)).below b6 |>.more b6.size
 clear own6 b6 hw6 hrng
 go_loopw [12, 33] (fun u12 u33 wx => ∃ (wr : World) (k g3 c3 : Nat) (E : List ShV), wr = wx ∧ k ≤ m ∧ u33 = .int .i64 (k : Int) ∧ u12 = .slice (some ⟨g3, 0, none⟩) (k + 1) c3 ∧ Hid (∀ x ∈ E, ∀ p, x.A = some p → p.block ≠ g3) ∧ Hid (E.length = k + 1 ∧ (E.getD 0 ⟨Cha.zero, none, 0⟩).s = s ∧ ∀ j, j < k → (E.getD (j + 1) ⟨Cha.zero, none, 0⟩).s = rf j) ∧ Hid (wr.ownsRow w5.heap.size 35 2 (.slice (some ⟨g3, 0, none⟩) (k + 1) c3) (k + 1) (E.flatMap ShV.L)) ∧ Hid (∀ x ∈ E, x.Ok wr wr.heap.size) ∧ Hid (Below w5.heap.size w5 wr)) (fun _ u33 _ => m - (intOf u33).toNat)
 case atStart => exact ⟨_, 0, _, 1, [⟨s, A2, c2⟩], rfl, Nat.zero_le _, rfl, rfl, Lib.hid (fun x hx p e => by
  obtain rfl := List.mem_singleton.1 hx
  obtain ⟨b, o, e2, hb, _⟩ := HRD5.out.2 (by omega)
  have e : A2 = some p := e
  rw [e2] at e
  have := Option.some.inj e
  subst this
  have := HL10.out
  dsimp only; omega), Lib.hid ⟨rfl, rfl, fun j hj => absurd hj (Nat.not_lt_zero j)⟩, HO6, HD6, HB6⟩
 case round =>
  obtain ⟨wr, k, g3, c3, E, rfl, hk, rfl, rfl, HNE, HE, HO, HD, HBR⟩ := hrel
  by_cases hlt : k < m
  ·
   have hcr : wr.rangeAt w.heap.size 0 cl := fun q u hq => by rw [Nat.zero_add, (HCR5.out.below' HBR.out).cell]; exact hq
   have HBW := Lib.hid (HBW5.out.trans (HBR.out.mono HBW5.out.size))
   have HRK := Lib.hid (HRW.out wr HBW.out k hlt)
   rw [HRF.out] at HRK
   obtain ⟨sk, hsk⟩ : ∃ y, rf k = y := ⟨_, rfl⟩
   rw [hsk] at HRK
   have HSK := Lib.hid hsk
   unfold ShNew shL at HRK
   have i0 : (0 : Int) ≤ (k : Int) := by omega
   have i1 : (k : Int) < (m : Int) := by omega
   clear hsk
   go_wp2_with (first
    | (go_at_call 39; refine HRK.out.mono ?_; rintro e w7 ⟨g7, rfl, F7, hg7, b7⟩; have HF7 := Lib.hid (And.intro F7 hg7); have HB7 := Lib.hid b7; have HO7 := Lib.hid (own_below HO.out b7); have HBR7 := Lib.hid (HBR.out.trans (b7.mono HBR.out.size)); clear F7 hg7 b7)
    | (at_builtin; refine wpList_appN rfl (.tmp 36) (.tmp 42) 94 rfl w5.heap.size 35 _ 2 32 shT34 (some ⟨g3, 0, none⟩) (k + 1) c3 (E.flatMap ShV.L) [.slice (some ⟨g7, 0, none⟩) 16 16, .int .i64 sk.h] _ rfl rfl rfl HO7.out HBR7.out rfl (fun u hu => ShV.L_one ⟨sk, some ⟨g7, 0, none⟩, 16⟩ u hu) (by omega) (Nat.le_refl _) HBR7.out.size ?_; intro g8 c8 w8 own8 hb8 hg8; have HO8 := Lib.hid own8; have HB8 := Lib.hid hb8; have HG8 := Lib.hid hg8; clear own8 hb8 hg8)
    | (have tok := hcr; refine wpList_load_mid rfl _ (.tmp 4) rfl w.heap.size 0 rfl cl _ hcr Tryz.underlying23 rfl (by rw [HCL.out.2.1]; exact S.sizeCf) ?_; rw [HCL.out.1]; clear tok))
   go_roundw
   case rel =>
    have hg3 := (HO.out.lt g3 rfl).2
    have hF := HF7.out
    have hsz := HG8.out.1.size
    have hs7 := HB7.out.size
    have hlt7 := hF.1.lt
    refine ⟨_, k + 1, _, c8, E ++ [⟨sk, some ⟨g7, 0, none⟩, 16⟩], rfl, by omega, by go_num, rfl, Lib.hid (fun x hx p e => ?_), Lib.hid ⟨by rw [List.length_append, HE.out.1]; rfl, ?_, fun j hj => ?_⟩, Lib.hid (by rw [List.flatMap_append, List.flatMap_singleton]; exact HO8.out), Lib.hid (fun x hx => ?_), HB8⟩
    ·
     have hp : p.block ≠ g3 ∧ p.block < w7.heap.size := by
      rcases List.mem_append.1 hx with hx | hx
      ·
       obtain ⟨b, o, e2, hb, _⟩ := (HD.out x hx).2 (by omega)
       rw [e2] at e
       have := Option.some.inj e
       subst this
       exact ⟨HNE.out x hx _ e2, by dsimp only; omega⟩
      ·
       obtain rfl := List.mem_singleton.1 hx
       have := Option.some.inj e
       subst this
       dsimp only; omega
     rcases HG8.out.2 with h | h
     ·
      have : g3 = g8 := congrArg Addr.block (Option.some.inj h)
      omega
     ·
      omega
    ·
     rw [List.getD, List.getElem?_append_left (by rw [HE.out.1]; omega)]; exact HE.out.2.1
    ·
     by_cases e : j = k
     ·
      subst e
      rw [List.getD, List.getElem?_append_right (by rw [HE.out.1]; omega), HE.out.1, Nat.sub_self]
      exact HSK.out.symm
     ·
      rw [List.getD, List.getElem?_append_left (by rw [HE.out.1]; omega)]; exact HE.out.2.2 j (by omega)
    ·
     rcases List.mem_append.1 hx with hx | hx
     ·
      have h1 : Rd w7 w7.heap.size 1 x.A 16 (ivs (W.rowL 16 x.s.t)) := Rd.more (Rd.below (HD.out x hx) HB7.out) hs7
      exact (Rd.grown_far h1 HG8.out.1 (Nat.le_refl _) (fun q e h => HNE.out x hx q e (Option.some.inj h))).more hsz
     ·
      obtain rfl := List.mem_singleton.1 hx
      have h1 : Rd w7 w7.heap.size 1 (some ⟨g7, 0, none⟩) 16 (ivs (W.rowL 16 sk.t)) := hF.1.rdL
      exact (Rd.grown_far h1 HG8.out.1 (Nat.le_refl _) (fun q e h => by have h1 := Option.some.inj e; have h2 : q.block = g3 := Option.some.inj h; rw [← h1] at h2; dsimp only at h2; omega)).more hsz
   case measure => simp [intOf]; omega
  ·
   obtain rfl : k = m := by omega
   have HPS := Lib.hid (psum_any (some ⟨g3, 0, none⟩) (k + 1) c3 E wr.heap.size wr (Nat.le_refl _) HE.out.1 (by omega) (Rd.of_own HO.out) HD.out)
   have HSS : Hid (Cha.sumS (fun j => (E.getD j ⟨Cha.zero, none, 0⟩).s) (k + 1) = Cha.ofS l rs cf.d s k) := Lib.hid (Cha.sumS_of (rf := rf) HE.out.2.1 (Cha.add_zero HSR.out) k HE.out.2.2 _ rfl (fun j _ => by show Cha.addS _ (Cha.rowAt l rs cf.d j) = _; rw [HRF.out]))
   rw [HSS.out] at HPS
   obtain ⟨so, hso⟩ : ∃ y, Cha.ofS l rs cf.d s k = y := ⟨_, rfl⟩
   rw [hso] at HPS
   have HSO := Lib.hid hso
   unfold ShNew shL at HPS
   have r8 := HR8.out.below' HBR.out
   clear hso
   go_wp2_with (first
    | (have tok := r9; refine wpList_storeRow rfl _ (.tmp 8) (.tmp 46) rfl (l' := shL g9 so.h) r9 rfl rfl sizeSP rfl rfl ?_; intro w10 r10 g10 z10; clear tok)
    | (go_at_call 40; refine HPS.out.mono ?_; rintro e w9 ⟨g9, rfl, F9, hg9, b9⟩; have r9 := r8.below' b9))
   refine bodyPost_ret (resultRowS2 rfl _ _ r10 rfl Tryz.underlying35 sizeSP) rfl ?_
   rw [HSO.out]
   have hbw := HBW5.out.trans (HBR.out.mono HBW5.out.size)
   have hb9 := hbw.trans (b9.mono hbw.size)
   have h10 := H10.out
   have hlt := r8.lt
   exact ⟨g9, rfl, F9.keep (g10.block g9 F9.lt (fun e => by have := Option.some.inj e; omega)), by have := hbw.size; omega, hb9.grown g10 hb9.size (fun i hi => by have := Option.some.inj hi; omega)⟩
end Go.Proofs.YtfllkaeaanahmaaGreat
