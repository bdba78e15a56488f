/- Charge: Row, the program's and the specification's. Conditions: the tables and the rows are kept. -/
import Derived.Test.YtfllkaeaanahmaaGreatChaX
import Derived.Test.YtfllkaeaanahmaaGreatChaC
namespace Go.Proofs.YtfllkaeaanahmaaGreat
set_option linter.unusedVariables false
set_option linter.unusedSimpArgs false
open Go.RowKit
open W (FRow)
namespace Cha
theorem valid_small {cf : S.Str.Cfg} {l : List S.Str.Rw} (h : S.Str.Valid cf l) : ∀ r ∈ l, r.used.length ≤ 64 := fun r hr => by
 rcases (h.rows r hr).ok with rfl | ⟨_, _, h3, h4, h5, h6, h7⟩
 ·
  exact Nat.zero_le _
 ·
  have hp : 0 < S.Str.grp cf r.width := by
   cases hu : r.used with
   | nil => exact absurd hu h5
   | cons u us =>
    have h1 := h7 u (by rw [hu]; exact List.mem_cons_self ..)
    have h2 := h6.mem u (by rw [hu]; exact List.mem_cons_self ..)
    omega
  have hl := h6.len h7 (by omega)
  have hg : S.Str.grp cf r.width ≤ 64 := by
   unfold S.Str.grp
   split
   ·
    rename_i hf
    have hd := S.Str.Cfg.ok_d h.ok
    have := Int.tdiv_le_self r.width (show 0 ≤ cf.d - cf.sp by omega)
    omega
   ·
    omega
  omega
noncomputable def rowF (l : List Chk.Ck) (cf : S.Str.Cfg) (rs : List S.Str.Rw) (k : Int) : Option Sh := if S.Str.validB cf rs = true ∧ 0 ≤ k ∧ k < rs.length then some (rowAt l rs cf.d k.toNat) else none
end Cha
def ShRes (w : World) (o : Option Cha.Sh) (e : Ending) (w' : World) : Prop := match o with
 | some s => ∃ g, e = .returned (.tuple #[.agg (shL g s.h).toArray, .int .i64 0]) ∧ FRow w' g 16 s.t ∧ w.heap.size ≤ g ∧ Below w.heap.size w w'
 | none => e = .returned (.tuple #[.agg zShL.toArray, .int .i64 1]) ∧ Below w.heap.size w w'
theorem resultRowS2 {P : Program} {fn : Func} {p u : Tmp} {ty : TypeId} (h : fn.results = #[.cell p ty, .tmp u]) (tmps : Array Value) (w : World) {b t : Nat} {fs : Array Field} {l : List Value} (hr : IsRow w b t l)
  (hp : tmps.getD p undef = .pointer (some ⟨b, 0, none⟩)) (hu : P.underlying ty = some (.struct fs)) (hi : (P.info? ty).map (·.size) = some l.length) : (results fn tmps).run P w = .ok (.tuple #[.agg l.toArray, tmps.getD u undef]) w := resultRowT h tmps w hr hp hu hi
theorem cfg_box (cf : S.Str.Cfg) (w : World) : ∃ (ca : Array Value) (cl : List Value) (w0 : World), S.cfV cf = .agg ca ∧ cl.toArray = ca ∧ w.alloc (.cells ca 23) = w0 ∧ (IsRow w0 w.heap.size 23 cl ∧ cl.length = 6 ∧ cl[0]? = some (.int .i64 cf.d) ∧ cl[2]? = some (.int .i64 cf.rows)) ∧ Below w.heap.size w w0 ∧ w0.heap.size = w.heap.size + 1 :=
 ⟨_, S.cfL cf, _, rfl, rfl, rfl, ⟨IsRow.new _ _ _, rfl, rfl, rfl⟩, (Below.refl _ _).alloc (Nat.le_refl _) _, by simp⟩
set_option maxRecDepth 100000 in
set_option maxHeartbeats 3200000 in
theorem prow_bad {w : World} {B m cp : Nat} {A : Option Addr} {D : List S.RR} {rs : List S.Str.Rw} (h : S.RowsIn w B A m D rs) (hB : B ≤ w.heap.size) (hmc : m ≤ cp) (cf : S.Str.Cfg) (a : Value) (k : Int) (hv : ¬ (S.Str.validB cf rs = true ∧ 0 ≤ k ∧ k < rs.length)) :
  Calls Tryz.prog 17 #[S.cfV cf, .slice A m cp, a, .int .i64 k] w (ShRes w none) := by
 obtain ⟨ca, cl, w0, hca, hcl, hw0, hrow, hb0, hs0⟩ := cfg_box cf w
 have hmx := h.mx
 have HLN := Lib.hid h.len.2
 rw [h.len.2] at hv
 have HVA := Lib.hid (fun (W : World) (hW : Below w.heap.size w W) => S.valid_any cf ((h.more hB).below hW) hW.size hmc)
 rw [hca] at HVA ⊢
 obtain ⟨vb, hvb⟩ : ∃ x, S.Str.validB cf rs = x := ⟨_, rfl⟩
 rw [hvb] at HVA hv
 have HVB := Lib.hid hvb
 have HW := Lib.hid hw0
 have HB := Lib.hid (And.intro hb0 hs0)
 have HR := Lib.hid hrow.1
 have HCL := Lib.hid (And.intro hcl hrow.2.1)
 clear h hB hw0 hb0 hs0 hcl hca hvb hmc
 have hc : vb = false ∨ (vb = true ∧ k < 0) ∨ (vb = true ∧ 0 ≤ k ∧ (m : Int) ≤ k) := by
  cases vb with
  | false => exact .inl rfl
  | true =>
   rcases Int.lt_or_le k 0 with h | h
   ·
    exact .inr (.inl ⟨rfl, h⟩)
   ·
    exact .inr (.inr ⟨rfl, h, by
     rcases Int.lt_or_le k m with h2 | h2
     ·
      exact absurd ⟨rfl, h, h2⟩ hv
     ·
      exact h2⟩)
 have HROWS : Hid (vb = true → (m : Int) = cf.rows) := Lib.hid fun e => by have := (S.Str.validB_iff.1 (HVB.out.trans e)).len; rw [HLN.out] at this; exact this
 have HC2 := Lib.hid hrow.2.2.2
 clear hv hrow
 rcases hc with rfl | ⟨rfl, e1⟩ | ⟨rfl, e1, e2⟩
 all_goals
  go_enter Tryz.func17, Tryz.ntmps17
  go_upto_region 1 with (rw [HW.out]; refine wpList_allocRow rfl _ rfl _ infoSP ?_; intro w1 r1 b1 z1)
  have hb1 := HB.out.1.trans (b1.mono HB.out.1.size)
  have hcr : w1.rangeAt w.heap.size 0 cl := fun q u hq => by rw [Nat.zero_add, (HR.out.below' b1).cell]; exact hq
  have HB1 := Lib.hid hb1
  have HR1 := Lib.hid (HR.out.below' b1)
  have HZ : Hid (w.heap.size < w0.heap.size) := Lib.hid (by have := HB.out.2; omega)
  obtain ⟨b8, hb8⟩ : ∃ x, w0.heap.size = x := ⟨_, rfl⟩
  rw [hb8] at r1 HZ
  try rw [hb8]
  clear b1 z1 hb1 hb8
  go_upto_region 2 with (first
   | (go_at_call 38; refine (HVA.out _ HB1.out).mono ?_; rintro e w2 ⟨rfl, b2⟩; have HB2 := Lib.hid b2; have r2 := r1.below' b2; have k2 : w2.cell? ⟨w.heap.size, 2, none⟩ = some (.int .i64 cf.rows) := ((HR1.out.below' b2).cell 2).trans HC2.out; clear r1 b2)
   | (have tok := hcr; refine wpList_load_mid rfl _ (.tmp 4) rfl w.heap.size 0 rfl cl _ hcr Tryz.underlying23 rfl (by rw [HCL.out.2]; exact S.sizeCf) ?_; rw [HCL.out.1]; clear tok))
  clear hcr
  go_wp2_with (have tok := r2; refine wpList_storeRow rfl _ (.tmp 8) (.tmp 24) rfl (l' := zShL) r2 rfl rfl sizeSP rfl rfl ?_; intro w3 r3 g3 z3; clear tok)
  refine bodyPost_ret (resultRowS2 rfl _ _ r3 rfl Tryz.underlying35 sizeSP) rfl ?_
  have hb := HB1.out.trans (HB2.out.mono HB1.out.size)
  exact ⟨rfl, hb.grown g3 hb.size (fun i hi => by have := Option.some.inj hi; have := HZ.out; omega)⟩
set_option maxRecDepth 100000 in
set_option maxHeartbeats 3200000 in
theorem rrow_bad {w : World} {B m cp : Nat} {A : Option Addr} {D : List S.RR} {rs : List S.Str.Rw} (h : S.RowsIn w B A m D rs) (hB : B ≤ w.heap.size) (hmc : m ≤ cp) (cf : S.Str.Cfg) (a : Value) (k : Int) (hv : ¬ (S.Str.validB cf rs = true ∧ 0 ≤ k ∧ k < rs.length)) :
  Calls Tryz.prog 18 #[S.cfV cf, .slice A m cp, a, .int .i64 k] w (ShRes w none) := by
 obtain ⟨ca, cl, w0, hca, hcl, hw0, hrow, hb0, hs0⟩ := cfg_box cf w
 have hmx := h.mx
 have HLN := Lib.hid h.len.2
 rw [h.len.2] at hv
 have HVA := Lib.hid (fun (W : World) (hW : Below w.heap.size w W) => S.rvalid_any cf ((h.more hB).below hW) hW.size hmc)
 rw [hca] at HVA ⊢
 obtain ⟨vb, hvb⟩ : ∃ x, S.Str.validB cf rs = x := ⟨_, rfl⟩
 rw [hvb] at HVA hv
 have HVB := Lib.hid hvb
 have HW := Lib.hid hw0
 have HB := Lib.hid (And.intro hb0 hs0)
 have HR := Lib.hid hrow.1
 have HCL := Lib.hid (And.intro hcl hrow.2.1)
 clear h hB hw0 hb0 hs0 hcl hca hvb hmc
 have hc : vb = false ∨ (vb = true ∧ k < 0) ∨ (vb = true ∧ 0 ≤ k ∧ (m : Int) ≤ k) := by
  cases vb with
  | false => exact .inl rfl
  | true =>
   rcases Int.lt_or_le k 0 with h | h
   ·
    exact .inr (.inl ⟨rfl, h⟩)
   ·
    exact .inr (.inr ⟨rfl, h, by
     rcases Int.lt_or_le k m with h2 | h2
     ·
      exact absurd ⟨rfl, h, h2⟩ hv
     ·
      exact h2⟩)
 have HROWS : Hid (vb = true → (m : Int) = cf.rows) := Lib.hid fun e => by have := (S.Str.validB_iff.1 (HVB.out.trans e)).len; rw [HLN.out] at this; exact this
 have HC2 := Lib.hid hrow.2.2.2
 clear hv hrow
 rcases hc with rfl | ⟨rfl, e1⟩ | ⟨rfl, e1, e2⟩
 all_goals
  go_enter Tryz.func18, Tryz.ntmps18
  go_upto_region 1 with (rw [HW.out]; refine wpList_allocRow rfl _ rfl _ infoSR ?_; intro w1 r1 b1 z1)
  have hb1 := HB.out.1.trans (b1.mono HB.out.1.size)
  have hcr : w1.rangeAt w.heap.size 0 cl := fun q u hq => by rw [Nat.zero_add, (HR.out.below' b1).cell]; exact hq
  have HB1 := Lib.hid hb1
  have HR1 := Lib.hid (HR.out.below' b1)
  have HZ : Hid (w.heap.size < w0.heap.size) := Lib.hid (by have := HB.out.2; omega)
  obtain ⟨b8, hb8⟩ : ∃ x, w0.heap.size = x := ⟨_, rfl⟩
  rw [hb8] at r1 HZ
  try rw [hb8]
  clear b1 z1 hb1 hb8
  have e3 := HROWS.out
  try (have e3 := e3 (by first | rfl | trivial); rw [e3] at e2)
  clear e3
  go_upto_region 2 with (first
   | (go_at_call 41; refine (HVA.out _ HB1.out).mono ?_; rintro e w2 ⟨rfl, b2⟩; have HB2 := Lib.hid b2; have r2 := r1.below' b2; have k2 : w2.cell? ⟨w.heap.size, 2, none⟩ = some (.int .i64 cf.rows) := ((HR1.out.below' b2).cell 2).trans HC2.out; clear r1 b2)
   | (have tok := hcr; refine wpList_load_mid rfl _ (.tmp 4) rfl w.heap.size 0 rfl cl _ hcr Tryz.underlying23 rfl (by rw [HCL.out.2]; exact S.sizeCf) ?_; rw [HCL.out.1]; clear tok))
  clear hcr
  go_wp2_with (have tok := r2; refine wpList_storeRow rfl _ (.tmp 8) (.tmp 35) rfl (l' := zShL) r2 rfl rfl sizeSR rfl rfl ?_; intro w3 r3 g3 z3; clear tok)
  refine bodyPost_ret (resultRowS2 rfl _ _ r3 rfl Tryz.underlying39 sizeSR) rfl ?_
  have hb := HB1.out.trans (HB2.out.mono HB1.out.size)
  exact ⟨rfl, hb.grown g3 hb.size (fun i hi => by have := Option.some.inj hi; have := HZ.out; omega)⟩
set_option maxRecDepth 100000 in
set_option maxHeartbeats 3200000 in
theorem prow_ok {wz w : World} (hz : Below wz.heap.size wz w) {F T : Nat → Prop} {a : Nat} {t : TM} {l : List Chk.Ck} (ht : TAt wz F T a t l) {B m cp : Nat} {A : Option Addr} {D : List S.RR} {rs : List S.Str.Rw} (h : S.RowsIn w B A m D rs) (hB : B ≤ w.heap.size) (hmc : m ≤ cp) (cf : S.Str.Cfg) (hv : S.Str.validB cf rs = true) (k : Nat) (hk : k < m) :
  Calls Tryz.prog 17 #[S.cfV cf, .slice A m cp, .pointer (some ⟨a, 0, none⟩), .int .i64 (k : Int)] w (ShRes w (some (Cha.rowAt l rs cf.d k))) := by
 obtain ⟨ca, cl, w0, hca, hcl, hw0, hrow, hb0, hs0⟩ := cfg_box cf w
 have hV := S.Str.validB_iff.1 hv
 have hmx := h.mx
 have hd := S.Str.Cfg.ok_d hV.ok
 have hln := h.len.2
 have hrl := hV.len
 have hra : S.RowsAt w B A m D rs := h.at_ (by omega) (fun r hr => by have := Cha.valid_small hV r hr; omega)
 have hu : (rs.getD k S.Str.free).used.length ≤ 64 := by
  rw [List.getD, List.getElem?_eq_getElem (by omega)]
  exact Cha.valid_small hV _ (List.getElem_mem (by omega))
 have HVA := Lib.hid (fun (W : World) (hW : Below w.heap.size w W) => S.valid_any cf ((h.more hB).below hW) hW.size hmc)
 rw [hv] at HVA
 have HRW := Lib.hid (fun (W : World) (hW : Below w.heap.size w W) => row_any (cp := cp) (hz.trans (hW.mono hz.size)) ht ((hra.more hB).below hW) hW.size cf (by omega) (by omega) k hk (by omega))
 rw [hca] at HVA HRW ⊢
 obtain ⟨s, hs⟩ : ∃ s, Cha.rowAt l rs cf.d k = s := ⟨_, rfl⟩
 rw [hs] at HRW ⊢
 have HW := Lib.hid hw0
 have HB := Lib.hid (And.intro hb0 hs0)
 have HR := Lib.hid hrow.1
 have HCL := Lib.hid (And.intro hcl hrow.2)
 have e1 : (0 : Int) ≤ (k : Int) := by omega
 have e2 : (k : Int) < (m : Int) := by omega
 clear h hB hw0 hb0 hs0 hcl hca hmc hz ht hra hu hd hV hrow hs hrl hv hln hk
 go_enter Tryz.func17, Tryz.ntmps17
 go_upto_region 1 with (rw [HW.out]; refine wpList_allocRow rfl _ rfl _ infoSP ?_; intro w1 r1 b1 z1)
 have hb1 := HB.out.1.trans (b1.mono HB.out.1.size)
 have hcr : w1.rangeAt w.heap.size 0 cl := fun q u hq => by rw [Nat.zero_add, (HR.out.below' b1).cell]; exact hq
 have HB1 := Lib.hid hb1
 have HR1 := Lib.hid (HR.out.below' b1)
 have HZ : Hid (w.heap.size < w0.heap.size) := Lib.hid (by have := HB.out.2; omega)
 obtain ⟨b8, hb8⟩ : ∃ x, w0.heap.size = x := ⟨_, rfl⟩
 rw [hb8] at r1 HZ
 try rw [hb8]
 clear b1 z1 hb1 hb8
 go_upto_region 3 with (first
  | (go_at_call 38; refine (HVA.out _ HB1.out).mono ?_; rintro e w2 ⟨rfl, b2⟩; have HB2 := Lib.hid b2; have r2 := r1.below' b2; have hcr2 : w2.rangeAt w.heap.size 0 cl := fun q u hq => (by rw [Nat.zero_add, (HR1.out.below' b2).cell]; exact hq); clear r1 b2 hcr)
  | (have tok := hcr; refine wpList_load_mid rfl _ (.tmp 4) rfl w.heap.size 0 rfl cl _ hcr Tryz.underlying23 rfl (by rw [HCL.out.2.1]; exact S.sizeCf) ?_; rw [HCL.out.1]; clear tok))
 go_wp2_with (first
  | (have tok := r3; refine wpList_storeRow rfl _ (.tmp 8) (.tmp 29) rfl (l' := shL g8 s.h) r3 rfl rfl sizeSP rfl rfl ?_; intro w4 r4 g4 z4; clear tok)
  | (go_at_call 39; refine (HRW.out _ (HB1.out.trans (HB2.out.mono HB1.out.size))).mono ?_; rintro e w3 ⟨g8, rfl, F3, hg8, b3⟩; have r3 := r2.below' b3)
  | (have tok := hcr2; refine wpList_load_mid rfl _ (.tmp 4) rfl w.heap.size 0 rfl cl _ hcr2 Tryz.underlying23 rfl (by rw [HCL.out.2.1]; exact S.sizeCf) ?_; rw [HCL.out.1]; clear tok))
 refine bodyPost_ret (resultRowS2 rfl _ _ r4 rfl Tryz.underlying35 sizeSP) rfl ?_
 have hb2 := HB1.out.trans (HB2.out.mono HB1.out.size)
 have hb3 := hb2.trans (b3.mono hb2.size)
 have hz := HZ.out
 have hlt := r2.lt
 exact ⟨g8, rfl, F3.keep (g4.block g8 F3.lt (fun e => by have := Option.some.inj e; omega)), by have := hb2.size; omega, hb3.grown g4 hb3.size (fun i hi => by have := Option.some.inj hi; omega)⟩
set_option maxRecDepth 100000 in
set_option maxHeartbeats 12800000 in
theorem rrow_ok {wz w : World} (hz : Below wz.heap.size wz w) {F T : Nat → Prop} {a : Nat} {t : RM} {l : List Chk.Ck} (ht : RAt wz F T a t l) {B m cp : Nat} {A : Option Addr} {D : List S.RR} {rs : List S.Str.Rw} (h : S.RowsIn w B A m D rs) (hB : B ≤ w.heap.size) (hmc : m ≤ cp) (cf : S.Str.Cfg) (hv : S.Str.validB cf rs = true) (k : Nat) (hk : k < m) :
  Calls Tryz.prog 18 #[S.cfV cf, .slice A m cp, .pointer (some ⟨a, 0, none⟩), .int .i64 (k : Int)] w (ShRes w (some (Cha.rowAt l rs cf.d k))) := by
 obtain ⟨ca, cl, w0, hca, hcl, hw0, hrow, hb0, hs0⟩ := cfg_box cf w
 have hV := S.Str.validB_iff.1 hv
 have hmx := h.mx
 have hd := S.Str.Cfg.ok_d hV.ok
 have hln := h.len.2
 have hrl := hV.len
 have hra : S.RowsAt w B A m D rs := h.at_ (by omega) (fun r hr => by have := Cha.valid_small hV r hr; omega)
 have hu : (rs.getD k S.Str.free).used.length ≤ 64 := by
  rw [List.getD, List.getElem?_eq_getElem (by omega)]
  exact Cha.valid_small hV _ (List.getElem_mem (by omega))
 have HVA := Lib.hid (fun (W : World) (hW : Below w.heap.size w W) => S.rvalid_any cf ((h.more hB).below hW) hW.size hmc)
 rw [hv] at HVA
 have hrows : (m : Int) = cf.rows := by omega
 obtain ⟨b, off, x, rfl, hbb, hD, hl, hok, hrg, c0, _, c2⟩ := hra.at hk
 have hrw : rs.getD k S.Str.free = x.r := by rw [List.getD, hl]; rfl
 unfold Cha.rowAt
 rw [hrw] at hu ⊢
 have hblt := Nat.lt_of_lt_of_le hbb hB
 have HX := Lib.hid (hok.more hB)
 obtain ⟨⟨cd, wd, us⟩, xA, xk⟩ := x
 unfold S.RR.v at c2
 dsimp only at c0 c2 hu ⊢
 unfold Cha.rowS
 obtain ⟨n, hn⟩ : ∃ n, us.length = n := ⟨_, rfl⟩
 rw [hn] at c2 hu ⊢
 have HN := Lib.hid hn
 rw [hca] at HVA ⊢
 have HW := Lib.hid hw0
 have HB := Lib.hid (And.intro hb0 hs0)
 have HR := Lib.hid hrow.1
 have HCL := Lib.hid (And.intro hcl hrow.2)
 have e1 : (0 : Int) ≤ (k : Int) := by omega
 have e2 : (k : Int) < (m : Int) := by omega
 have e3 : (k : Int) < cf.rows := by omega
 obtain ⟨d, hdd⟩ : ∃ d, cf.d = d := ⟨_, rfl⟩
 have HCD : Hid (cl[0]? = some (.int .i64 d) ∧ cl[2]? = some (.int .i64 cf.rows)) := Lib.hid ⟨by rw [← hdd]; exact hrow.2.2.1, hrow.2.2.2⟩
 rw [hdd] at hd ⊢
 have HD := Lib.hid hd.1
 have HC := Lib.hid (And.intro hblt c2)
 have HZZ := Lib.hid hz
 have HLV := Lib.hid (fun (W : World) (hW : Below wz.heap.size wz W) (r g : Int) => rlive_any (ht.below hW) r g)
 have HGT : Hid (∀ (W : World) (hW : Below wz.heap.size wz W) (r g : Int) (i : Nat) (id : Int), i < (Chk.live l r g).length → (Chk.live l r g).getD i 0 = id → Calls Tryz.prog 26 #[.pointer (some ⟨a, 0, none⟩), .int .i64 id] W (GetOk (Cha.ckOf l id) W)) := Lib.hid fun W hW r g i id hi hid => by
  obtain ⟨j, h1, h2⟩ := Cha.live_pos (l := l) (r := r) (g := g) (id := id) (by rw [← hid]; exact Cha.getD_mem hi)
  rw [h2]
  exact rget_some (ht.below hW) id j h1
 have HCK : Hid (∀ (r g : Int) (i : Nat) (id : Int), i < (Chk.live l r g).length → (Chk.live l r g).getD i 0 = id → Chk.CkOk (Cha.ckOf l id)) := Lib.hid fun r g i id hi hid => by
  obtain ⟨j, h1, h2⟩ := Cha.live_pos (l := l) (r := r) (g := g) (id := id) (by rw [← hid]; exact Cha.getD_mem hi)
  rw [h2]
  exact ht.inv.ok _ (List.mem_of_getElem? (Chk.nth_get (Chk.pos_lt h1).1))
 clear h hB hw0 hb0 hs0 hcl hca hmc hz ht hra hd hV hrow hrl hv hln hk hD hl hok hrg c0 c2 hbb hblt hn hrw hdd hrows
 go_enter Tryz.func18, Tryz.ntmps18
 go_upto_region 1 with (rw [HW.out]; refine wpList_allocRow rfl _ rfl _ infoSR ?_; intro w1 r1 b1 z1)
 have hb1 := HB.out.1.trans (b1.mono HB.out.1.size)
 have hcr : w1.rangeAt w.heap.size 0 cl := fun q u hq => by rw [Nat.zero_add, (HR.out.below' b1).cell]; exact hq
 have HB1 := Lib.hid hb1
 have HR1 := Lib.hid (HR.out.below' b1)
 have HZ : Hid (w.heap.size < w0.heap.size) := Lib.hid (by have := HB.out.2; omega)
 obtain ⟨bR, hbR⟩ : ∃ x, w0.heap.size = x := ⟨_, rfl⟩
 rw [hbR] at r1 HZ
 try rw [hbR]
 clear b1 z1 hb1 hbR
 go_upto_region 3 with (first
  | (go_at_call 41; refine (HVA.out _ HB1.out).mono ?_; rintro e w2 ⟨rfl, b2⟩; have HB2 := Lib.hid (HB1.out.trans (b2.mono HB1.out.size)); have HR2 := Lib.hid (HR1.out.below' b2); have HRR := Lib.hid (r1.below' b2); have k2 : w2.cell? ⟨w.heap.size, 2, none⟩ = some (.int .i64 cf.rows) := (HR2.out.cell 2).trans HCD.out.2; clear r1 b2 hcr)
  | (have tok := hcr; refine wpList_load_mid rfl _ (.tmp 4) rfl w.heap.size 0 rfl cl _ hcr Tryz.underlying23 rfl (by rw [HCL.out.2.1]; exact S.sizeCf) ?_; rw [HCL.out.1]; clear tok))
 clear k2
 have HNN := Lib.hid (rnone34 w2)
 go_upto_region 4 with (first
  | (have tok := r3; refine wpList_storeRow rfl _ (.tmp 10) (.tmp 36) rfl (l' := [.slice (some ⟨g8, 0, none⟩) 16 16, .int .i64 0]) r3 rfl rfl sizeSR rfl rfl ?_; intro w4 r4 g4 z4; clear tok)
  | (go_at_call 46; refine HNN.out.mono ?_; rintro e wn ⟨g8, rfl, F2, hg8, b2⟩)
  | (refine wpList_allocRow rfl _ rfl _ infoSR ?_; intro w3 r3 b3 z3))
 have hb4 : Below wn.heap.size wn w4 := b3.grown g4 b3.size (fun i hi => by have := Option.some.inj hi; omega)
 have hb14 := b2.trans (hb4.mono b2.size)
 have HB4 := Lib.hid (HB2.out.trans (hb14.mono HB2.out.size))
 have HR4 := Lib.hid (HRR.out.below' hb14)
 have HCF4 := Lib.hid (HR2.out.below' hb14)
 obtain ⟨bx, hbx⟩ : ∃ y, wn.heap.size = y := ⟨_, rfl⟩
 rw [hbx] at r4
 have HBX : Hid (BoxS 39 w4 bx g8 Cha.zero) := Lib.hid ⟨r4, F2.below hb4, by have := F2.lt; omega⟩
 have HXX : Hid (w.heap.size < bR ∧ bR < g8 ∧ g8 < bx) := Lib.hid ⟨HZ.out, by have := HRR.out.lt; omega, by have := F2.lt; omega⟩
 have k2 : w4.cell? ⟨b, off + k * 3 + 2, none⟩ = some (.slice xA n xk) := (HB4.out.cell (p := ⟨b, off + k * 3 + 2, none⟩) HC.out.1).trans HC.out.2
 have kd : w4.cell? ⟨w.heap.size, 0, none⟩ = some (.int .i64 d) := (HCF4.out.cell 0).trans HCD.out.1
 try rw [hbx]
 clear r3 b3 z3 g4 z4 hb4 hb14 F2 hg8 b2 r4 hbx HNN
 try simp only [PT]
 by_cases h0 : n = 0
 ·
  subst h0
  have hs := HBX.out
  have hrng : w4.rangeAt bx 0 (shL g8 0) := fun q u hq => by rw [Nat.zero_add, hs.row.cell]; exact hq
  unfold shL at hrng
  have r9 := HR4.out
  clear hs
  go_wp2_with (first
   | (refine wpList_load_mid rfl _ (.tmp 10) rfl bx 0 rfl [.slice (some ⟨g8, 0, none⟩) 16 16, .int .i64 0] _ hrng Tryz.underlying39 rfl sizeSR ?_)
   | (refine wpList_storeRow rfl _ (.tmp 8) (.tmp 45) rfl (l' := [.slice (some ⟨g8, 0, none⟩) 16 16, .int .i64 0]) r9 rfl rfl sizeSR rfl rfl ?_; intro w10 r10 g10 z10))
  refine bodyPost_ret (resultRowS2 rfl _ _ r10 rfl Tryz.underlying39 sizeSR) rfl ?_
  have hx := HXX.out
  have hb4 := HB4.out
  exact ⟨g8, rfl, HBX.out.ten.keep (g10.block g8 HBX.out.ten.lt (fun e => by have := Option.some.inj e; omega)), by omega, hb4.grown g10 hb4.size (fun i hi => by have := Option.some.inj hi; omega)⟩
 ·
  have HEV := Lib.hid (fun V => W.refEven_own d n (by omega) (by omega) (by have := HD.out; omega) (by have := HD.out; omega) V)
  have HER : Hid (∀ j, 0 ≤ W.evenOf d n j ∧ W.evenOf d n j ≤ 1000000000) := Lib.hid fun j => by
   have := Cha.even_range (k := j) (T := d) (by have := HD.out; omega) (by have := HD.out; omega) (show 0 < n by omega)
   have := HD.out
   omega
  have e4 : ((n : Int) == 0) = false := by rw [beq_eq_false_iff_ne]; omega
  clear h0
  go_upto_region 9 with (go_at_call 47; refine (HEV.out _).mono ?_; rintro e w5 ⟨Ac, kc, rfl, own5, b5⟩)
  have HO5 := Lib.hid own5
  have HS5 := Lib.hid (HBX.out.below b5)
  have HXL : Hid (∀ x, two bx g8 x → x < w4.heap.size) := Lib.hid fun x hx => by have := HBX.out.lt; rcases hx with rfl | rfl <;> omega
  have HB5 := Lib.hid (HB4.out.trans (b5.mono HB4.out.size))
  have HR5 := Lib.hid (HR4.out.below' b5)
  clear own5 b5 kd k2 HEV
  go_loopw [14] (fun u14 wx => ∃ (wr : World) (j : Nat), wr = wx ∧ j ≤ n ∧ u14 = .int .i64 (j : Int) ∧ Hid (BoxS 39 wr bx g8 (Cha.usedS l k us d j)) ∧ Hid (Keep (two bx g8) w5 wr)) (fun u14 _ => n - (intOf u14).toNat)
  case atStart => exact ⟨_, 0, rfl, Nat.zero_le _, rfl, HS5, Lib.hid (Keep.refl _ _)⟩
  case round =>
   obtain ⟨wr, j, rfl, hj, rfl, HSR, HKR⟩ := hrel
   have hbw : Below w.heap.size w wr := Below.then_keep HB5.out HKR.out (fun x hx => by have := HXX.out; rcases hx with rfl | rfl <;> omega) (Nat.le_refl _)
   have HBW := Lib.hid hbw
   clear hbw
   by_cases hlt : j < n
   ·
    have hju : j < us.length := by rw [HN.out]; exact hlt
    obtain ⟨bu, ou, hA, hbu, -, hru⟩ := HX.out.at (k := j) hju
    dsimp only at hA hru
    subst hA
    have HUS : Hid (Cha.usedS l k us d (j + 1) = Cha.stripeS l k us[j].g (W.evenOf d n j) (Cha.usedS l k us d j)) := Lib.hid (by
     rw [← HN.out]
     show Cha.stripeS l k (us.getD j ⟨0, 0, 0⟩).g _ _ = _
     rw [List.getD, List.getElem?_eq_getElem hju]; rfl)
    obtain ⟨ug, hug⟩ : ∃ y, us[j].g = y := ⟨_, rfl⟩
    rw [hug] at hru HUS
    have kg : wr.cell? ⟨bu, ou + j * 3, none⟩ = some (.int .i64 ug) := (HBW.out.cell (p := ⟨bu, ou + j * 3, none⟩) hbu).trans hru
    obtain ⟨sa, hsa⟩ : ∃ y, Cha.usedS l k us d j = y := ⟨_, rfl⟩
    rw [hsa] at HUS HSR
    have hce := HER.out j
    obtain ⟨bc, oc, rfl, hbc, hcc⟩ := (Rd.of_own (own_keepS HO5.out HKR.out HXL.out)).int (W.rowL_len n _) (by omega)
    have hck1 := hcc j hlt
    have hfr := own_fr HO5.out _ rfl
    rw [W.rowL_get _ hlt] at hck1
    obtain ⟨ck, hck⟩ : ∃ y, W.evenOf d n j = y := ⟨_, rfl⟩
    rw [hck] at HUS hce hck1
    have HCE := Lib.hid hce
    have HCC := Lib.hid (And.intro hck1 (And.intro hbc hfr))
    have i0 : (0 : Int) ≤ (j : Int) := by omega
    have i1 : (j : Int) < (n : Int) := by omega
    have hwz : Below wz.heap.size wz wr := HZZ.out.trans (HBW.out.mono HZZ.out.size)
    have HWZ := Lib.hid hwz
    have HLR := Lib.hid (HLV.out wr hwz k ug)
    unfold Cha.stripeS at HUS
    obtain ⟨xs, hxs⟩ : ∃ y, Chk.live l k ug = y := ⟨_, rfl⟩
    obtain ⟨nl, hnl⟩ : ∃ y, xs.length = y := ⟨_, rfl⟩
    have HXS := Lib.hid (And.intro hxs hnl)
    have hnl32 : nl ≤ 32 := by rw [← hnl, ← hxs]; exact Cha.live_le l k ug
    rw [hxs, hnl] at HUS HLR
    clear hju hbu hru hug hsa hck hce hcc hck1 hbc hfr hwz hxs hnl
    go_upto_region 12 with (go_at_call 48; refine HLR.out.mono ?_; rintro e w6 ⟨A6, c6, rfl, own6, b6⟩)
    have HO6 := Lib.hid own6
    have HB6 := Lib.hid b6
    have HS6 := Lib.hid (HSR.out.below b6)
    have kc : w6.cell? ⟨bc, oc + j, none⟩ = some (.int .i64 ck) := (b6.cell (p := ⟨bc, oc + j, none⟩) HCC.out.2.1).trans HCC.out.1
    clear own6 b6 kg
    by_cases hz0 : nl = 0
    ·
     subst hz0
     have hus := HUS.out
     rw [if_pos rfl] at hus
     have HU := Lib.hid hus
     obtain ⟨q1, q2, q3⟩ := HS6.out.cells
     have HPUT := Lib.hid (HS6.out.setH (wrap64 (sa.h + ck)))
     obtain ⟨hh, hhh⟩ : ∃ y, sa.h = y := ⟨_, rfl⟩
     rw [hhh] at q2 HPUT
     have HHH := Lib.hid hhh
     clear hus hhh
     go_upto_region 13 with fail
     go_region
     all_goals go_wp2_with fail
     go_roundw
     case rel => exact ⟨_, j + 1, rfl, by omega, by go_num, Lib.hid (by rw [HU.out, HHH.out]; first | exact HPUT.out | exact HPUT.out.drewN _), Lib.hid (by first | exact keep_two0 (HKR.out.then_below HB6.out) | exact (keep_two0 (HKR.out.then_below HB6.out)).drewN _)⟩
     case measure => simp [intOf]; omega
    ·
     have hus := HUS.out
     rw [if_neg hz0] at hus
     have HU := Lib.hid hus
     have HE2 := Lib.hid (W.refEven_own ck nl (by omega) (by omega) HCE.out.1 (by have := HCE.out.2; omega) w6)
     have e5 : ((nl : Int) == 0) = false := by rw [beq_eq_false_iff_ne]; omega
     clear hus
     go_upto_region 16 with (go_at_call 47; refine HE2.out.mono ?_; rintro e w7 ⟨Ae, ke, rfl, own7, b7⟩)
     have HO7 := Lib.hid own7
     have HB7 := Lib.hid (HB6.out.trans (b7.mono HB6.out.size))
     have HS7 := Lib.hid (HS6.out.below b7)
     have HO67 := Lib.hid (own_below HO6.out b7)
     have HSM : Hid (∀ x, two bx g8 x → x < wr.heap.size) := Lib.hid fun x hx => by have := HSR.out.lt; rcases hx with rfl | rfl <;> omega
     clear own7 b7 kc
     go_loopw [18] (fun u18 wx => ∃ (wi : World) (i : Nat), wi = wx ∧ i ≤ nl ∧ u18 = .int .i64 (i : Int) ∧ Hid (BoxS 39 wi bx g8 ⟨Cha.liveS l xs ck sa.t i, sa.h⟩) ∧ Hid (Keep (two bx g8) w7 wi)) (fun u18 _ => nl - (intOf u18).toNat)
     case atStart => exact ⟨_, 0, rfl, Nat.zero_le _, rfl, HS7, Lib.hid (Keep.refl _ _)⟩
     case round =>
      obtain ⟨wi, i, rfl, hi, rfl, HSI, HKI⟩ := hrel
      by_cases hli : i < nl
      ·
       have hbi : Below wz.heap.size wz wi := Below.then_keep (HWZ.out.trans (HB7.out.mono HWZ.out.size)) HKI.out (fun x hx => by have := HXX.out; have := HZZ.out.size; rcases hx with rfl | rfl <;> omega) (Nat.le_refl _)
       obtain ⟨bl, ol, rfl, _, hc⟩ := (Rd.of_own (own_keepS HO67.out HKI.out HSM.out)).int HXS.out.2 (by omega)
       have hcl := hc i hli
       obtain ⟨id, hid⟩ : ∃ y, xs.getD i 0 = y := ⟨_, rfl⟩
       rw [hid] at hcl
       have HG := Lib.hid (HGT.out wi hbi k ug i id (by rw [HXS.out.1, HXS.out.2]; exact hli) (by rw [HXS.out.1]; exact hid))
       have HCO := Lib.hid (HCK.out k ug i id (by rw [HXS.out.1, HXS.out.2]; exact hli) (by rw [HXS.out.1]; exact hid))
       have HLS : Hid (Cha.liveS l xs ck sa.t (i + 1) = Cha.chunkS (Cha.ckOf l id) (W.evenOf ck nl i) (Cha.liveS l xs ck sa.t i)) := Lib.hid (by rw [← hid, ← HXS.out.2]; rfl)
       obtain ⟨c, hc'⟩ : ∃ c, Cha.ckOf l id = c := ⟨_, rfl⟩
       rw [hc'] at HG HCO HLS
       obtain ⟨be, oe, rfl, hbe, hce⟩ := (Rd.of_own (own_keepS HO7.out HKI.out (fun x hx => by have := HSM.out x hx; have := HB6.out.size; omega))).int (W.rowL_len nl _) (by omega)
       have hcv := hce i hli
       rw [W.rowL_get _ hli] at hcv
       have hfe := own_fr HO7.out _ rfl
       obtain ⟨cv, hcv2⟩ : ∃ y, W.evenOf ck nl i = y := ⟨_, rfl⟩
       rw [hcv2] at HLS hcv
       obtain ⟨ti, hti⟩ : ∃ y, Cha.liveS l xs ck sa.t i = y := ⟨_, rfl⟩
       rw [hti] at HLS HSI
       obtain ⟨hh, hhh⟩ : ∃ y, sa.h = y := ⟨_, rfl⟩
       rw [hhh] at HSI
       have HHH := Lib.hid hhh
       have HEE := Lib.hid (And.intro hcv (And.intro hbe hfe))
       unfold GetOk at HG
       obtain ⟨m', hm'⟩ : ∃ y, c.refs.length = y := ⟨_, rfl⟩
       rw [hm'] at HG
       have HM := Lib.hid hm'
       have HLN := Lib.hid (fun v' => ckCells_len (c := c) HCO.out.dg v')
       have HALL : Hid (∀ v : Value, v.oneCell' = true → (ckCells c v).all (·.oneCell') = true) := Lib.hid fun v hv => by rw [List.all_eq_true]; exact fun u hu => ckCells_one c v hv u hu
       have i2 : (0 : Int) ≤ (i : Int) := by omega
       have i3 : (i : Int) < (nl : Int) := by omega
       clear hbi hc hid hc' hcv2 hti hm' hcv hbe hfe hce hhh
       go_upto_region 19 with (first
        | (have tok := rz8; refine wpList_storeRow rfl _ (.tmp 19) (.tmp 103) rfl (l' := ckCells c (.slice A8 m' k8)) rz8 rfl rfl (by rw [HLN.out]; exact sizeCk) (by rw [HLN.out]; rfl) (HALL.out _ rfl) ?_; intro w9 rz9 g9 z9; clear tok)
        | (go_at_call 26; refine HG.out.mono ?_; rintro e wg ⟨A8, k8, rfl, own8, bg⟩)
        | (refine wpList_allocRow rfl _ rfl _ infoCk' ?_; intro w8 rz8 b8 z8))
       have hb9 : Below wg.heap.size wg w9 := b8.grown g9 b8.size (fun i hi => by have := Option.some.inj hi; omega)
       have HB9 := Lib.hid (bg.trans (hb9.mono bg.size))
       have hrd := ((Rd.of_own own8).below hb9).more hb9.size
       have hfa := own_fr own8
       obtain ⟨cs, hcs⟩ : ∃ cs, ckCells c (.slice A8 m' k8) = cs := ⟨_, rfl⟩
       have HCS : Hid (ckCells c (.slice A8 m' k8) = cs ∧ cs.length = 23) := Lib.hid ⟨hcs, by rw [← hcs]; exact HLN.out _⟩
       rw [hcs] at rz9
       have HS9 := Lib.hid (HSI.out.below HB9.out)
       obtain ⟨b19, hb19⟩ : ∃ y, wg.heap.size = y := ⟨_, rfl⟩
       rw [hb19] at rz9
       try rw [hb19]
       have H19 : Hid (IsRow w9 b19 68 cs ∧ b19 ≠ g8) := Lib.hid ⟨rz9, by have := HSI.out.lt; have := bg.size; omega⟩
       have HGE : Hid (be < w9.heap.size ∧ be ≠ g8 ∧ w9.cell? ⟨be, oe + i, none⟩ = some (.int .i64 cv)) := Lib.hid ⟨by have := HEE.out.2.1; have := HB9.out.size; omega, by have := HEE.out.2.2; have h1 := HSR.out.lt; have h2 := HB6.out.size; have h3 : w6.heap.size ≤ be := HEE.out.2.2; omega, (HB9.out.cell (p := ⟨be, oe + i, none⟩) HEE.out.2.1).trans HEE.out.1⟩
       have HCH : Hid (∀ W, Keep (fun x => x = g8) w9 W → W.heap = w9.heap → Calls Tryz.prog 49 #[.agg #[.slice (some ⟨g8, 0, none⟩) 16 16, .int .i64 hh], .agg cs.toArray, .int .i64 cv] W fun e w' => e = .returned (.tuple #[]) ∧ FRow w' g8 16 (Cha.chunkS c cv ti) ∧ Keep (fun x => x = g8) W w') := Lib.hid fun W hW hE =>
        rchunk_any c HCO.out A8 m' k8 HM.out cv hh g8 ti w9.heap.size W hW.size (hrd.keep fun p _ => World.cell?_of_block (by rw [hE])) (fun p e => by have := hfa p e; have := HSI.out.lt; omega) (HS9.out.ten.keep (by rw [hE])) cs HCS.out.1
       clear hcl own8 rz8 b8 z8 g9 z9 rz9 bg hb9 hrd hfa hcs hb19
       try simp only [PT]
       have hv0 : Keep (fun x => x = g8) w9 w9.drew := (Keep.refl _ _).drew
       refine wp_region_held_drew (S := fun W => Keep (fun x => x = g8) w9 W) (by kernel_rfl) (hv0) (fun hHeld => ?_)
       refine wpAnyH_take (i := 0) (oi := { dst := some 105, op := Op.load 39 (Operand.tmp 10), type := 39, pos := "ref.go:71", after := #[], guard := none }) (v := (.agg #[.slice (some ⟨g8, 0, none⟩) 16 16, .int .i64 hh])) rfl (by kernel_rfl) (by kernel_rfl) (by kernel_rfl) (fun _ _ _ h => h) (yieldsIf_load_mid (by rfl) 39 (.tmp 10) rfl bx 0 rfl [.slice (some ⟨g8, 0, none⟩) 16 16, .int .i64 hh] _ (fun W hW q v hv => by rw [Nat.zero_add]; exact (hW.cell (p := ⟨bx, q, none⟩) HS9.out.lt.1 (fun e => HS9.out.ne e)).trans ((HS9.out.row.cell q).trans hv)) Tryz.underlying39 rfl sizeSR) (by assumption) ?_
       try simp only [PT]
       refine wpAnyH_take (i := 1) (oi := { dst := some 106, op := Op.load 68 (Operand.tmp 19), type := 68, pos := "ref.go:71", after := #[], guard := none }) (v := (.agg cs.toArray)) rfl (by kernel_rfl) (by kernel_rfl) (by kernel_rfl) (fun _ _ _ h => h) (yieldsIf_load_mid (by rfl) 68 (.tmp 19) rfl b19 0 rfl cs _ (fun W hW q v hv => by rw [Nat.zero_add]; exact (hW.cell (p := ⟨b19, q, none⟩) H19.out.1.lt (fun e => H19.out.2 e)).trans ((H19.out.1.cell q).trans hv)) Tryz.underlying68 rfl (by rw [HCS.out.2]; exact sizeCk)) (by assumption) ?_
       try simp only [PT]
       refine wpAnyH_take (i := 2) (oi := { dst := some 107, op := Op.move (Operand.tmp 16), type := 27, pos := "ref.go:71", after := #[], guard := none }) (v := ?v2_3) rfl (by kernel_rfl) (by kernel_rfl) (by kernel_rfl) (fun _ _ _ h => h) (Or.inl ⟨by rfl, ?h2_3⟩) (by assumption) ?r2_3
       case h2_3 =>
        intro W hSW
        try dsimp only at hSW
        go_simp
        try with_reducible rfl
       try simp only [PT]
       refine wpAnyH_take (i := 3) (oi := { dst := some 108, op := Op.move (Operand.tmp 18), type := 3, pos := "ref.go:71", after := #[], guard := none }) (v := ?v3_4) rfl (by kernel_rfl) (by kernel_rfl) (by kernel_rfl) (fun _ _ _ h => h) (Or.inl ⟨by rfl, ?h3_4⟩) (by assumption) ?r3_4
       case h3_4 =>
        intro W hSW
        try dsimp only at hSW
        go_simp
        try with_reducible rfl
       try simp only [PT]
       refine wpAnyH_take (i := 4) (oi := { dst := some 109, op := Op.indexAddr 27 (Operand.tmp 107) (Operand.tmp 108), type := 0, pos := "ref.go:71", after := #[{ on := 2, ground := Ground.data }, { on := 3, ground := Ground.data }], guard := none }) (v := ?v4_5) rfl (by kernel_rfl) (by kernel_rfl) (by kernel_rfl) (fun _ _ _ h => h) (Or.inl ⟨by rfl, ?h4_5⟩) (by assumption) ?r4_5
       case h4_5 =>
        intro W hSW
        try dsimp only at hSW
        go_simp
        try with_reducible rfl
       try simp only [PT]
       refine wpAnyH_take (i := 5) (oi := { dst := some 110, op := Op.load 3 (Operand.tmp 109), type := 3, pos := "ref.go:71", after := #[{ on := 4, ground := Ground.data }], guard := none }) (v := ?v5_6) rfl (by kernel_rfl) (by kernel_rfl) (by kernel_rfl) (fun _ _ _ h => h) (Or.inl ⟨by rfl, ?h5_6⟩) (by assumption) ?r5_6
       case h5_6 =>
        intro W hSW
        try dsimp only at hSW
        have c1 := (hSW.cell (p := ⟨be, oe + i, none⟩) HGE.out.1 HGE.out.2.1).trans HGE.out.2.2
        go_simp
        try with_reducible rfl
       try simp only [PT]
       refine wpAnyH_ready (rs := [6]) (by kernel_rfl) (by simp) ?_
       refine AllReadyH.cons (o := { dst := some 111, op := Op.call { callee := Callee.value (Operand.func 49), args := #[Operand.tmp 105, Operand.tmp 106, Operand.tmp 110], argTypes := #[39, 68, 3] }, type := 0, pos := "ref.go:71", after := #[{ on := 0, ground := Ground.data }, { on := 1, ground := Ground.data }, { on := 5, ground := Ground.data }], guard := none }) rfl (fun K hK => ?_) AllReadyH.nil
       go_simp
       refine (HCH.out _ hHeld rfl).mono ?_
       rintro e w40 ⟨rfl, hf40, hk40⟩
       have HF40 := Lib.hid hf40
       have hv40 : Keep (fun x => x = g8) w9 w40 := hv0.trans hk40
       clear hf40 hk40
       refine hK.out _ _ (hv40) (fun hHeld => ?_)
       clear hK K
       try simp only [PT]
       refine wpAnyH_done (by kernel_rfl) ?_ _
       have HV9 := Lib.hid hv40
       go_wp2_with fail
       go_roundw
       case rel => exact ⟨_, i + 1, rfl, by omega, by go_num, Lib.hid ⟨by show IsRow _ bx _ (shL g8 sa.h); rw [HHH.out]; exact HS9.out.row.keep (HV9.out.block bx HS9.out.lt.1 HS9.out.ne), by rw [HLS.out]; exact HF40.out, HS9.out.ne⟩, Lib.hid (HKI.out.trans ((Keep.of_below HB9.out).trans (HV9.out.mono fun x _ hx => .inr hx)))⟩
       case measure => simp [intOf]; omega
      ·
       obtain rfl : i = nl := by omega
       go_wp2_with fail
       go_roundw
       case rel => exact ⟨_, j + 1, rfl, by omega, by go_num, Lib.hid (by rw [HU.out]; exact HSI.out), Lib.hid ((HKR.out.then_below HB7.out).trans HKI.out)⟩
       case measure => simp [intOf]; omega
   ·
    obtain rfl : j = n := by omega
    have hs := HSR.out
    have hrng : wr.rangeAt bx 0 (shL g8 (Cha.usedS l k us d j).h) := fun q u hq => by rw [Nat.zero_add, hs.row.cell]; exact hq
    have r9 : IsRow wr bR 39 zShL := HR5.out.keep (HKR.out.block bR HR5.out.lt (fun h => by have := HXX.out; rcases h with h | h <;> omega))
    obtain ⟨y, hy⟩ : ∃ y, (Cha.usedS l k us d j).h = y := ⟨_, rfl⟩
    have HSX : Hid (FRow wr g8 16 (Cha.usedS l k us d j).t ∧ (Cha.usedS l k us d j).h = y) := Lib.hid ⟨hs.ten, hy⟩
    rw [hy] at hrng
    unfold shL at hrng
    clear hs hy
    go_wp2_with (first
     | (refine wpList_load_mid rfl _ (.tmp 10) rfl bx 0 rfl [.slice (some ⟨g8, 0, none⟩) 16 16, .int .i64 y] _ hrng Tryz.underlying39 rfl sizeSR ?_)
     | (refine wpList_storeRow rfl _ (.tmp 8) (.tmp 112) rfl (l' := [.slice (some ⟨g8, 0, none⟩) 16 16, .int .i64 y]) r9 rfl rfl sizeSR rfl rfl ?_; intro w10 r10 g10 z10))
    refine bodyPost_ret (resultRowS2 rfl _ _ r10 rfl Tryz.underlying39 sizeSR) rfl ?_
    have hx := HXX.out
    exact ⟨g8, by rw [HSX.out.2]; rfl, HSX.out.1.keep (g10.block g8 HSX.out.1.lt (fun e => by have := Option.some.inj e; omega)), by omega, HBW.out.grown g10 HBW.out.size (fun i hi => by have := Option.some.inj hi; omega)⟩
end Go.Proofs.YtfllkaeaanahmaaGreat
