/- The specification's Allocate of layer 24, with a generation of zeros. Conditions: the rows are kept; at most 1000 rows. -/
import Derived.Test.YtihhkcndcgljbaaGreatColX
namespace Go.Proofs.YtihhkcndcgljbaaGreat
set_option linter.unusedVariables false
set_option linter.unusedSimpArgs false
open Go.RowKit
theorem resultTRT {P : Program} {fn : Func} {p q u : Tmp} {t1 : TypeId} (h : fn.results = #[.tmp p, .cell q t1, .tmp u]) (tmps : Array Value) (w : World) {b1 u1 : Nat} {f1 : Array Field} {l1 : List Value}
    (hq : tmps.getD q undef = .pointer (some ⟨b1, 0, none⟩)) (c1 : IsRow w b1 u1 l1) (hu1 : P.underlying t1 = some (.struct f1)) (hi1 : (P.info? t1).map (·.size) = some l1.length) :
    (results fn tmps).run P w = .ok (.tuple #[tmps.getD p undef, .agg l1.toArray, tmps.getD u undef]) w := by
  have hq' : tmps[q]?.getD undef = .pointer (some ⟨b1, 0, none⟩) := by simpa using hq
  simp [results, h, hq', asAddr, run_loadVar_row w b1 u1 t1 l1.toArray (0, 0) _ c1 hu1 rfl (by simpa using hi1)]
/-- what an allocation has done -/
def RalcOk (rs : List S.Str.Rw) (code wd : Int) (rs' : List S.Str.Rw) (i : Nat) (g : Int) : Prop :=
  (∃ x, rs[i]? = some x ∧ x.code = code ∧ Col.uB x.used g = false ∧ 0 ≤ g ∧ g < 64 ∧ rs' = rs.set i ⟨x.code, x.width, Col.insU ⟨g, 0, 0⟩ x.used⟩) ∨ (g = 0 ∧ ∃ x, rs[i]? = some x ∧ x.code = -1 ∧ rs' = rs.set i ⟨code, wd, [⟨0, 0, 0⟩]⟩)
def RalcIs (rs : List S.Str.Rw) (code wd : Int) (n : Nat) (w : World) (e : Ending) (w' : World) : Prop :=
  (∃ k : Int, k ≠ 0 ∧ e = .returned (.tuple #[.slice none 0 0, .agg #[.int .i64 0, .int .i64 0], .int .i64 k]) ∧ Below w.heap.size w w') ∨
  (∃ (A' : Option Addr) (c' : Nat) (D' : List S.RR) (rs' : List S.Str.Rw) (i : Nat) (g : Int), e = .returned (.tuple #[.slice A' n c', .agg #[.int .i64 (i : Int), .int .i64 g], .int .i64 0]) ∧ S.RowsAt w' w'.heap.size A' n D' rs' ∧ (∀ p, A' = some p → w.heap.size ≤ p.block) ∧ (∀ x ∈ D', ∀ p, x.A = some p → w.heap.size ≤ p.block) ∧ n ≤ c' ∧ RalcOk rs code wd rs' i g ∧ Below w.heap.size w w')
theorem AllAt.store {w0 W : World} {g n c k : Nat} {D : List S.RR} {rs : List S.Str.Rw} (h : AllAt w0 (fun _ => True) W (some ⟨g, 0, none⟩) n c D rs) (hk : k < n) (y : S.RR) (hy : y.Ok W W.heap.size) (hyA : ∀ p, y.A = some p → p.block ≠ g) :
    AllAt w0 (fun _ => True) (W.setCells g (k * 3) (S.rwL y)) (some ⟨g, 0, none⟩) n c (D.set k y) (rs.set k y.r) := by
  have hg := grown_sets g (S.rwL y) (k * 3) W
  have hkD : k < D.length := by have := h.len; rw [← h.rs, List.length_map] at this; omega
  have keep : ∀ x : S.RR, x.Ok W W.heap.size → (0 < x.r.used.length → ∀ p, x.A = some p → p.block ≠ g) → x.Ok (W.setCells g (k * 3) (S.rwL y)) (W.setCells g (k * 3) (S.rwL y)).heap.size := fun x hx hne =>
    ⟨(hx.rd.keepA fun h0 p hp => hg.block p.block (ok_block hx h0 p hp) (fun e => hne h0 p hp (Option.some.inj e))).more hg.size, hx.le, hx.mx⟩
  have hmem : ∀ x ∈ D.set k y, x ∈ D ∨ x = y := fun x hx => List.mem_or_eq_of_mem_set hx
  refine ⟨own_elem (f := S.rwL) h.own (fun _ _ => rfl) hkD y rfl, fun x hx => ?_, by rw [List.map_set, h.rs], fun _ _ => trivial, fun _ _ _ _ _ => .inr trivial, fun x hx h0 p hp q hq => ?_⟩
  · rcases hmem x hx with e | e
    · exact keep x (h.us x e) fun h0 p hp => h.gn x e h0 p hp _ rfl
    · rw [e]; exact keep y hy fun _ p hp => hyA p hp
  · cases hq
    rcases hmem x hx with e | e
    · exact h.gn x e h0 p hp _ rfl
    · rw [e] at hp; exact hyA p hp
theorem there3 {w : World} {base n c g : Nat} {e : TypeId} {xs : List Value} (h : w.ownsRow base e 3 (.slice (some ⟨g, 0, none⟩) n c) n xs) {k : Nat} (hk : k < n) : w.there g (k * 3) 3 := own_thereL h (by omega)
theorem sizeGn25 : (Tryz.prog.info? 46).map (·.size) = some 2 := by kernel_rfl
set_option maxRecDepth 100000 in
set_option maxHeartbeats 6400000 in
theorem ralc24 (cf : S.Str.Cfg) {w : World} {B n c : Nat} {A : Option Addr} {D : List S.RR} {rs : List S.Str.Rw} (h : S.RowsAt w B A n D rs) (hB : B ≤ w.heap.size) (hnc : n ≤ c) (hn : n ≤ 1000) (hus : ∀ r ∈ rs, r.used.length ≤ 60000)
    (code : Int) (hc0 : 0 ≤ code) (hc8 : code < 8) (wd : Int) :
    Calls Tryz.prog 10 #[S.cfV cf, .slice A n c, .int .i64 code, .int .i64 wd, .agg #[.int .i64 0, .int .i64 0]] w (RalcIs rs code wd n w) := by
  have HR := Lib.hid h
  have HBB := Lib.hid hB
  have HL := Lib.hid h.len
  have HUS := Lib.hid hus
  have HGR := Lib.hid (fun W => S.rgroups_any cf wd W)
  obtain ⟨gn, hgn⟩ : ∃ gn : Nat, S.Str.grp cf wd = (gn : Int) := ⟨(S.Str.grp cf wd).toNat, by have := Col.grp_bd cf wd; omega⟩
  have hgn64 : gn ≤ 64 := by have := Col.grp_bd cf wd; omega
  rw [hgn] at HGR
  obtain ⟨cl, hcl⟩ : ∃ cl, S.cfL cf = cl := ⟨_, rfl⟩
  have hcv : S.cfV cf = .agg cl.toArray := by rw [← hcl]; rfl
  have HCL := Lib.hid (show cl.length = 6 by rw [← hcl]; rfl)
  rw [hcv] at HGR ⊢
  have e8 : ¬ code < 0 := by omega
  have e9 : ¬ code ≥ 8 := by omega
  clear h hB hus hgn hcl hcv
  go_enter Tryz.func10, Tryz.ntmps10
  go_upto_region 1 with (first
    | (have tk := rs9; refine wpList_allocRow rfl _ rfl _ infoS25 ?_; intro w11 rs11 b11 z11; clear tk; have q9 := rs9.below' b11; have q5 := (rs5.below' b9).below' b11)
    | (have tk := rs5; refine S.wpList_boxRow rfl _ _ rfl [.int .i64 0, .int .i64 0] rfl rfl ?_; intro w9 rs9 b9 z9; clear tk)
    | (refine S.wpList_boxRow rfl _ _ rfl cl rfl rfl ?_; intro w5 rs5 b5 z5))
  have hb11 : Below w.heap.size w w11 := b5.trans ((b9.trans (b11.mono b9.size)).mono b5.size)
  obtain ⟨y5, h5⟩ : ∃ y, w.heap.size = y := ⟨_, rfl⟩
  obtain ⟨y9, h9⟩ : ∃ y, y5 + 1 = y := ⟨_, rfl⟩
  obtain ⟨y11, h11⟩ : ∃ y, y9 + 1 = y := ⟨_, rfl⟩
  rw [show w5.heap.size = y9 by omega] at q9
  rw [show w9.heap.size = y11 by omega] at rs11
  rw [h5] at q5
  have HY : Hid (w.heap.size = y5 ∧ y5 < y9 ∧ y9 < y11 ∧ y11 < w11.heap.size) := Lib.hid ⟨h5, by omega, by omega, rs11.lt⟩
  have HQ5 := Lib.hid q5
  have HQ9 := Lib.hid q9
  have HQ11 := Lib.hid rs11
  have HB11 := Lib.hid hb11
  have hr5 : w11.rangeAt y5 0 cl := fun q u hq => by rw [Nat.zero_add, q5.cell]; exact hq
  rw [h5, h9, h11]
  clear rs5 b5 z5 rs9 b9 z9 rs11 b11 z11 q9 q5 hb11 h5 h9 h11
  by_cases hw1 : wd < 1
  · skip
    go_wp2_with (refine wpList_storeRow rfl _ (.tmp 11) (.tmp 39) rfl (l' := [.int .i64 0, .int .i64 0]) HQ11.out rfl rfl sizeS25 rfl rfl ?_; intro wf rf gf zf)
    refine bodyPost_ret (resultTRT rfl _ _ rfl rf Tryz.underlying35 sizeS25) rfl ?_
    exact .inl ⟨_, (by decide : (1 : Int) ≠ 0), rfl, (HB11.out).grown gf (HB11.out).size (fun i hi => by have := HY.out; have := Option.some.inj hi; omega)⟩
  by_cases hw2 : 32 < wd
  · skip
    go_wp2_with (refine wpList_storeRow rfl _ (.tmp 11) (.tmp 39) rfl (l' := [.int .i64 0, .int .i64 0]) HQ11.out rfl rfl sizeS25 rfl rfl ?_; intro wf rf gf zf)
    refine bodyPost_ret (resultTRT rfl _ _ rfl rf Tryz.underlying35 sizeS25) rfl ?_
    exact .inl ⟨_, (by decide : (1 : Int) ≠ 0), rfl, (HB11.out).grown gf (HB11.out).size (fun i hi => by have := HY.out; have := Option.some.inj hi; omega)⟩
  by_cases hg0 : gn = 0
  · have hgi : ((gn : Int) == 0) = true := by simp [hg0]
    go_upto_region 2 with (first
      | (refine S.wpList_load_rg rfl _ (.tmp 5) rfl y5 0 rfl cl _ hr5 Tryz.underlying23 rfl (by rw [HCL.out]; exact S.sizeCf) ?_)
      | (go_at_call 9; refine (HGR.out _).mono ?_; rintro e w12 ⟨rfl, b12⟩))
    have hq12 := HQ11.out.below' b12
    have hb12 := HB11.out.trans (b12.mono HB11.out.size)
    go_wp2_with (refine wpList_storeRow rfl _ (.tmp 11) (.tmp 39) rfl (l' := [.int .i64 0, .int .i64 0]) hq12 rfl rfl sizeS25 rfl rfl ?_; intro wf rf gf zf)
    refine bodyPost_ret (resultTRT rfl _ _ rfl rf Tryz.underlying35 sizeS25) rfl ?_
    exact .inl ⟨_, (by decide : (1 : Int) ≠ 0), rfl, (hb12).grown gf (hb12).size (fun i hi => by have := HY.out; have := Option.some.inj hi; omega)⟩
  have hgi : ((gn : Int) == 0) = false := by simp [hg0]
  go_upto_region 4 with (first
    | (refine S.wpList_load_rg rfl _ (.tmp 5) rfl y5 0 rfl cl _ hr5 Tryz.underlying23 rfl (by rw [HCL.out]; exact S.sizeCf) ?_)
    | (go_at_call 9; refine (HGR.out _).mono ?_; rintro e w12 ⟨rfl, b12⟩))
  have HB12 := Lib.hid (HB11.out.trans (b12.mono HB11.out.size))
  replace HQ5 := Lib.hid (HQ5.out.below' b12)
  replace HQ9 := Lib.hid (HQ9.out.below' b12)
  replace HQ11 := Lib.hid (HQ11.out.below' b12)
  have HYN := Lib.hid HQ11.out.lt
  have HR12 := Lib.hid ((HR.out.more HBB.out).below HB12.out)
  clear b12 hr5 HB11 hgi
  go_loop [13] (fun u13 => ∃ j : Nat, j ≤ n ∧ u13 = .int .i64 (j : Int)) (fun u13 => n - (intOf u13).toNat)
  case atStart => exact ⟨0, Nat.zero_le _, rfl⟩
  case round =>
    obtain ⟨j, hj, rfl⟩ := hrel
    by_cases hlt : j < n
    · obtain ⟨b, off, x, hA, hbb, hD, hl, hok, hrg, c0, c1, c2⟩ := HR12.out.at hlt
      subst hA
      obtain ⟨xc, hxc⟩ : ∃ y, x.r.code = y := ⟨_, rfl⟩
      obtain ⟨xw, hxw⟩ : ∃ y, x.r.width = y := ⟨_, rfl⟩
      rw [hxc] at c0
      rw [hxw] at c1
      have e1 : (0 : Int) ≤ (j : Int) := by omega
      have e2 : (j : Int) < (n : Int) := by omega
      clear hbb hD hl hok hrg c2 hxc hxw
      by_cases h1 : xc = code
      · have d1 : (xc == code) = true := by simp [h1]
        by_cases h2 : xw = wd
        · have d2 : (xw != wd) = false := by simp [h2]
          clear h1 h2
          go_wp2_with fail
          go_round
          case rel => exact ⟨j + 1, by omega, by go_num⟩
          case measure => simp [intOf]; omega
        · have d2 : (xw != wd) = true := by simp [h2]
          clear h1 h2
          go_wp2_with (refine wpList_storeRow rfl _ (.tmp 11) (.tmp 62) rfl (l' := [.int .i64 0, .int .i64 0]) HQ11.out rfl rfl sizeS25 rfl rfl ?_; intro wf rf gf zf)
          refine bodyPost_ret (resultTRT rfl _ _ rfl rf Tryz.underlying35 sizeS25) rfl ?_
          exact .inl ⟨_, (by decide : (1 : Int) ≠ 0), rfl, (HB12.out).grown gf (HB12.out).size (fun i hi => by have := HY.out; have := Option.some.inj hi; omega)⟩
      · have d1 : (xc == code) = false := by simp [h1]
        clear h1
        go_wp2_with fail
        go_round
        case rel => exact ⟨j + 1, by omega, by go_num⟩
        case measure => simp [intOf]; omega
    · obtain rfl : j = n := by omega
      have HCP := Lib.hid (copied24 HR12.out HB12.out.size hnc hn)
      go_upto_region 10 with (go_at_call 39; refine HCP.out.mono ?_; rintro e w14 ⟨A4, c4, D4, rfl, ha4, hn4, b14⟩)
      have HN4 := Lib.hid hn4
      have HA4 := Lib.hid ha4
      have HB14 := Lib.hid (HB12.out.trans (b14.mono HB12.out.size))
      have HBC := Lib.hid b14
      replace HQ5 := Lib.hid (HQ5.out.below' b14)
      replace HQ9 := Lib.hid (HQ9.out.below' b14)
      replace HQ11 := Lib.hid (HQ11.out.below' b14)
      have hcap4 := (own_cap ha4.own).1
      clear ha4 hn4 b14 HCP
      go_loopw [15] (fun u15 wx => ∃ (wr : World) (i : Nat), wr = wx ∧ i ≤ j ∧ u15 = .int .i64 (i : Int) ∧ Hid (Below w14.heap.size w14 wr)) (fun u15 _ => j - (intOf u15).toNat)
      case atStart => exact ⟨_, 0, rfl, Nat.zero_le _, rfl, Lib.hid (Below.refl _ _)⟩
      case round =>
        obtain ⟨wr, i, rfl, hi, rfl, HBR⟩ := hrel
        by_cases hlt2 : i < j
        · obtain ⟨b, off, x, hA, hbb, hD, hl, hok, hrg, c0, -⟩ := HR.out.at hlt2
          subst hA
          have hbw := HB14.out.trans (HBR.out.mono HB14.out.size)
          have hc0' := (hbw.cell (p := ⟨b, off + i * 3, none⟩) (Nat.lt_of_lt_of_le hbb HBB.out)).trans c0
          have e1 : (0 : Int) ≤ (i : Int) := by omega
          have e2 : (i : Int) < (j : Int) := by omega
          have HRW : Hid (b < w.heap.size ∧ w.rangeAt b (off + i * 3) (S.rwL x) ∧ x.Ok w w.heap.size ∧ rs[i]? = some x.r) := Lib.hid ⟨Nat.lt_of_lt_of_le hbb HBB.out, hrg, hok.more HBB.out, hl⟩
          clear hbb hD hl hok hrg c0 hbw
          by_cases h1 : x.r.code = code
          · have d1 : (x.r.code != code) = false := by simp [h1]
            have HXC := Lib.hid h1
            obtain ⟨xc, hxc⟩ : ∃ y, x.r.code = y := ⟨_, rfl⟩
            rw [hxc] at hc0' d1
            clear h1 hxc
            go_upto_region 14 with fail
            clear hc0' d1
            go_loopw [16] (fun u16 wx => ∃ (wi : World) (g : Nat), wi = wx ∧ g ≤ gn ∧ u16 = .int .i64 (g : Int) ∧ Hid (Below w14.heap.size w14 wi)) (fun u16 _ => gn - (intOf u16).toNat)
            case atStart => exact ⟨_, 0, rfl, Nat.zero_le _, rfl, HBR⟩
            case round =>
              obtain ⟨wi, g, rfl, hg, rfl, HBI⟩ := hrel
              have hr5 : wi.rangeAt y5 0 cl := fun q u hq => by rw [Nat.zero_add, (HQ5.out.below' HBI.out).cell]; exact hq
              by_cases hlt3 : g < gn
              · have e3 : (g : Int) < (gn : Int) := by omega
                have hrx : ∀ W, Below wi.heap.size wi W → W.rangeAt b (off + i * 3) (S.rwL x) := fun W hW q u hq => ((HB14.out.trans ((HBI.out.trans (hW.mono HBI.out.size)).mono HB14.out.size)).cell (p := ⟨b, off + i * 3 + q, none⟩) HRW.out.1).trans (HRW.out.2.1 q u hq)
                obtain ⟨q, hq⟩ : ∃ q, Col.uB x.r.used (g : Int) = q := ⟨_, rfl⟩
                have HUD := Lib.hid (fun (W : World) (hW : Below wi.heap.size wi W) => used24 (HRW.out.2.2.1.below (HB14.out.trans ((HBI.out.trans (hW.mono HBI.out.size)).mono HB14.out.size))) (HB14.out.trans ((HBI.out.trans (hW.mono HBI.out.size)).mono HB14.out.size)).size (g : Int) q hq)
                have HQQ := Lib.hid hq
                obtain ⟨xl, hxl⟩ : ∃ xl, S.rwL x = xl := ⟨_, rfl⟩
                rw [hxl] at hrx HUD
                have HXL := Lib.hid (show xl.length = 3 by rw [← hxl]; rfl)
                have HRX := Lib.hid hrx
                clear hq hxl hrx
                cases q with
                | true =>
                  go_wp2_with (first
                    | (refine wpList_load_mid rfl _ (.tmp 5) rfl y5 0 rfl cl _ hr5 Tryz.underlying23 rfl (by rw [HCL.out]; exact S.sizeCf) ?_)
                    | (go_at_call 9; refine (HGR.out _).mono ?_; rintro e w15 ⟨rfl, b15⟩; have hrx := HRX.out _ b15)
                    | (refine wpList_load_mid rfl _ (.tmp 87) rfl b (off + i * 3) rfl xl _ hrx Tryz.underlying44 rfl (by rw [HXL.out]; exact S.sizeRw) ?_)
                    | (go_at_call 40; refine (HUD.out _ b15).mono ?_; rintro e w16 ⟨rfl, b16⟩))
                  go_roundw
                  case rel => exact ⟨_, g + 1, rfl, by omega, by go_num, Lib.hid (HBI.out.trans ((b15.trans (b16.mono b15.size)).mono HBI.out.size))⟩
                  case measure => simp [intOf]; omega
                | false =>
                  go_upto_region 18 with (first
                    | (refine wpList_load_mid rfl _ (.tmp 5) rfl y5 0 rfl cl _ hr5 Tryz.underlying23 rfl (by rw [HCL.out]; exact S.sizeCf) ?_)
                    | (go_at_call 9; refine (HGR.out _).mono ?_; rintro e w15 ⟨rfl, b15⟩; have hrx := HRX.out _ b15)
                    | (refine wpList_load_mid rfl _ (.tmp 87) rfl b (off + i * 3) rfl xl _ hrx Tryz.underlying44 rfl (by rw [HXL.out]; exact S.sizeRw) ?_)
                    | (go_at_call 40; refine (HUD.out _ b15).mono ?_; rintro e w16 ⟨rfl, b16⟩))
                  have HB16 := Lib.hid (HBI.out.trans ((b15.trans (b16.mono b15.size)).mono HBI.out.size))
                  clear b15 b16 hrx hr5 HUD HRX
                  replace HA4 := Lib.hid (HA4.out.below HB16.out)
                  replace HQ9 := Lib.hid (HQ9.out.below' HB16.out)
                  replace HQ11 := Lib.hid (HQ11.out.below' HB16.out)
                  have hrs4 := HA4.out.rows (by omega)
                  obtain ⟨go, oo, x4, hA4, hgo, hD4, hl4, hok4, hrg4, -⟩ := hrs4.at hlt2
                  obtain ⟨g4, hA4'⟩ : ∃ g4, A4 = some ⟨g4, 0, none⟩ := by
                    obtain ⟨g4, cap4, hv, _, _⟩ := HA4.out.own.form (by omega)
                    injection hv with hv1
                    exact ⟨g4, hv1⟩
                  subst hA4'
                  obtain ⟨rfl, rfl⟩ : g4 = go ∧ 0 = oo := by have := Option.some.inj hA4; exact ⟨congrArg Addr.block this, congrArg Addr.off this⟩
                  rw [Nat.zero_add] at hrg4
                  have hx4r : x4.r = x.r := Option.some.inj (hl4.symm.trans HRW.out.2.2.2)
                  have hu4 : x4.r.used.length ≤ 60000 := HUS.out x4.r (List.mem_of_getElem? hl4)
                  have HWT := Lib.hid (fun (W : World) (hW : Below w16.heap.size w16 W) => with24 ((hok4.below hW).more hW.size) (Nat.le_refl _) hu4 ⟨(g : Int), 0, 0⟩)
                  obtain ⟨⟨xc4, xw4, us4⟩, xA4, xk4⟩ := x4
                  unfold S.rwL S.RR.v at hrg4 HWT
                  unfold S.usL at HWT
                  dsimp only at hrg4 HWT hx4r
                  obtain ⟨m4, hm4⟩ : ∃ y, us4.length = y := ⟨_, rfl⟩
                  rw [hm4] at hrg4 HWT
                  have HRG4 := Lib.hid (And.intro hgo (And.intro (hrg4 0 _ rfl) (And.intro (hrg4 1 _ rfl) (hrg4 2 _ rfl))))
                  have HX4R := Lib.hid hx4r
                  have HTH : Hid (w16.there g4 (i * 3) 3) := Lib.hid (there3 HA4.out.own hlt2)
                  dsimp only [Nat.add_zero] at HRG4
                  clear hA4 hgo hD4 hl4 hok4 hrg4 hx4r hu4 hm4 hrs4
                  have hv0 : Below w16.heap.size w16 w16.drew := (Below.refl _ _).drew
                  refine wp_region_late (fun W => Below w16.heap.size w16 W) [11] (by kernel_rfl) (hv0) (fun hHeld => ?_)
                  refine wpAnyL_take (i := 0) (oi := { dst := some 93, op := Op.move (Operand.tmp 14), type := 25, pos := "ref.go:119", after := #[], guard := none }) (v := ?v0_1) rfl (by kernel_rfl) (by kernel_rfl) (by kernel_rfl) (by kernel_rfl) (fun _ _ _ h => h) (Or.inl ⟨by rfl, ?h0_1⟩) (by assumption) ?r0_1
                  case h0_1 =>
                    intro W hSW
                    try dsimp only at hSW
                    go_simp
                    try with_reducible rfl
                  try simp only [Act.put, List.setIfInBounds_toArray, List.set_cons_zero, List.set_cons_succ]
                  refine wpAnyL_take (i := 1) (oi := { dst := some 94, op := Op.move (Operand.tmp 15), type := 3, pos := "ref.go:119", after := #[], guard := none }) (v := ?v1_2) rfl (by kernel_rfl) (by kernel_rfl) (by kernel_rfl) (by kernel_rfl) (fun _ _ _ h => h) (Or.inl ⟨by rfl, ?h1_2⟩) (by assumption) ?r1_2
                  case h1_2 =>
                    intro W hSW
                    try dsimp only at hSW
                    go_simp
                    try with_reducible rfl
                  try simp only [Act.put, List.setIfInBounds_toArray, List.set_cons_zero, List.set_cons_succ]
                  refine wpAnyL_take (i := 2) (oi := { dst := some 95, op := Op.move (Operand.tmp 14), type := 25, pos := "ref.go:119", after := #[], guard := none }) (v := ?v2_3) rfl (by kernel_rfl) (by kernel_rfl) (by kernel_rfl) (by kernel_rfl) (fun _ _ _ h => h) (Or.inl ⟨by rfl, ?h2_3⟩) (by assumption) ?r2_3
                  case h2_3 =>
                    intro W hSW
                    try dsimp only at hSW
                    go_simp
                    try with_reducible rfl
                  try simp only [Act.put, List.setIfInBounds_toArray, List.set_cons_zero, List.set_cons_succ]
                  refine wpAnyL_take (i := 3) (oi := { dst := some 96, op := Op.move (Operand.tmp 15), type := 3, pos := "ref.go:119", after := #[], guard := none }) (v := ?v3_4) rfl (by kernel_rfl) (by kernel_rfl) (by kernel_rfl) (by kernel_rfl) (fun _ _ _ h => h) (Or.inl ⟨by rfl, ?h3_4⟩) (by assumption) ?r3_4
                  case h3_4 =>
                    intro W hSW
                    try dsimp only at hSW
                    go_simp
                    try with_reducible rfl
                  try simp only [Act.put, List.setIfInBounds_toArray, List.set_cons_zero, List.set_cons_succ]
                  refine wpAnyL_take (i := 4) (oi := { dst := some 97, op := Op.indexAddr 25 (Operand.tmp 95) (Operand.tmp 96), type := 0, pos := "ref.go:119", after := #[{ on := 2, ground := Ground.data }, { on := 3, ground := Ground.data }], guard := none }) (v := ?v4_5) rfl (by kernel_rfl) (by kernel_rfl) (by kernel_rfl) (by kernel_rfl) (fun _ _ _ h => h) (Or.inl ⟨by rfl, ?h4_5⟩) (by assumption) ?r4_5
                  case h4_5 =>
                    intro W hSW
                    try dsimp only at hSW
                    go_simp
                    try with_reducible rfl
                  try simp only [Act.put, List.setIfInBounds_toArray, List.set_cons_zero, List.set_cons_succ]
                  refine wpAnyL_take (i := 5) (oi := { dst := some 98, op := Op.load 44 (Operand.tmp 97), type := 44, pos := "ref.go:119", after := #[{ on := 4, ground := Ground.data }], guard := none }) (v := ?v5_6) rfl (by kernel_rfl) (by kernel_rfl) (by kernel_rfl) (by kernel_rfl) (fun _ _ _ h => h) (Or.inl ⟨by rfl, ?h5_6⟩) (by assumption) ?r5_6
                  case h5_6 =>
                    intro W hSW
                    try dsimp only at hSW
                    have c0 := (hSW.cell (p := ⟨g4, i * 3, none⟩) HRG4.out.1).trans HRG4.out.2.1
                    have c1 := (hSW.cell (p := ⟨g4, i * 3 + 1, none⟩) HRG4.out.1).trans HRG4.out.2.2.1
                    have c2 := (hSW.cell (p := ⟨g4, i * 3 + 2, none⟩) HRG4.out.1).trans HRG4.out.2.2.2
                    go_simp
                    try with_reducible rfl
                  try simp only [Act.put, List.setIfInBounds_toArray, List.set_cons_zero, List.set_cons_succ]
                  refine wpAnyL_take (i := 6) (oi := { dst := some 99, op := Op.move (Operand.tmp 16), type := 3, pos := "ref.go:119", after := #[], guard := none }) (v := ?v6_7) rfl (by kernel_rfl) (by kernel_rfl) (by kernel_rfl) (by kernel_rfl) (fun _ _ _ h => h) (Or.inl ⟨by rfl, ?h6_7⟩) (by assumption) ?r6_7
                  case h6_7 =>
                    intro W hSW
                    try dsimp only at hSW
                    go_simp
                    try with_reducible rfl
                  try simp only [Act.put, List.setIfInBounds_toArray, List.set_cons_zero, List.set_cons_succ]
                  refine wpAnyL_take (i := 7) (oi := { dst := some 100, op := Op.load 46 (Operand.tmp 9), type := 46, pos := "ref.go:119", after := #[], guard := none }) (v := ?v7_8) rfl (by kernel_rfl) (by kernel_rfl) (by kernel_rfl) (by kernel_rfl) (fun _ _ _ h => h) (Or.inl ⟨by rfl, ?h7_8⟩) (by assumption) ?r7_8
                  case h7_8 =>
                    intro W hSW
                    try dsimp only at hSW
                    have c0 := (hSW.cell (p := ⟨y9, 0, none⟩) HQ9.out.lt).trans (HQ9.out.cell 0)
                    have c1 := (hSW.cell (p := ⟨y9, 1, none⟩) HQ9.out.lt).trans (HQ9.out.cell 1)
                    dsimp only [List.getElem?_cons_zero, List.getElem?_cons_succ] at c0 c1
                    go_simp
                    try with_reducible rfl
                  try simp only [Act.put, List.setIfInBounds_toArray, List.set_cons_zero, List.set_cons_succ]
                  refine wpAnyL_take (i := 8) (oi := { dst := some 101, op := Op.build 107 #[(0, Operand.tmp 99), (1, Operand.tmp 100)], type := 107, pos := "ref.go:119", after := #[{ on := 6, ground := Ground.data }, { on := 7, ground := Ground.data }], guard := none }) (v := ?v8_9) rfl (by kernel_rfl) (by kernel_rfl) (by kernel_rfl) (by kernel_rfl) (fun _ _ _ h => h) (Or.inl ⟨by rfl, ?h8_9⟩) (by assumption) ?r8_9
                  case h8_9 =>
                    intro W hSW
                    try dsimp only at hSW
                    go_simp
                    try with_reducible rfl
                  try simp only [Act.put, List.setIfInBounds_toArray, List.set_cons_zero, List.set_cons_succ]
                  refine wpAnyL_ready (rs := [9]) (by kernel_rfl) (by simp) ?_
                  refine AllReadyL.cons (o := { dst := some 102, op := Op.call { callee := Callee.value (Operand.func 41), args := #[Operand.tmp 98, Operand.tmp 101], argTypes := #[44, 107] }, type := 44, pos := "ref.go:119", after := #[{ on := 5, ground := Ground.data }, { on := 8, ground := Ground.data }], guard := none }) rfl (fun K hK => ?_) AllReadyL.nil
                  go_simp
                  refine (HWT.out _ hv0).mono ?_
                  rintro e w30 ⟨Ax, cx, rfl, hokx, hpx, b30⟩
                  have hv30 : Below w16.heap.size w16 w30 := hv0.trans (b30.mono hv0.size)
                  obtain ⟨R4, hR4⟩ : ∃ r : S.RR, (⟨⟨xc4, xw4, Col.insU ⟨(g : Int), 0, 0⟩ us4⟩, Ax, cx⟩ : S.RR) = r := ⟨_, rfl⟩
                  rw [hR4] at hokx ⊢
                  obtain ⟨rl, hrl⟩ : ∃ y, S.rwL R4 = y := ⟨_, rfl⟩
                  rw [hrl]
                  have HR4 := Lib.hid (And.intro hR4 (And.intro hrl (And.intro hokx hpx)))
                  have HSZ := Lib.hid (hv0).size
                  have hrl3 : rl.length = 3 := by rw [← hrl]; rfl
                  have hone : ∀ u ∈ rl, u.oneCell' = true := by rw [← hrl]; exact S.rwL_one R4
                  have HRL := Lib.hid (And.intro hrl3 hone)
                  clear b30 hR4 hrl hokx hpx hrl3 hone
                  refine hK.out _ _ (hv30) (fun hHeld => ?_)
                  clear hK K
                  try simp only [Act.put, List.setIfInBounds_toArray, List.set_cons_zero, List.set_cons_succ]
                  refine wpAnyL_take (i := 10) (oi := { dst := some 103, op := Op.indexAddr 25 (Operand.tmp 93) (Operand.tmp 94), type := 0, pos := "ref.go:119", after := #[{ on := 0, ground := Ground.data }, { on := 1, ground := Ground.data }, { on := 0, ground := Ground.phase }, { on := 1, ground := Ground.phase }, { on := 2, ground := Ground.phase }, { on := 3, ground := Ground.phase }, { on := 4, ground := Ground.phase }, { on := 5, ground := Ground.phase }, { on := 6, ground := Ground.phase }, { on := 7, ground := Ground.phase }, { on := 8, ground := Ground.phase }, { on := 9, ground := Ground.phase }], guard := none }) (v := ?v10_10) rfl (by kernel_rfl) (by kernel_rfl) (by kernel_rfl) (by kernel_rfl) (fun _ _ _ h => h) (Or.inl ⟨by rfl, ?h10_10⟩) (by assumption) ?r10_10
                  case h10_10 =>
                    intro W hSW
                    try dsimp only at hSW
                    go_simp
                    try with_reducible rfl
                  try simp only [Act.put, List.setIfInBounds_toArray, List.set_cons_zero, List.set_cons_succ]
                  refine wpAnyL_ready (rs := [11]) (by kernel_rfl) (by simp) ?_
                  refine AllReadyL.late (o := { dst := none, op := Op.store 44 (Operand.tmp 103) (Operand.tmp 102), type := 0, pos := "ref.go:119", after := #[{ on := 10, ground := Ground.data }, { on := 9, ground := Ground.data }, { on := 9, ground := Ground.chain }, { on := 0, ground := Ground.phase }, { on := 1, ground := Ground.phase }, { on := 2, ground := Ground.phase }, { on := 3, ground := Ground.phase }, { on := 4, ground := Ground.phase }, { on := 5, ground := Ground.phase }, { on := 6, ground := Ground.phase }, { on := 7, ground := Ground.phase }, { on := 8, ground := Ground.phase }, { on := 9, ground := Ground.phase }], guard := none }) rfl (by rfl) (fun K hK => ?_) AllReadyL.nil
                  rw [if_pos (by rfl)]
                  have hth : w30.there g4 (i * 3) rl.toArray.size := by rw [List.size_toArray, HRL.out.1]; exact there3 (own_below HA4.out.own hv30) hlt2
                  refine wp_store_mid _ (.tmp 103) (.tmp 102) rfl g4 (i * 3) rl.toArray rfl rfl hth (by rw [List.size_toArray, HRL.out.1]; exact S.sizeRw) (all_oneCell_toArray HRL.out.2) ?_
                  have HVF := Lib.hid hv30
                  have HWF : Hid (True ∧ True) := Lib.hid ⟨trivial, trivial⟩
                  refine hK.out _ _ ?_
                  clear hK K
                  try simp only [Act.put, List.setIfInBounds_toArray, List.set_cons_zero, List.set_cons_succ]
                  refine wpAnyL_done (by kernel_rfl) ?_ _
                  have hRR := HR4.out
                  have hra : ∀ p : Addr, R4.A = some p → w16.heap.size ≤ p.block := fun p hp => Nat.le_trans HSZ.out (hRR.2.2.2 p (by rw [← hRR.1] at hp; exact hp)).1
                  have hst := (HA4.out.below HVF.out).store hlt2 R4 hRR.2.2.1 (fun p hp e => by have h1 := (own_block_lt HA4.out.own _ rfl).2; have h2 := hra p hp; dsimp only at h1; omega)
                  rw [hRR.2.1] at hst
                  replace hra : ∀ p : Addr, R4.A = some p → y11 < p.block := fun p hp => by have := hra p hp; have := HQ11.out.lt; omega
                  have hgs := grown_sets g4 rl (i * 3) w30
                  have hbw := HB14.out.trans ((HB16.out.trans (HVF.out.mono HB16.out.size)).mono HB14.out.size)
                  have hq11 := HQ11.out.below' HVF.out
                  have hbs := hbw.grown hgs hbw.size (fun i hi => by have h1 := (own_block_lt HA4.out.own _ rfl).1; have h2 := Option.some.inj hi; have h3 := HB12.out.size; dsimp only at h1; omega)
                  have hng : g4 ≠ y11 := fun e => by have h1 := (own_block_lt HA4.out.own _ rfl).1; have h2 := HYN.out; dsimp only at h1; omega
                  have hdn : ∀ x ∈ D4.set i R4, ∀ p, x.A = some p → p.block ≠ y11 := fun x hx p hp e => by
                    have h2 := HYN.out
                    rcases List.mem_or_eq_of_mem_set hx with hx | hx
                    · have := HN4.out x hx p hp; omega
                    · subst hx
                      have := hra p hp
                      omega
                  have hfar : ∀ x ∈ D4.set i R4, ∀ p, x.A = some p → w.heap.size ≤ p.block := fun x hx p hp => by
                    have h2 := HY.out
                    have h3 := HB12.out.size
                    rcases List.mem_or_eq_of_mem_set hx with hx | hx
                    · have := HN4.out x hx p hp; omega
                    · subst hx
                      have := hra p hp
                      omega
                  have hfa : ∀ p : Addr, (some ⟨g4, 0, none⟩ : Option Addr) = some p → w.heap.size ≤ p.block := fun p hp => by
                    have h1 := (own_block_lt HA4.out.own _ rfl).1
                    have h3 := HB12.out.size
                    rw [← Option.some.inj hp]
                    dsimp only at h1 ⊢; omega
                  obtain ⟨ws, hws⟩ : ∃ x, w30.setCells g4 (i * 3) rl = x := ⟨_, rfl⟩
                  rw [hws] at hst hgs hbs
                  have q11 := hq11.grown hgs (fun e => hng (Option.some.inj e))
                  try simp only [List.toList_toArray]
                  try rw [hws]
                  have HFIN := Lib.hid (And.intro hst (And.intro hbs (And.intro hng hdn)))
                  have HFAR := Lib.hid (And.intro hfa hfar)
                  clear hfa hfar hst hgs hbs hng hdn hws hra hbw hq11
                  go_wp2_with (refine wpList_storeRow rfl _ (.tmp 11) (.tmp 107) rfl (l' := [.int .i64 (i : Int), .int .i64 (g : Int)]) q11 rfl rfl sizeS25 rfl rfl ?_; intro wf rf gf zf)
                  refine bodyPost_ret (resultTRT rfl _ _ rfl rf Tryz.underlying35 sizeS25) rfl ?_
                  have hbf := HFIN.out.2.1.grown gf HFIN.out.2.1.size (fun i hi => by have := HY.out; have := Option.some.inj hi; omega)
                  have hrw := HFIN.out.1.rowsBut gf (fun p hp => by rw [← Option.some.inj hp]; exact HFIN.out.2.2.1) HFIN.out.2.2.2 (by omega)
                  exact .inr ⟨_, c4, _, _, i, (g : Int), rfl, hrw, HFAR.out.1, HFAR.out.2, hcap4, .inl ⟨x.r, HRW.out.2.2.2, HXC.out, HQQ.out, by omega, by omega, by rw [← HR4.out.1, ← HX4R.out]⟩, hbf⟩
              · obtain rfl : g = gn := by omega
                have e3 : ¬ (g : Int) < (g : Int) := by omega
                go_wp2_with (first
                  | (refine wpList_load_mid rfl _ (.tmp 5) rfl y5 0 rfl cl _ hr5 Tryz.underlying23 rfl (by rw [HCL.out]; exact S.sizeCf) ?_)
                  | (go_at_call 9; refine (HGR.out _).mono ?_; rintro e w15 ⟨rfl, b15⟩))
                go_roundw
                case rel => exact ⟨_, i + 1, rfl, by omega, by go_num, Lib.hid (HBI.out.trans (b15.mono HBI.out.size))⟩
                case measure => simp [intOf]; omega
          · have d1 : (x.r.code != code) = true := by simp [h1]
            obtain ⟨xc, hxc⟩ : ∃ y, x.r.code = y := ⟨_, rfl⟩
            rw [hxc] at hc0' d1
            clear h1 hxc
            go_wp2_with fail
            go_roundw
            case rel => exact ⟨_, i + 1, rfl, by omega, by go_num, HBR⟩
            case measure => simp [intOf]; omega
        · obtain rfl : i = j := by omega
          replace HA4 := Lib.hid (HA4.out.below HBR.out)
          replace HQ9 := Lib.hid (HQ9.out.below' HBR.out)
          replace HQ11 := Lib.hid (HQ11.out.below' HBR.out)
          have HBW := Lib.hid (HB14.out.trans (HBR.out.mono HB14.out.size))
          clear HBR HB14 HQ5
          go_upto_region 21 with fail
          go_loop [18] (fun u18 => ∃ k : Nat, k ≤ i ∧ u18 = .int .i64 (k : Int)) (fun u18 => i - (intOf u18).toNat)
          case atStart => exact ⟨0, Nat.zero_le _, rfl⟩
          case round =>
            obtain ⟨k, hk, rfl⟩ := hrel
            by_cases hlt4 : k < i
            · obtain ⟨b, off, x, hA, hbb, hD, hl, hok, hrg, c0, -⟩ := HR.out.at hlt4
              subst hA
              have hc0' := (HBW.out.cell (p := ⟨b, off + k * 3, none⟩) (Nat.lt_of_lt_of_le hbb HBB.out)).trans c0
              have e1 : (0 : Int) ≤ (k : Int) := by omega
              have e2 : (k : Int) < (i : Int) := by omega
              have HXL := Lib.hid hl
              clear hbb hD hl hok hrg c0
              by_cases h1 : x.r.code = -1
              · have d1 : (x.r.code == -1) = true := by simp [h1]
                have HXC := Lib.hid h1
                obtain ⟨xc, hxc⟩ : ∃ y, x.r.code = y := ⟨_, rfl⟩
                rw [hxc] at hc0' d1
                clear h1 hxc
                obtain ⟨g4, hA4'⟩ : ∃ g4, A4 = some ⟨g4, 0, none⟩ := by
                  obtain ⟨g4, cap4, hv, _, _⟩ := HA4.out.own.form (by omega)
                  injection hv with hv1
                  exact ⟨g4, hv1⟩
                subst hA4'
                have hgl4 := (own_block_lt HA4.out.own _ rfl)
                have hr9 : wr.rangeAt y9 0 [.int .i64 0, .int .i64 0] := fun q u hq => by rw [Nat.zero_add, HQ9.out.cell]; exact hq
                have ru := Rd.new wr [.int .i64 0, .int .i64 0, .int .i64 0] 107 1 (size := 3) rfl
                obtain ⟨wu, hwu⟩ : ∃ x, wr.alloc (.cells #[.int .i64 0, .int .i64 0, .int .i64 0] 107) = x := ⟨_, rfl⟩
                rw [show wr.alloc (.cells [Value.int .i64 0, .int .i64 0, .int .i64 0].toArray 107) = wu from hwu] at ru
                have hbu : Below wr.heap.size wr wu := by rw [← hwu]; exact (Below.refl _ _).alloc (Nat.le_refl _) _
                have hsu : wr.heap.size + 1 = wu.heap.size := by rw [← hwu]; simp
                have HAU := Lib.hid (HA4.out.below hbu)
                have HTH : Hid (wu.there g4 (k * 3) 3) := Lib.hid (there3 HAU.out.own hlt4)
                have hst := HAU.out.store hlt4 ⟨⟨code, wd, [⟨0, 0, 0⟩]⟩, some ⟨wr.heap.size, 0, none⟩, 1⟩ ⟨by rw [← hsu]; exact ru, Nat.le_refl _, by show 1 ≤ 65536; omega⟩ (fun p hp e => by rw [← Option.some.inj hp] at e; have := hgl4.2; dsimp only at e this; omega)
                have hgs := grown_sets g4 (S.rwL ⟨⟨code, wd, [⟨0, 0, 0⟩]⟩, some ⟨wr.heap.size, 0, none⟩, 1⟩) (k * 3) wu
                unfold S.rwL S.RR.v at hst hgs
                dsimp only [List.length_cons, List.length_nil, Nat.zero_add] at hst hgs
                have HST := Lib.hid (And.intro hst hgs)
                have HGL := Lib.hid hgl4
                have HQU := Lib.hid (HQ11.out.below' hbu)
                have HBU := Lib.hid (HBW.out.trans (hbu.mono HBW.out.size))
                obtain ⟨yu, hyu⟩ : ∃ y, wr.heap.size = y := ⟨_, rfl⟩
                rw [hyu] at hsu HST
                clear hst hgs ru hbu hgl4
                have hone : ∀ u ∈ ([.int .i64 code, .int .i64 wd, .slice (some ⟨yu, 0, none⟩) 1 1] : List Value), u.oneCell' = true := fun u hu => by
                  simp only [List.mem_cons, List.not_mem_nil, or_false] at hu
                  rcases hu with rfl | rfl | rfl <;> rfl
                go_upto_region 25 with (first
                  | (refine wpList_load_mid rfl _ (.tmp 9) rfl y9 0 rfl [.int .i64 0, .int .i64 0] _ hr9 Tryz.underlying46 rfl sizeGn25 ?_)
                  | ((try rw [hwu]); (try rw [hyu]); refine wpList_store_mid rfl _ (.tmp 128) (.tmp 127) rfl g4 (k * 3) (List.toArray [.int .i64 code, .int .i64 wd, .slice (some ⟨yu, 0, none⟩) 1 1]) rfl rfl HTH.out S.sizeRw (all_oneCell_toArray hone) ?_))
                have hst := HST.out.1
                have hgs := HST.out.2
                have hbw := HBU.out
                have hq11 := HQU.out
                have hra : ∀ p : Addr, (some ⟨yu, 0, none⟩ : Option Addr) = some p → y11 < p.block := fun p hp => by
                  rw [← Option.some.inj hp]
                  have := HQ11.out.lt
                  show y11 < yu
                  omega
                have hbs := hbw.grown hgs hbw.size (fun i hi => by have h1 := (own_block_lt HA4.out.own _ rfl).1; have h2 := Option.some.inj hi; have h3 := HB12.out.size; dsimp only at h1; omega)
                have hng : g4 ≠ y11 := fun e => by have h1 := (own_block_lt HA4.out.own _ rfl).1; have h2 := HYN.out; dsimp only at h1; omega
                have hdn : ∀ x ∈ D4.set k ⟨⟨code, wd, [⟨0, 0, 0⟩]⟩, some ⟨yu, 0, none⟩, 1⟩, ∀ p, x.A = some p → p.block ≠ y11 := fun x hx p hp e => by
                  have h2 := HYN.out
                  rcases List.mem_or_eq_of_mem_set hx with hx | hx
                  · have := HN4.out x hx p hp; omega
                  · subst hx
                    have := hra p hp
                    omega
                have hfar : ∀ x ∈ D4.set k ⟨⟨code, wd, [⟨0, 0, 0⟩]⟩, some ⟨yu, 0, none⟩, 1⟩, ∀ p, x.A = some p → w.heap.size ≤ p.block := fun x hx p hp => by
                  have h2 := HY.out
                  have h3 := HB12.out.size
                  rcases List.mem_or_eq_of_mem_set hx with hx | hx
                  · have := HN4.out x hx p hp; omega
                  · subst hx
                    have := hra p hp
                    omega
                have hfa : ∀ p : Addr, (some ⟨g4, 0, none⟩ : Option Addr) = some p → w.heap.size ≤ p.block := fun p hp => by
                  have h1 := (own_block_lt HA4.out.own _ rfl).1
                  have h3 := HB12.out.size
                  rw [← Option.some.inj hp]
                  dsimp only at h1 ⊢; omega
                obtain ⟨ws, hws⟩ : ∃ x, wu.setCells g4 (k * 3) [.int .i64 code, .int .i64 wd, .slice (some ⟨yu, 0, none⟩) 1 1] = x := ⟨_, rfl⟩
                rw [hws] at hst hgs hbs
                have q11 := hq11.grown hgs (fun e => hng (Option.some.inj e))
                try simp only [List.toList_toArray]
                try rw [hws]
                have HFIN := Lib.hid (And.intro hst (And.intro hbs (And.intro hng hdn)))
                have HFAR := Lib.hid (And.intro hfa hfar)
                clear hfa hfar hst hgs hbs hng hdn hws hra hbw hq11
                go_wp2_with (refine wpList_storeRow rfl _ (.tmp 11) (.tmp 131) rfl (l' := [.int .i64 (k : Int), .int .i64 0]) q11 rfl rfl sizeS25 rfl rfl ?_; intro wf rf gf zf)
                refine bodyPost_ret (resultTRT rfl _ _ rfl rf Tryz.underlying35 sizeS25) rfl ?_
                have hbf := HFIN.out.2.1.grown gf HFIN.out.2.1.size (fun i hi => by have := HY.out; have := Option.some.inj hi; omega)
                have hrw := HFIN.out.1.rowsBut gf (fun p hp => by rw [← Option.some.inj hp]; exact HFIN.out.2.2.1) HFIN.out.2.2.2 (by omega)
                exact .inr ⟨_, c4, _, _, k, 0, rfl, hrw, HFAR.out.1, HFAR.out.2, hcap4, .inr ⟨rfl, x.r, HXL.out, HXC.out, rfl⟩, hbf⟩
              · have d1 : (x.r.code == -1) = false := by simp [h1]
                obtain ⟨xc, hxc⟩ : ∃ y, x.r.code = y := ⟨_, rfl⟩
                rw [hxc] at hc0' d1
                clear h1 hxc
                go_wp2_with fail
                go_round
                case rel => exact ⟨k + 1, by omega, by go_num⟩
                case measure => simp [intOf]; omega
            · obtain rfl : k = i := by omega
              go_wp2_with (refine wpList_storeRow rfl _ (.tmp 11) (.tmp 132) rfl (l' := [.int .i64 0, .int .i64 0]) HQ11.out rfl rfl sizeS25 rfl rfl ?_; intro wf rf gf zf)
              refine bodyPost_ret (resultTRT rfl _ _ rfl rf Tryz.underlying35 sizeS25) rfl ?_
              exact .inl ⟨_, (by decide : (16 : Int) ≠ 0), rfl, (HBW.out).grown gf (HBW.out).size (fun i hi => by have := HY.out; have := Option.some.inj hi; omega)⟩
end Go.Proofs.YtihhkcndcgljbaaGreat
