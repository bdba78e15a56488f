/- Joined texts: ChaS, ChaR, ChaC. Conditions: as each part says. -/
import Derived.Test.YtfllkaeaanahmaaGreatChaU
namespace Go.Proofs.YtfllkaeaanahmaaGreat
set_option linter.unusedVariables false
set_option linter.unusedSimpArgs false
section
open Go.RowKit
open W (FRow)
def ChgRes (T : TypeId) (w : World) (b q : Nat) (s : Cha.Sh) (e : Ending) (w' : World) : Prop := e = .returned (.tuple #[]) ∧ BoxS T w' b q s ∧ Keep (two b q) w w'
theorem box_st {w w0 : World} {r g : Int} (hw : w.alloc (.cells #[.int .i64 r, .int .i64 g] 63) = w0) :
  w0.cell? ⟨w.heap.size, 0, none⟩ = some (.int .i64 r) ∧ w0.cell? ⟨w.heap.size, 1, none⟩ = some (.int .i64 g) ∧ Below w.heap.size w w0 ∧ w0.heap.size = w.heap.size + 1 := by
 have k := IsRow.new w 63 [.int .i64 r, .int .i64 g]
 rw [show w.alloc (.cells [Value.int .i64 r, .int .i64 g].toArray 63) = w0 from hw] at k
 exact ⟨k.cell 0, k.cell 1, by rw [← hw]; exact (Below.refl _ _).alloc (Nat.le_refl _) _, by rw [← hw]; simp⟩
theorem rf_elem {w : World} {B n : Nat} {A : Option Addr} {l : List Chk.Rf} (h : Rd w B 2 A n (rfs l)) (hn : l.length = n) {k : Nat} (hk : k < n) : ∃ b off, A = some ⟨b, off, none⟩ ∧ b < B ∧ w.rangeAt b (off + k * 2) (rfCells (l.getD k ⟨0, 0⟩)) := by
 have hkl : k < l.length := by omega
 obtain ⟨b, off, e, hb, hr⟩ := Rd.elem (f := rfCells) h (fun _ _ => rfl) hkl hk
 exact ⟨b, off, e, hb, by rw [List.getD, List.getElem?_eq_getElem hkl]; exact hr⟩
def zRf : List Value := [.int .i64 0, .int .i64 0]
theorem infoRf : (Tryz.prog.info? 76).map (fun i => (i.zero, i.size)) = some (some (.agg zRf.toArray), zRf.length) := by kernel_rfl
set_option maxRecDepth 100000 in
set_option maxHeartbeats 1600000 in
theorem stripe_none {wz w : World} (hz : Below wz.heap.size wz w) {F S : Nat → Prop} {a : Nat} {t : TM} {l : List Chk.Ck} (ht : TAt wz F S a t l) (r g cost : Int) {b q : Nat} {s : Cha.Sh} (hs : BoxS 35 w b q s) (h0 : (Chk.live l r g).length = 0) :
  Calls Tryz.prog 78 #[.pointer (some ⟨b, 0, none⟩), .pointer (some ⟨a, 0, none⟩), .agg #[.int .i64 r, .int .i64 g], .int .i64 cost] w (ChgRes 35 w b q ⟨s.t, Cha.wr (s.h + cost)⟩) := by
 obtain ⟨wb, hwb⟩ : ∃ x, w.alloc (.cells #[.int .i64 r, .int .i64 g] 63) = x := ⟨_, rfl⟩
 obtain ⟨k0, k1, hb0, hs0⟩ := box_st hwb
 have HLV := Lib.hid (live_any (ht.below (hz.trans (hb0.mono hz.size))) r g)
 rw [h0] at HLV
 have HSB := Lib.hid (hs.below hb0)
 have HB0 := Lib.hid hb0
 have HW := Lib.hid hwb
 have HQ : Hid (b < w.heap.size) := Lib.hid hs.lt.1
 clear hz ht hs hwb hb0 hs0 h0
 go_enter Tryz.func78, Tryz.ntmps78
 go_upto_region 1 with fail
 rw [HW.out]
 go_upto_region 2 with (go_at_call 107; refine HLV.out.mono ?_; rintro e w2 ⟨A2, c2, rfl, own2, b2⟩)
 have hs2 := HSB.out.below b2
 obtain ⟨k3, k4, k5⟩ := hs2.cells
 have HS2 := Lib.hid hs2
 have HB2 := Lib.hid (HB0.out.trans (b2.mono HB0.out.size))
 clear own2 b2 hs2 k0 k1
 go_wp2_with fail
 refine bodyPost_ret (results_none rfl _ _ _) rfl ?_
 exact ⟨rfl, HS2.out.setH _, keep_two0 (Keep.of_below HB2.out)⟩
set_option maxRecDepth 100000 in
set_option maxHeartbeats 6400000 in
theorem stripe_some {wz w : World} (hz : Below wz.heap.size wz w) {F S : Nat → Prop} {a : Nat} {t : TM} {l : List Chk.Ck} (ht : TAt wz F S a t l) (r g cost : Int) (h0 : 0 ≤ cost) (h1 : cost ≤ 1000000000) {b q : Nat} {s : Cha.Sh} (hs : BoxS 35 w b q s) (hb : wz.heap.size ≤ b) (hq : wz.heap.size ≤ q) (n : Nat) (hn : (Chk.live l r g).length = n) (hn0 : 0 < n) :
  Calls Tryz.prog 78 #[.pointer (some ⟨b, 0, none⟩), .pointer (some ⟨a, 0, none⟩), .agg #[.int .i64 r, .int .i64 g], .int .i64 cost] w (ChgRes 35 w b q ⟨Cha.liveS l (Chk.live l r g) cost s.t n, s.h⟩) := by
 obtain ⟨wb, hwb⟩ : ∃ x, w.alloc (.cells #[.int .i64 r, .int .i64 g] 63) = x := ⟨_, rfl⟩
 obtain ⟨k0, k1, hb0, hs0⟩ := box_st hwb
 have hn32 : n ≤ 32 := by rw [← hn]; exact Cha.live_le l r g
 have HLV := Lib.hid (live_any (ht.below (hz.trans (hb0.mono hz.size))) r g)
 have HGT : Hid (∀ (W : World) (hW : Below wz.heap.size wz W) (k : Nat) (id : Int), k < n → (Chk.live l r g).getD k 0 = id → Calls Tryz.prog 108 #[.pointer (some ⟨a, 0, none⟩), .int .i64 id] W (GetOk (Cha.ckOf l id) W)) := Lib.hid fun W hW k id hk hid => by
  obtain ⟨j, h1, h2⟩ := Cha.live_pos (l := l) (r := r) (g := g) (id := id) (by rw [← hid]; exact Cha.getD_mem (by omega))
  rw [h2]
  exact get_some (ht.below hW) id j h1
 have HCK : Hid (∀ (k : Nat) (id : Int), k < n → (Chk.live l r g).getD k 0 = id → Chk.CkOk (Cha.ckOf l id)) := Lib.hid fun k id hk hid => by
  obtain ⟨j, h1, h2⟩ := Cha.live_pos (l := l) (r := r) (g := g) (id := id) (by rw [← hid]; exact Cha.getD_mem (by omega))
  rw [h2]
  exact ht.inv.ok _ (List.mem_of_getElem? (Chk.nth_get (Chk.pos_lt h1).1))
 have HEV := Lib.hid (fun V => W.even_ok cost n hn0 (by omega) h0 (by omega) V)
 rw [hn] at HLV
 obtain ⟨xs, hxs⟩ : ∃ xs, Chk.live l r g = xs := ⟨_, rfl⟩
 rw [hxs] at HLV HGT HCK ⊢
 have HXN : Hid (xs.length = n) := Lib.hid (by rw [← hxs]; exact hn)
 have HSB := Lib.hid (hs.below hb0)
 have HB0 := Lib.hid hb0
 have HW := Lib.hid hwb
 have HZ := Lib.hid hz
 have HLT := Lib.hid (And.intro (And.intro hs.lt.1 hs.lt.2) (And.intro hb hq))
 have HS0 := Lib.hid hs0
 have e0 : ((n : Int) == 0) = false := by rw [beq_eq_false_iff_ne]; omega
 clear hz ht hs hwb hb0 hs0 hn hxs hb hq h0 h1
 go_enter Tryz.func78, Tryz.ntmps78
 go_upto_region 1 with fail
 rw [HW.out]
 go_upto_region 6 with (first
  | (go_at_call 107; refine HLV.out.mono ?_; rintro e w2 ⟨A2, c2, rfl, own2, b2⟩; have HO2 := Lib.hid own2; have HB2 := Lib.hid b2; clear own2 b2 k0 k1)
  | (go_at_call 77; refine (HEV.out _).mono ?_; rintro e w3 ⟨gc, rfl, F3, hgc, b3⟩; have HF3 := Lib.hid F3; have HB3 := Lib.hid (And.intro hgc b3); clear F3 hgc b3))
 have HO3 := Lib.hid (own_below HO2.out HB3.out.2)
 have HS3 := Lib.hid ((HSB.out.below HB2.out).below HB3.out.2)
 have HBW := Lib.hid ((HB0.out.trans (HB2.out.mono HB0.out.size)).trans (HB3.out.2.mono (HB0.out.trans (HB2.out.mono HB0.out.size)).size))
 have hgc : wb.heap.size ≤ gc := Nat.le_trans HB2.out.size HB3.out.1
 have HGC := Lib.hid hgc
 clear hgc
 go_loopw [45] (fun u45 wx => ∃ (wr : World) (k : Nat), wr = wx ∧ k ≤ n ∧ u45 = .int .i64 (k : Int) ∧ Hid (BoxS 35 wr b q ⟨Cha.liveS l xs cost s.t k, s.h⟩) ∧ Hid (Keep (two b q) w3 wr)) (fun u45 _ => n - (intOf u45).toNat)
 case atStart => exact ⟨_, 0, rfl, Nat.zero_le _, rfl, HS3, Lib.hid (Keep.refl _ _)⟩
 case round =>
  obtain ⟨wr, k, rfl, hk, rfl, HSR, HKR⟩ := hrel
  have HSM : Hid (∀ x, two b q x → x < wb.heap.size) := Lib.hid fun x hx => by have := HLT.out.1; have := HS0.out; rcases hx with rfl | rfl <;> omega
  by_cases hlt : k < n
  ·
   have hbz : Below wz.heap.size wz wr := Below.then_keep (HZ.out.trans (HBW.out.mono HZ.out.size)) HKR.out (fun x hx => by have := HLT.out.2; rcases hx with rfl | rfl <;> omega) (Nat.le_refl _)
   have HRL := Lib.hid (Rd.of_own (own_keepS HO3.out HKR.out HSM.out))
   obtain ⟨bl, ol, rfl, _, hc⟩ := HRL.out.int HXN.out (by omega)
   have hck := hc k hlt
   obtain ⟨id, hid⟩ : ∃ id, xs.getD k 0 = id := ⟨_, rfl⟩
   rw [hid] at hck
   have HG := Lib.hid (HGT.out wr hbz k id hlt hid)
   have HCO := Lib.hid (HCK.out k id hlt hid)
   have HSU : Hid (Cha.liveS l xs cost s.t (k + 1) = Cha.chunkS (Cha.ckOf l id) (W.evenOf cost n k) (Cha.liveS l xs cost s.t k)) := Lib.hid (by rw [← hid, ← HXN.out]; rfl)
   obtain ⟨c, hc'⟩ : ∃ c, Cha.ckOf l id = c := ⟨_, rfl⟩
   rw [hc'] at HG HCO HSU
   have hcc := (HF3.out.keep (HKR.out.block gc HF3.out.lt (fun hx => by have := HSM.out _ hx; have := HGC.out; omega))).cell k hlt
   obtain ⟨ck, hck2⟩ : ∃ y, W.evenOf cost n k = y := ⟨_, rfl⟩
   rw [hck2] at HSU hcc
   obtain ⟨tt, htt⟩ : ∃ y, Cha.liveS l xs cost s.t k = y := ⟨_, rfl⟩
   rw [htt] at HSU HSR
   unfold GetOk at HG
   obtain ⟨m, hm⟩ : ∃ m, c.refs.length = m := ⟨_, rfl⟩
   rw [hm] at HG
   have HM := Lib.hid hm
   have hm16 : m ≤ 16 := by rw [← hm]; exact refs_len HCO.out.refs
   have HLN := Lib.hid (fun v' => ckCells_len (c := c) HCO.out.dg v')
   have HALL : Hid (∀ v : Value, v.oneCell' = true → (ckCells c v).all (·.oneCell') = true) := Lib.hid fun v hv => by rw [List.all_eq_true]; exact fun u hu => ckCells_one c v hv u hu
   have HCC := Lib.hid hcc
   have i0 : (0 : Int) ≤ (k : Int) := by omega
   have i1 : (k : Int) < (n : Int) := by omega
   clear hbz hc hid hc' hck2 htt hm hcc
   go_upto_region 9 with (first
    | (have tok := rz5; refine wpList_storeRow rfl _ (.tmp 13) (.tmp 54) rfl (l' := ckCells c (.slice A4 m k4)) rz5 rfl rfl (by rw [HLN.out]; exact sizeCk) (by rw [HLN.out]; rfl) (HALL.out _ rfl) ?_; intro w6 rz6 g6 z6; clear tok)
    | (go_at_call 108; refine HG.out.mono ?_; rintro e w4 ⟨A4, k4, rfl, own4, b4⟩)
    | (refine wpList_allocRow rfl _ rfl _ infoCk' ?_; intro w5 rz5 b5 z5))
   have hb6 : Below w4.heap.size w4 w6 := b5.grown g6 b5.size (fun i hi => by have := Option.some.inj hi; omega)
   have HR4 := Lib.hid (((Rd.of_own own4).below hb6).more hb6.size)
   have HF4 := Lib.hid (own_fr own4)
   have k22 := (rz6.cell 22).trans (ckCells_at c (.slice A4 m k4) HCO.out.dg).2.2.2.2.2.2
   have HB6 := Lib.hid (b4.trans (hb6.mono b4.size))
   obtain ⟨b13, hb13⟩ : ∃ y, w4.heap.size = y := ⟨_, rfl⟩
   have H13 : Hid (wr.heap.size ≤ b13 ∧ b13 < w6.heap.size) := Lib.hid ⟨by rw [← hb13]; exact b4.size, by rw [← hb13]; exact rz6.lt⟩
   rw [hb13] at k22 ⊢
   have HK22 := Lib.hid k22
   clear hb6 own4 rz5 b5 z5 g6 z6 b4 hb13 rz6 hck
   try simp only [PT]
   go_upto_region 11 with fail
   clear k22
   go_loopw [15, 59] (fun u15 u59 wx => ∃ (wi : World) (i : Nat) (A3 : Option Addr) (c3 : Nat), wi = wx ∧ i ≤ m ∧ u59 = .int .i64 (i : Int) ∧ u15 = .slice A3 i c3 ∧ Hid (wi.ownsRow w6.heap.size 3 1 (.slice A3 i c3) i (ivs ((Cha.cnts c.refs).take i))) ∧ Hid (Below w6.heap.size w6 wi)) (fun _ u59 _ => m - (intOf u59).toNat)
   case atStart => exact ⟨_, 0, none, 0, rfl, Nat.zero_le _, rfl, rfl, Lib.hid (World.ownsRow_nil _ _ _ _), Lib.hid (Below.refl _ _)⟩
   case round =>
    obtain ⟨wi, i, A3, c3, rfl, hi, rfl, rfl, HO, HBI⟩ := hrel
    by_cases hli : i < m
    ·
     obtain ⟨bR, oR, rfl, hbR, hrg⟩ := rf_elem (HR4.out.below HBI.out) HM.out hli
     have HTK : Hid ((Cha.cnts c.refs).take (i + 1) = (Cha.cnts c.refs).take i ++ [(c.refs.getD i ⟨0, 0⟩).n]) := Lib.hid (by
      have h := HM.out
      rw [List.take_succ_eq_append_getElem (show i < (Cha.cnts c.refs).length by unfold Cha.cnts; rw [List.length_map]; omega)]
      unfold Cha.cnts
      rw [List.getElem_map, List.getD, List.getElem?_eq_getElem (by omega)]; rfl)
     obtain ⟨⟨tn, cn⟩, hrf⟩ : ∃ y, c.refs.getD i ⟨0, 0⟩ = y := ⟨_, rfl⟩
     rw [hrf] at hrg HTK
     unfold rfCells at hrg
     dsimp only at hrg HTK
     have j0 : (0 : Int) ≤ (i : Int) := by omega
     have j1 : (i : Int) < (m : Int) := by omega
     clear hrf hbR
     go_upto_region 13 with (first
      | (refine wpList_load_mid rfl _ (.tmp 61) rfl bR (oR + i * 2) rfl [.int .i64 tn, .int .i64 cn] _ hrg Tryz.underlying76 rfl sizeRf ?_)
      | (have tok := rz7; refine wpList_storeRow rfl _ (.tmp 17) (.tmp 62) rfl (l' := [.int .i64 tn, .int .i64 cn]) rz7 rfl rfl sizeRf rfl rfl ?_; intro w8 rz8 g8 z8; clear tok)
      | (refine wpList_allocRow rfl _ rfl _ infoRf ?_; intro w7 rz7 b7 z7))
     have hb8 : Below wi.heap.size wi w8 := b7.grown g8 b7.size (fun i hi => by have := Option.some.inj hi; omega)
     have HB8 := Lib.hid (HBI.out.trans (hb8.mono HBI.out.size))
     have HO8 := Lib.hid (own_below HO.out hb8)
     have c1 := rz8.cell 1
     dsimp only [List.getElem?_cons_zero, List.getElem?_cons_succ] at c1
     obtain ⟨b17, hb17⟩ : ∃ y, wi.heap.size = y := ⟨_, rfl⟩
     rw [hb17] at c1 ⊢
     clear hrg rz7 b7 z7 g8 z8 rz8 hb8 hb17
     try simp only [PT]
     go_wp2_with (at_builtin; refine wpList_app1 rfl (.tmp 63) (.tmp 66) 27 rfl w6.heap.size 3 _ 8 intsT A3 i c3 (ivs ((Cha.cnts c.refs).take i)) (.int .i64 cn) rfl rfl HO8.out HB8.out rfl (by omega) (Nat.le_refl _) HB8.out.size ?_; intro g9 c9 w9 own9 hb9 hg9; rw [ivs_snoc _ cn rfl, ← HTK.out] at own9; have HO9 := Lib.hid own9; have HB9 := Lib.hid hb9; clear own9 hb9 hg9)
     go_roundw
     case rel => exact ⟨_, i + 1, some ⟨g9, 0, none⟩, c9, rfl, by omega, by go_num, rfl, HO9, HB9⟩
     case measure => simp [intOf]; omega
    ·
     obtain rfl : i = m := by omega
     have HCL : Hid ((Cha.cnts c.refs).length = i) := Lib.hid (by unfold Cha.cnts; rw [List.length_map]; exact HM.out)
     have HTF : Hid ((Cha.cnts c.refs).take i = Cha.cnts c.refs) := Lib.hid (List.take_of_length_le (by rw [HCL.out]; exact Nat.le_refl _))
     have HWG := Lib.hid (weighted_any ck A3 i c3 (Cha.cnts c.refs) HCL.out (by omega) wi.heap.size wi (by have := Rd.of_own HO.out; rwa [HTF.out] at this) (Nat.le_refl _))
     have HSH : Hid (Cha.shares c ck = Cha.wsh ck (Cha.cnts c.refs)) := Lib.hid rfl
     obtain ⟨sh, hsh⟩ : ∃ sh, Cha.wsh ck (Cha.cnts c.refs) = sh := ⟨_, rfl⟩
     have hln : sh.length ≤ i := by
      rw [← hsh]
      by_cases hg : Cha.good ck (Cha.cnts c.refs)
      ·
       rw [Cha.wsh_len hg, HCL.out]; exact Nat.le_refl _
      ·
       rw [Cha.wsh_bad hg]; exact Nat.zero_le _
     rw [hsh] at HWG HSH
     obtain ⟨N, hN⟩ : ∃ N, sh.length = N := ⟨_, rfl⟩
     rw [hN] at HWG hln
     have HN := Lib.hid hN
     have hcc2 : wi.cell? ⟨gc, k, none⟩ = some (.int .i64 ck) := (HBI.out.cell (p := ⟨gc, k, none⟩) (by have := HB6.out.size; have := HKR.out.size; have := HF3.out.lt; show gc < _; omega)).trans ((HB6.out.cell (p := ⟨gc, k, none⟩) (by have := HKR.out.size; have := HF3.out.lt; show gc < _; omega)).trans HCC.out)
     clear hsh hN
     go_upto_region 17 with (go_at_call 51; refine HWG.out.mono ?_; rintro e w9 ⟨A9, c9, er, rfl, r9, f9, _, b9⟩)
     have HR9 := Lib.hid r9
     have HF9 := Lib.hid f9
     have HB9 := Lib.hid b9
     have HS9 := Lib.hid (((HSR.out.below HB6.out).below (HBI.out.mono (Nat.le_refl _))).below b9)
     have HBR : Hid (∀ x, two b q x → x < wr.heap.size) := Lib.hid fun x hx => by have := HSM.out x hx; have := HB2.out.size; have := HB3.out.2.size; have := HKR.out.size; omega
     clear r9 f9 b9 hcc2
     go_loopw [80] (fun u80 wx => ∃ (wj : World) (j : Nat), wj = wx ∧ j ≤ N ∧ u80 = .int .i64 (j : Int) ∧ Hid (BoxS 35 wj b q ⟨Cha.dist c.refs sh tt j, s.h⟩) ∧ Hid (Keep (two b q) w9 wj)) (fun u80 _ => N - (intOf u80).toNat)
     case atStart => exact ⟨_, 0, rfl, Nat.zero_le _, rfl, HS9, Lib.hid (Keep.refl _ _)⟩
     case round =>
      obtain ⟨wj, j, rfl, hj, rfl, HSJ, HKJ⟩ := hrel
      by_cases hlj : j < N
      ·
       obtain ⟨bs, os, rfl, _, hsc⟩ := (keep_rd HR9.out HF9.out HKJ.out (fun x hx => by have := HBR.out x hx; have := HB6.out.size; have := HBI.out.size; omega) (Nat.le_refl _)).int HN.out (by omega)
       have hs1 := hsc j hlj
       obtain ⟨bR, oR, rfl, hbR, hrg⟩ := rf_elem (keep_rd ((HR4.out.below HBI.out).below (HB9.out.mono HBI.out.size)) HF4.out HKJ.out HBR.out (Nat.le_trans HBI.out.size HB9.out.size)) HM.out (show j < i by omega)
       have hten := HCO.out.refs.ten (c.refs.getD j ⟨0, 0⟩) (by rw [List.getD, List.getElem?_eq_getElem (by have := HM.out; omega)]; exact List.getElem_mem _)
       have HDS : Hid (Cha.dist c.refs sh tt (j + 1) = Cha.put1 (Cha.dist c.refs sh tt j) (c.refs.getD j ⟨0, 0⟩).t.toNat (sh.getD j 0)) := Lib.hid rfl
       obtain ⟨⟨tn, cn⟩, hrf⟩ : ∃ y, c.refs.getD j ⟨0, 0⟩ = y := ⟨_, rfl⟩
       obtain ⟨x, hx⟩ : ∃ x, sh.getD j 0 = x := ⟨_, rfl⟩
       rw [hrf] at hrg HDS hten
       rw [hx] at HDS hs1
       dsimp only at HDS hten
       obtain ⟨tk, rfl⟩ : ∃ tk : Nat, tn = (tk : Int) := ⟨tn.toNat, by have := hten.1; omega⟩
       rw [Int.toNat_natCast] at HDS
       have htk : tk < 16 := by have := hten.2; omega
       have q0 : wj.cell? ⟨bR, oR + j * 2, none⟩ = some (.int .i64 (tk : Int)) := hrg 0 _ rfl
       have q1 := HSJ.out.cells.1
       have q2 := HSJ.out.ten.cell tk htk
       have q3 := HSJ.out.ten.free tk htk
       dsimp only at q2
       have HPUT := Lib.hid (HSJ.out.put htk x)
       dsimp only at HPUT
       obtain ⟨y, hy⟩ : ∃ y, Cha.dist c.refs sh tt j tk = y := ⟨_, rfl⟩
       rw [hy] at q2 HPUT
       have q4 : wj.cell? ⟨b13, 22, none⟩ = some (.slice (some ⟨bR, oR, none⟩) i k4) := by
        have e1 := H13.out.1
        have e2 := HBR.out
        have e3 := HBI.out.size
        have e4 := HB9.out.size
        have e5 := H13.out.2
        rw [← HK22.out, ← HBI.out.cell (p := ⟨b13, 22, none⟩) e5, ← HB9.out.cell (p := ⟨b13, 22, none⟩) (by show b13 < _; omega)]
        exact HKJ.out.cell (p := ⟨b13, 22, none⟩) (by show b13 < _; omega) (fun h => by have : b13 < wr.heap.size := e2 _ h; omega)
       have j0 : (0 : Int) ≤ (j : Int) := by omega
       have j1 : (j : Int) < (N : Int) := by omega
       have j2 : (j : Int) < (i : Int) := by omega
       have j3 : (0 : Int) ≤ (tk : Int) := by omega
       have j4 : (tk : Int) < 16 := by omega
       clear hsc hbR hrg hten hrf hx hy
       go_upto_region 19 with fail
       go_region
       all_goals go_wp2_with fail
       go_roundw
       case rel => exact ⟨_, j + 1, rfl, by omega, by go_num, Lib.hid (by rw [HDS.out]; first | exact HPUT.out | exact HPUT.out.drewN _), Lib.hid (by first | exact keep_two1 HKJ.out | exact (keep_two1 HKJ.out).drewN _)⟩
       case measure => simp [intOf]; omega
      ·
       obtain rfl : j = N := by omega
       have HNS : Hid (Cha.chunkS c ck tt = Cha.dist c.refs sh tt j) := Lib.hid (by unfold Cha.chunkS; rw [HSH.out, HN.out])
       go_wp2_with fail
       go_roundw
       case rel => exact ⟨_, k + 1, rfl, by omega, by go_num, Lib.hid (by rw [HSU.out, HNS.out]; exact HSJ.out), Lib.hid (HKR.out.trans (((Keep.of_below HB6.out).trans (Keep.of_below HBI.out)).trans ((Keep.of_below HB9.out).trans HKJ.out)))⟩
       case measure => simp [intOf]; omega
  ·
   obtain rfl : k = n := by omega
   go_wp2_with fail
   refine bodyPost_end (results_none rfl _ _ _) rfl ?_
   exact ⟨rfl, HSR.out, (Keep.of_below HBW.out).trans HKR.out⟩
theorem stripe_any {wz w : World} (hz : Below wz.heap.size wz w) {F S : Nat → Prop} {a : Nat} {t : TM} {l : List Chk.Ck} (ht : TAt wz F S a t l) (r g cost : Int) (h0 : 0 ≤ cost) (h1 : cost ≤ 1000000000) {b q : Nat} {s : Cha.Sh} (hs : BoxS 35 w b q s) (hb : wz.heap.size ≤ b) (hq : wz.heap.size ≤ q) :
  Calls Tryz.prog 78 #[.pointer (some ⟨b, 0, none⟩), .pointer (some ⟨a, 0, none⟩), .agg #[.int .i64 r, .int .i64 g], .int .i64 cost] w (ChgRes 35 w b q (Cha.stripeS l r g cost s)) := by
 unfold Cha.stripeS
 by_cases h : (Chk.live l r g).length = 0
 ·
  rw [if_pos h]; exact stripe_none hz ht r g cost hs h
 ·
  rw [if_neg h]; exact stripe_some hz ht r g cost h0 h1 hs hb hq _ rfl (by omega)
end
section
open Go.RowKit
open W (FRow)
structure ShV where
 s : Cha.Sh
 A : Option Addr
 c : Nat
def ShV.L (x : ShV) : List Value := [.slice x.A 16 x.c, .int .i64 x.s.h]
def ShV.Ok (w : World) (B : Nat) (x : ShV) : Prop := Rd w B 1 x.A 16 (ivs (W.rowL 16 x.s.t))
theorem ShV.Ok.below {w w' : World} {B : Nat} {x : ShV} (h : x.Ok w B) (hb : Below B w w') : x.Ok w' B := Rd.below h hb
theorem ShV.L_one (x : ShV) : ∀ u ∈ x.L, u.oneCell' = true := by
 intro u hu
 simp only [ShV.L, List.mem_cons, List.not_mem_nil, or_false] at hu
 rcases hu with rfl | rfl <;> rfl
namespace Cha
def sumS (f : Nat → Sh) : Nat → Sh
 | 0 => zero
 | k + 1 => addS (sumS f k) (f k)
def part (a b : Nat → Int) (k : Nat) : Nat → Int := fun j => if j < k then wr (a j + b j) else a j
theorem part_succ (a b : Nat → Int) (k : Nat) : (fun j => if j = k then wr (part a b k k + b k) else part a b k j) = part a b (k + 1) := by
 funext j
 unfold part
 by_cases e : j = k
 ·
  subst e; rw [if_pos rfl, if_neg (Nat.lt_irrefl j), if_pos (by omega)]
 ·
  rw [if_neg e]
  by_cases h : j < k
  ·
   rw [if_pos h, if_pos (by omega)]
  ·
   rw [if_neg h, if_neg (by omega)]
theorem part_zero (a b : Nat → Int) : part a b 0 = a := by funext j; unfold part; rw [if_neg (Nat.not_lt_zero j)]
end Cha
theorem BoxS.congr {T : TypeId} {w : World} {b g : Nat} {s : Cha.Sh} (h : BoxS T w b g s) {s' : Cha.Sh} (ht : ∀ j, j < 16 → s'.t j = s.t j) (hh : s'.h = s.h) : BoxS T w b g s' := ⟨by rw [hh]; exact h.row, h.ten.congr ht, h.ne⟩
theorem BoxS.keep {T : TypeId} {w w' : World} {b g : Nat} {s : Cha.Sh} {S : Nat → Prop} (h : BoxS T w b g s) (hk : Keep S w w') (h1 : ¬ S b) (h2 : ¬ S g) : BoxS T w' b g s :=
 ⟨h.row.keep (hk.block b h.lt.1 h1), h.ten.keep (hk.block g h.lt.2 h2), h.ne⟩
set_option maxRecDepth 100000 in
set_option maxHeartbeats 3200000 in
theorem psum_any (A : Option Addr) (n c : Nat) (D : List ShV) (B : Nat) (w : World) (hB : B ≤ w.heap.size) (hl : D.length = n) (hn : n ≤ 100000) (hr : Rd w B 2 A n (D.flatMap ShV.L)) (ho : ∀ x ∈ D, x.Ok w B) :
  Calls Tryz.prog 40 #[.slice A n c] w (ShNew w (Cha.sumS (fun k => (D.getD k ⟨Cha.zero, none, 0⟩).s) n)) := by
 have hm := mk16
 have HR := Lib.hid (hr.more hB)
 have HOK := Lib.hid (fun x hx => Rd.more (ho x hx) hB)
 have HL := Lib.hid hl
 clear hr ho hB hl
 obtain ⟨fs, hfs⟩ : ∃ f : Nat → Cha.Sh, (fun k => (D.getD k ⟨Cha.zero, none, 0⟩).s) = f := ⟨_, rfl⟩
 rw [hfs]
 have HFS := Lib.hid hfs
 clear hfs
 go_enter Tryz.func40, Tryz.ntmps40
 go_upto_region 1 with (refine wpList_allocRow rfl _ rfl _ infoSP ?_; intro w1 r1 b1 z1)
 have r2 := IsRow.new w1 3 (ivs z16)
 have b2 : Below w1.heap.size w1 (w1.alloc (.cells (ivs z16).toArray 3)) := (Below.refl _ _).alloc (Nat.le_refl _) _
 obtain ⟨w2, hw2⟩ : ∃ x, w1.alloc (.cells (ivs z16).toArray 3) = x := ⟨_, rfl⟩
 rw [hw2] at r2 b2
 obtain ⟨g8, hg8⟩ : ∃ y, w1.heap.size = y := ⟨_, rfl⟩
 obtain ⟨b2', hb2'⟩ : ∃ y, w.heap.size = y := ⟨_, rfl⟩
 rw [hb2'] at r1
 rw [hg8] at r2
 have HZ := Lib.hid (And.intro z1 (And.intro hg8 hb2'))
 have HR1 := Lib.hid (r1.below' b2)
 have HR2 := Lib.hid r2
 have HB2 := Lib.hid (b1.trans (b2.mono b1.size))
 clear z1 r2 b1 b2
 try rw [hb2']
 go_upto_region 3 with (first
  | (have tok := r3; refine wpList_storeRow rfl _ (.tmp 3) (.tmp 9) rfl (l' := [.slice (some ⟨g8, 0, none⟩) 16 16, .int .i64 0]) r3 rfl rfl sizeSP rfl rfl ?_; intro w4 r4 g4 z4; clear tok)
  | (refine wpList_allocRow rfl _ rfl _ infoSP ?_; intro w3 r3 b3 z3))
 obtain ⟨bx, hbx⟩ : ∃ y, w2.heap.size = y := ⟨_, rfl⟩
 have hb4 : Below w2.heap.size w2 w4 := b3.grown g4 b3.size (fun i hi => by have := Option.some.inj hi; omega)
 have HB4 := Lib.hid (HB2.out.trans (hb4.mono HB2.out.size))
 have HRR := Lib.hid (HR1.out.below' hb4)
 rw [hbx] at r4
 have HX : Hid (b2' < g8 ∧ g8 < bx ∧ w.heap.size = b2') := Lib.hid ⟨by have := HZ.out; have := HR1.out.lt; omega, by have := HR2.out.lt; omega, HZ.out.2.2⟩
 have HBX : Hid (BoxS 35 w4 bx g8 Cha.zero) := Lib.hid ⟨r4, frow_zero (HR2.out.below' hb4), by have := HX.out; omega⟩
 clear hw2 r3 b3 z3 r4 g4 z4 hb4 hm r1
 try rw [hbx]
 clear hbx HR1 HR2 HB2 HZ hg8 hb2'
 go_loopw [12] (fun u12 wx => ∃ (wr : World) (k : Nat), wr = wx ∧ k ≤ n ∧ u12 = .int .i64 (k : Int) ∧ Hid (BoxS 35 wr bx g8 (Cha.sumS fs k)) ∧ Hid (Keep (two bx g8) w4 wr)) (fun u12 _ => n - (intOf u12).toNat)
 case atStart => exact ⟨_, 0, rfl, Nat.zero_le _, rfl, HBX, Lib.hid (Keep.refl _ _)⟩
 case round =>
  obtain ⟨wr, k, rfl, hk, rfl, HSR, HKR⟩ := hrel
  have hbw : Below w.heap.size w wr := Below.then_keep HB4.out HKR.out (fun x hx => by have := HX.out; rcases hx with rfl | rfl <;> omega) (Nat.le_refl _)
  have HBW := Lib.hid hbw
  clear hbw
  by_cases hlt : k < n
  ·
   have hkl : k < D.length := by rw [HL.out]; exact hlt
   obtain ⟨b, off, rfl, hbb, hrg⟩ := HR.out.elem (f := ShV.L) (fun _ _ => rfl) hkl hlt
   have hrw : wr.rangeAt b (off + k * 2) (ShV.L D[k]) := fun q u hq => (HBW.out.cell (p := ⟨b, off + k * 2 + q, none⟩) hbb).trans (hrg q u hq)
   have hok := (HOK.out _ (List.getElem_mem hkl)).below HBW.out
   have HFK : Hid (fs k = D[k].s) := Lib.hid (by rw [← HFS.out]; show (D.getD k _).s = _; rw [List.getD, List.getElem?_eq_getElem hkl]; rfl)
   obtain ⟨⟨⟨tx, hx⟩, Ax, cx⟩, hxx⟩ : ∃ x, D[k] = x := ⟨_, rfl⟩
   rw [hxx] at hrw hok HFK
   have HOX : Hid (Rd wr w.heap.size 1 Ax 16 (ivs (W.rowL 16 tx))) := Lib.hid hok
   unfold ShV.L at hrw
   dsimp only at hrw HFK
   have HSS : Hid (Cha.sumS fs (k + 1) = Cha.addS (Cha.sumS fs k) ⟨tx, hx⟩) := Lib.hid (by rw [← HFK.out]; rfl)
   obtain ⟨sa, hsa⟩ : ∃ y, Cha.sumS fs k = y := ⟨_, rfl⟩
   rw [hsa] at HSS HSR
   have i0 : (0 : Int) ≤ (k : Int) := by omega
   have i1 : (k : Int) < (n : Int) := by omega
   clear hkl hbb hrg hxx hok hsa
   go_upto_region 6 with (first
    | (refine wpList_load_mid rfl _ (.tmp 14) rfl b (off + k * 2) rfl [.slice Ax 16 cx, .int .i64 hx] _ hrw Tryz.underlying35 rfl sizeSP ?_)
    | (have tok := r5; refine wpList_storeRow rfl _ (.tmp 5) (.tmp 15) rfl (l' := [.slice Ax 16 cx, .int .i64 hx]) r5 rfl rfl sizeSP rfl rfl ?_; intro w6 r6 g6 z6; have q0 := r6.cell 0; clear tok)
    | (refine wpList_allocRow rfl _ rfl _ infoSP ?_; intro w5 r5 b5 z5))
   have hb6 : Below wr.heap.size wr w6 := b5.grown g6 b5.size (fun i hi => by have := Option.some.inj hi; omega)
   obtain ⟨b5', hb5'⟩ : ∃ y, wr.heap.size = y := ⟨_, rfl⟩
   have HB6 := Lib.hid hb6
   have HS6 := Lib.hid (HSR.out.below hb6)
   have HO6 := Lib.hid (HOX.out.below (hb6.mono HBW.out.size))
   rw [hb5'] at r6 q0 ⊢
   have HQ1 : Hid (w6.cell? ⟨b5', 1, none⟩ = some (.int .i64 hx)) := Lib.hid (r6.cell 1)
   have H5 : Hid (b5' < w6.heap.size ∧ bx < b5' ∧ g8 < b5') := Lib.hid ⟨r6.lt, by have := HSR.out.lt; omega, by have := HSR.out.lt; omega⟩
   clear hrw r5 b5 z5 r6 g6 z6 hb6 hb5' q0
   try simp only [PT]
   go_loopw [19] (fun u19 wx => ∃ (wi : World) (i : Nat), wi = wx ∧ i ≤ 16 ∧ u19 = .int .i64 (i : Int) ∧ Hid (BoxS 35 wi bx g8 ⟨Cha.part sa.t tx i, sa.h⟩) ∧ Hid (Keep (two bx g8) w6 wi)) (fun u19 _ => 16 - (intOf u19).toNat)
   case atStart => exact ⟨_, 0, rfl, Nat.zero_le _, rfl, Lib.hid (by rw [Cha.part_zero]; exact HS6.out), Lib.hid (Keep.refl _ _)⟩
   case round =>
    obtain ⟨wi, i, rfl, hi, rfl, HSI, HKI⟩ := hrel
    by_cases hli : i < 16
    ·
     have hbi : Below w.heap.size w6 wi := HKI.out.below (Nat.le_trans HBW.out.size HB6.out.size) (fun x hx hs => by have := HX.out; rcases hs with rfl | rfl <;> omega)
     obtain ⟨bs, os, rfl, _, hsc⟩ := (HO6.out.below hbi).int (W.rowL_len 16 tx) (by omega)
     have hs1 := hsc i hli
     rw [W.rowL_get tx hli] at hs1
     have q1 := HSI.out.cells.1
     have q2 := HSI.out.ten.cell i hli
     have q3 := HSI.out.ten.free i hli
     dsimp only at q2
     have HPUT := Lib.hid (HSI.out.setT hli (wrap64 (Cha.part sa.t tx i i + tx i)))
     have HPS : Hid ((fun j => if j = i then wrap64 (Cha.part sa.t tx i i + tx i) else Cha.part sa.t tx i j) = Cha.part sa.t tx (i + 1)) := Lib.hid (Cha.part_succ sa.t tx i)
     dsimp only at HPUT
     rw [HPS.out] at HPUT
     obtain ⟨y, hy⟩ : ∃ y, Cha.part sa.t tx i i = y := ⟨_, rfl⟩
     obtain ⟨x, hx'⟩ : ∃ x, tx i = x := ⟨_, rfl⟩
     rw [hy] at q2 HPUT
     rw [hx'] at hs1 HPUT
     have j0 : (0 : Int) ≤ (i : Int) := by omega
     have j1 : (i : Int) < 16 := by omega
     clear hsc hbi hy hx' HPS
     go_wp2_with fail
     go_roundw
     case rel => exact ⟨_, i + 1, rfl, by omega, by go_num, HPUT, Lib.hid (keep_two1 HKI.out)⟩
     case measure => simp [intOf]; omega
    ·
     obtain rfl : i = 16 := by omega
     have q1 := HSI.out.cells.2.1
     have q2 := HSI.out.cells.2.2
     have q3 : wi.cell? ⟨b5', 1, none⟩ = some (.int .i64 hx) := (HKI.out.cell (p := ⟨b5', 1, none⟩) H5.out.1 (fun h => by have h1 := H5.out; rcases h with h | h <;> (have h : b5' = _ := h; omega))).trans HQ1.out
     dsimp only at q1
     have HPUT := Lib.hid (HSI.out.setH (wrap64 (sa.h + hx)))
     dsimp only at HPUT
     obtain ⟨y, hy⟩ : ∃ y, sa.h = y := ⟨_, rfl⟩
     have HEND : Hid (∀ W, BoxS 35 W bx g8 ⟨Cha.part sa.t tx 16, wrap64 (y + hx)⟩ → BoxS 35 W bx g8 (Cha.sumS fs (k + 1))) := Lib.hid fun W hW => by
      rw [HSS.out]
      exact hW.congr (fun j hj => by unfold Cha.addS Cha.part; dsimp only; rw [if_pos hj]) (by unfold Cha.addS; dsimp only; rw [hy])
     rw [hy] at q1 HPUT
     clear hy
     go_wp2_with fail
     go_roundw
     case rel => exact ⟨_, k + 1, rfl, by omega, by go_num, Lib.hid (HEND.out _ HPUT.out), Lib.hid (HKR.out.trans ((Keep.of_below HB6.out).trans (keep_two0 HKI.out)))⟩
     case measure => simp [intOf]; omega
  ·
   obtain rfl : k = n := by omega
   have hs := HSR.out
   have hrng : wr.rangeAt bx 0 (shL g8 (Cha.sumS fs k).h) := fun q u hq => by rw [Nat.zero_add, hs.row.cell]; exact hq
   have r9 : IsRow wr b2' 35 zShL := HRR.out.keep (HKR.out.block b2' HRR.out.lt (fun h => by have := HX.out; rcases h with h | h <;> omega))
   obtain ⟨y, hy⟩ : ∃ y, (Cha.sumS fs k).h = y := ⟨_, rfl⟩
   have HSX : Hid (FRow wr g8 16 (Cha.sumS fs k).t ∧ (Cha.sumS fs k).h = y) := Lib.hid ⟨hs.ten, hy⟩
   rw [hy] at hrng
   unfold shL at hrng
   clear hs hy
   go_wp2_with (first
    | (refine wpList_load_mid rfl _ (.tmp 3) rfl bx 0 rfl [.slice (some ⟨g8, 0, none⟩) 16 16, .int .i64 y] _ hrng Tryz.underlying35 rfl sizeSP ?_)
    | (refine wpList_storeRow rfl _ (.tmp 2) (.tmp 40) rfl (l' := [.slice (some ⟨g8, 0, none⟩) 16 16, .int .i64 y]) r9 rfl rfl sizeSP rfl rfl ?_; intro w10 r10 g10 z10))
   refine bodyPost_ret (resultRowH rfl _ _ r10 rfl Tryz.underlying35 sizeSP) rfl ?_
   have hx := HX.out
   exact ⟨g8, by rw [HSX.out.2]; rfl, HSX.out.1.keep (g10.block g8 HSX.out.1.lt (fun e => by have := Option.some.inj e; omega)), by omega, HBW.out.grown g10 HBW.out.size (fun i hi => by have := Option.some.inj hi; omega)⟩
end
section
open Go.RowKit
open W (FRow)
set_option maxRecDepth 100000 in
set_option maxHeartbeats 6400000 in
theorem rchunk_any (c : Chk.Ck) (hok : Chk.CkOk c) (A : Option Addr) (m k4 : Nat) (hm : c.refs.length = m) (cost h : Int) (q : Nat) (tt : Nat → Int) (B : Nat) (w : World) (hB : B ≤ w.heap.size) (hr : Rd w B 2 A m (rfs c.refs)) (hA : ∀ p, A = some p → p.block ≠ q) (hq : FRow w q 16 tt) (cs : List Value) (hcs : ckCells c (.slice A m k4) = cs) :
  Calls Tryz.prog 49 #[.agg #[.slice (some ⟨q, 0, none⟩) 16 16, .int .i64 h], .agg cs.toArray, .int .i64 cost] w fun e w' => e = .returned (.tuple #[]) ∧ FRow w' q 16 (Cha.chunkS c cost tt) ∧ Keep (fun x => x = q) w w' := by
 have hat := (ckCells_at c (.slice A m k4) hok.dg).2.2.2.2.2.2
 rw [hcs] at hat
 obtain ⟨w0, hw0⟩ : ∃ z, w.alloc (.cells #[.slice (some ⟨q, 0, none⟩) 16 16, .int .i64 h] 39) = z := ⟨_, rfl⟩
 have R0 := IsRow.new w 39 [.slice (some ⟨q, 0, none⟩) 16 16, .int .i64 h]
 rw [show w.alloc (.cells [Value.slice (some ⟨q, 0, none⟩) 16 16, .int .i64 h].toArray 39) = w0 from hw0] at R0
 have b0 : Below w.heap.size w w0 := by rw [← hw0]; exact (Below.refl _ _).alloc (Nat.le_refl _) _
 have s0 : w0.heap.size = w.heap.size + 1 := by rw [← hw0]; simp
 have R1 := IsRow.new w0 68 cs
 have b1 : Below w0.heap.size w0 (w0.alloc (.cells cs.toArray 68)) := (Below.refl _ w0).alloc (Nat.le_refl _) _
 generalize hva : cs.toArray = va at *
 obtain ⟨w1, hw1⟩ : ∃ z, w0.alloc (.cells va 68) = z := ⟨_, rfl⟩
 rw [hw1] at R1 b1
 have b01 := b0.trans (b1.mono b0.size)
 have R01 := R0.below' b1
 rw [s0] at R1
 have k0 := R01.cell 0
 have k22 := (R1.cell 22).trans hat
 dsimp only [List.getElem?_cons_zero] at k0
 have HK := Lib.hid (And.intro k0 k22)
 have HL1 : Hid (w.heap.size + 1 < w1.heap.size ∧ q < w.heap.size) := Lib.hid ⟨R1.lt, hq.lt⟩
 have HW0 := Lib.hid hw0
 have HW1 := Lib.hid hw1
 have HS0 := Lib.hid s0
 have HB := Lib.hid b01
 have HR := Lib.hid ((hr.more hB).below b01)
 have HQ := Lib.hid (hq.below b01)
 have HCO := Lib.hid hok
 have HM := Lib.hid hm
 have HA := Lib.hid hA
 have hm16 : m ≤ 16 := by rw [← hm]; exact refs_len hok.refs
 clear hat hw0 R0 b0 s0 R1 b1 hva hw1 b01 R01 hr hB hq hok hm hcs k0 k22 hA
 go_enter Tryz.func49, Tryz.ntmps49
 go_upto_region 1 with fail
 rw [HW0.out, HW1.out]
 try rw [HS0.out]
 go_upto_region 3 with fail
 go_loopw [6, 7] (fun u6 u7 wx => ∃ (wi : World) (i : Nat) (A3 : Option Addr) (c3 : Nat), wi = wx ∧ i ≤ m ∧ u7 = .int .i64 (i : Int) ∧ u6 = .slice A3 i c3 ∧ Hid (wi.ownsRow w1.heap.size 3 1 (.slice A3 i c3) i (ivs ((Cha.cnts c.refs).take i))) ∧ Hid (Below w1.heap.size w1 wi)) (fun _ u7 _ => m - (intOf u7).toNat)
 case atStart => exact ⟨_, 0, none, 0, rfl, Nat.zero_le _, rfl, rfl, Lib.hid (World.ownsRow_nil _ _ _ _), Lib.hid (Below.refl _ _)⟩
 case round =>
  obtain ⟨wi, i, A3, c3, rfl, hi, rfl, rfl, HO, HBI⟩ := hrel
  have k22 : wi.cell? ⟨w.heap.size + 1, 22, none⟩ = some (.slice A m k4) := (HBI.out.cell (p := ⟨w.heap.size + 1, 22, none⟩) HL1.out.1).trans HK.out.2
  by_cases hli : i < m
  ·
   obtain ⟨bR, oR, rfl, hbR, hrg⟩ := rf_elem (HR.out.below (HBI.out.mono HB.out.size)) HM.out hli
   have HTK : Hid ((Cha.cnts c.refs).take (i + 1) = (Cha.cnts c.refs).take i ++ [(c.refs.getD i ⟨0, 0⟩).n]) := Lib.hid (by
    have h := HM.out
    rw [List.take_succ_eq_append_getElem (show i < (Cha.cnts c.refs).length by unfold Cha.cnts; rw [List.length_map]; omega)]
    unfold Cha.cnts
    rw [List.getElem_map, List.getD, List.getElem?_eq_getElem (by omega)]; rfl)
   obtain ⟨⟨tn, cn⟩, hrf⟩ : ∃ y, c.refs.getD i ⟨0, 0⟩ = y := ⟨_, rfl⟩
   rw [hrf] at hrg HTK
   dsimp only at HTK
   have c1 : wi.cell? ⟨bR, oR + i * 2 + 1, none⟩ = some (.int .i64 cn) := hrg 1 _ rfl
   have j0 : (0 : Int) ≤ (i : Int) := by omega
   have j1 : (i : Int) < (m : Int) := by omega
   clear hrf hbR hrg
   go_wp2_with (at_builtin; refine wpList_app1 rfl (.tmp 19) (.tmp 26) 27 rfl w1.heap.size 3 _ 8 intsT A3 i c3 (ivs ((Cha.cnts c.refs).take i)) (.int .i64 cn) rfl rfl HO.out HBI.out rfl (by omega) (Nat.le_refl _) HBI.out.size ?_; intro g9 c9 w9 own9 hb9 hg9; rw [ivs_snoc _ cn rfl, ← HTK.out] at own9; have HO9 := Lib.hid own9; have HB9 := Lib.hid hb9; clear own9 hb9 hg9)
   go_roundw
   case rel => exact ⟨_, i + 1, some ⟨g9, 0, none⟩, c9, rfl, by omega, by go_num, rfl, HO9, HB9⟩
   case measure => simp [intOf]; omega
  ·
   obtain rfl : i = m := by omega
   have HCL : Hid ((Cha.cnts c.refs).length = i) := Lib.hid (by unfold Cha.cnts; rw [List.length_map]; exact HM.out)
   have HTF : Hid ((Cha.cnts c.refs).take i = Cha.cnts c.refs) := Lib.hid (List.take_of_length_le (by rw [HCL.out]; exact Nat.le_refl _))
   have HWG := Lib.hid (rweighted_any cost A3 i c3 (Cha.cnts c.refs) HCL.out (by omega) wi.heap.size wi (by have := Rd.of_own HO.out; rwa [HTF.out] at this) (Nat.le_refl _))
   have HSH : Hid (Cha.shares c cost = Cha.wsh cost (Cha.cnts c.refs)) := Lib.hid rfl
   obtain ⟨sh, hsh⟩ : ∃ sh, Cha.wsh cost (Cha.cnts c.refs) = sh := ⟨_, rfl⟩
   have hln : sh.length ≤ i := by
    rw [← hsh]
    by_cases hg : Cha.good cost (Cha.cnts c.refs)
    ·
     rw [Cha.wsh_len hg, HCL.out]; exact Nat.le_refl _
    ·
     rw [Cha.wsh_bad hg]; exact Nat.zero_le _
   rw [hsh] at HWG HSH
   obtain ⟨N, hN⟩ : ∃ N, sh.length = N := ⟨_, rfl⟩
   rw [hN] at HWG hln
   have HN := Lib.hid hN
   clear hsh hN
   go_upto_region 8 with (go_at_call 53; refine HWG.out.mono ?_; rintro e w9 ⟨A9, c9, er, rfl, r9, f9, _, b9⟩)
   have HR9 := Lib.hid r9
   have HF9 := Lib.hid f9
   have HB9 := Lib.hid b9
   have HQ9 := Lib.hid ((HQ.out.below HBI.out).below b9)
   have HK9 : Hid (∀ (b o : Nat) v, b < w1.heap.size → w1.cell? ⟨b, o, none⟩ = some v → w9.cell? ⟨b, o, none⟩ = some v) := Lib.hid fun b o v hb hv => (b9.cell (p := ⟨b, o, none⟩) (by have := HBI.out.size; show b < _; omega)).trans ((HBI.out.cell (p := ⟨b, o, none⟩) hb).trans hv)
   clear r9 f9 b9 k22
   go_loopw [10] (fun u10 wx => ∃ (wj : World) (j : Nat), wj = wx ∧ j ≤ N ∧ u10 = .int .i64 (j : Int) ∧ Hid (FRow wj q 16 (Cha.dist c.refs sh tt j)) ∧ Hid (Keep (fun x => x = q) w9 wj)) (fun u10 _ => N - (intOf u10).toNat)
   case atStart => exact ⟨_, 0, rfl, Nat.zero_le _, rfl, HQ9, Lib.hid (Keep.refl _ _)⟩
   case round =>
    obtain ⟨wj, j, rfl, hj, rfl, HSJ, HKJ⟩ := hrel
    by_cases hlj : j < N
    ·
     have hqi : q < wi.heap.size := by have := HL1.out; have := HBI.out.size; omega
     obtain ⟨bs, os, rfl, _, hsc⟩ := (keep_rd HR9.out HF9.out HKJ.out (fun x hx => by subst hx; exact hqi) (Nat.le_refl _)).int HN.out (by omega)
     have hs1 := hsc j hlj
     obtain ⟨bR, oR, rfl, hbR, hrg⟩ := rf_elem (((HR.out.below (HBI.out.mono HB.out.size)).below (HB9.out.mono (Nat.le_trans HB.out.size HBI.out.size))).keepS HKJ.out (Nat.le_trans (Nat.le_trans HB.out.size HBI.out.size) HB9.out.size) HA.out) HM.out (show j < i by omega)
     have hten := HCO.out.refs.ten (c.refs.getD j ⟨0, 0⟩) (by rw [List.getD, List.getElem?_eq_getElem (by have := HM.out; omega)]; exact List.getElem_mem _)
     have HDS : Hid (Cha.dist c.refs sh tt (j + 1) = Cha.put1 (Cha.dist c.refs sh tt j) (c.refs.getD j ⟨0, 0⟩).t.toNat (sh.getD j 0)) := Lib.hid rfl
     obtain ⟨⟨tn, cn⟩, hrf⟩ : ∃ y, c.refs.getD j ⟨0, 0⟩ = y := ⟨_, rfl⟩
     obtain ⟨x, hx⟩ : ∃ x, sh.getD j 0 = x := ⟨_, rfl⟩
     rw [hrf] at hrg HDS hten
     rw [hx] at HDS hs1
     dsimp only at HDS hten
     obtain ⟨tk, rfl⟩ : ∃ tk : Nat, tn = (tk : Int) := ⟨tn.toNat, by have := hten.1; omega⟩
     rw [Int.toNat_natCast] at HDS
     have htk : tk < 16 := by have := hten.2; omega
     have q0 : wj.cell? ⟨bR, oR + j * 2, none⟩ = some (.int .i64 (tk : Int)) := hrg 0 _ rfl
     have hl := HL1.out
     have q1 : wj.cell? ⟨w.heap.size, 0, none⟩ = some (.slice (some ⟨q, 0, none⟩) 16 16) := (HKJ.out.cell (p := ⟨w.heap.size, 0, none⟩) (by have := HBI.out.size; have := HB9.out.size; show w.heap.size < _; omega) (fun e => by have e : w.heap.size = q := e; omega)).trans (HK9.out w.heap.size 0 _ (by omega) HK.out.1)
     have q4 : wj.cell? ⟨w.heap.size + 1, 22, none⟩ = some (.slice (some ⟨bR, oR, none⟩) i k4) := (HKJ.out.cell (p := ⟨w.heap.size + 1, 22, none⟩) (by have := HBI.out.size; have := HB9.out.size; show w.heap.size + 1 < _; omega) (fun e => by have e : w.heap.size + 1 = q := e; omega)).trans (HK9.out _ _ _ hl.1 HK.out.2)
     have q2 := HSJ.out.cell tk htk
     have q3 := HSJ.out.free tk htk
     have HPUT := Lib.hid (HSJ.out.set htk (wrap64 (Cha.dist c.refs sh tt j tk + x)))
     have HDS2 : Hid ((fun t => if t = tk then wrap64 (Cha.dist c.refs sh tt j tk + x) else Cha.dist c.refs sh tt j t) = Cha.dist c.refs sh tt (j + 1)) := Lib.hid (by rw [HDS.out]; rfl)
     rw [HDS2.out] at HPUT
     obtain ⟨y, hy⟩ : ∃ y, Cha.dist c.refs sh tt j tk = y := ⟨_, rfl⟩
     rw [hy] at q2 HPUT
     have j0 : (0 : Int) ≤ (j : Int) := by omega
     have j1 : (j : Int) < (N : Int) := by omega
     have j2 : (j : Int) < (i : Int) := by omega
     have j3 : (0 : Int) ≤ (tk : Int) := by omega
     have j4 : (tk : Int) < 16 := by omega
     clear hsc hbR hrg hten hrf hx hy hl hqi HDS HDS2
     go_upto_region 11 with fail
     go_region
     all_goals go_wp2_with fail
     go_roundw
     case rel => exact ⟨_, j + 1, rfl, by omega, by go_num, Lib.hid (by first | exact HPUT.out | exact HPUT.out.drewN _), Lib.hid (by first | exact HKJ.out.setCell (.inl rfl) _ | exact (HKJ.out.setCell (.inl rfl) _).drewN _)⟩
     case measure => simp [intOf]; omega
    ·
     obtain rfl : j = N := by omega
     have HNS : Hid (Cha.chunkS c cost tt = Cha.dist c.refs sh tt j) := Lib.hid (by unfold Cha.chunkS; rw [HSH.out, HN.out])
     go_wp2_with fail
     refine bodyPost_end (results_none rfl _ _ _) rfl ?_
     exact ⟨rfl, by rw [HNS.out]; exact HSJ.out, (Keep.of_below HB.out).trans (((Keep.of_below HBI.out).trans (Keep.of_below HB9.out)).trans HKJ.out)⟩
end
end Go.Proofs.YtfllkaeaanahmaaGreat
