/- Charge: the share of a row's slots. Conditions: the table and the rows are kept; at most 1000 used stripes, from 0 to 1000000 disks. -/
import Derived.Test.YtfllkaeaanahmaaGreatChaC
namespace Go.Proofs.YtfllkaeaanahmaaGreat
set_option linter.unusedVariables false
set_option linter.unusedSimpArgs false
open Go.RowKit
open W (FRow)
theorem box_cfg {w w0 : World} {cf : S.Str.Cfg} (hw : w.alloc (.cells #[.int .i64 cf.d, .int .i64 cf.r, .int .i64 cf.rows, .int .i64 cf.sp, .int .i64 cf.log, .int .i64 cf.img] 23) = w0) :
  IsRow w0 w.heap.size 23 (S.cfL cf) ∧ Below w.heap.size w w0 ∧ w0.heap.size = w.heap.size + 1 := by
 have k := IsRow.new w 23 (S.cfL cf)
 rw [show w.alloc (.cells (S.cfL cf).toArray 23) = w0 from hw] at k
 exact ⟨k, by rw [← hw]; exact (Below.refl _ _).alloc (Nat.le_refl _) _, by rw [← hw]; simp⟩
def zUd : List Value := [.int .i64 0, .int .i64 0, .int .i64 0]
theorem infoUd' : (Tryz.prog.info? 72).map (fun i => (i.zero, i.size)) = some (some (.agg zUd.toArray), zUd.length) := by kernel_rfl
set_option maxRecDepth 100000 in
set_option maxHeartbeats 6400000 in
theorem row_any {wz w : World} (hz : Below wz.heap.size wz w) {F T : Nat → Prop} {a : Nat} {t : TM} {l : List Chk.Ck} (ht : TAt wz F T a t l) {B m cp : Nat} {A : Option Addr} {D : List S.RR} {rs : List S.Str.Rw} (h : S.RowsAt w B A m D rs) (hB : B ≤ w.heap.size) (cf : S.Str.Cfg) (hd0 : 0 ≤ cf.d) (hd1 : cf.d ≤ 1000000)
  (k : Nat) (hk : k < m) (hu : (rs.getD k S.Str.free).used.length ≤ 1000) :
  Calls Tryz.prog 39 #[S.cfV cf, .slice A m cp, .pointer (some ⟨a, 0, none⟩), .int .i64 (k : Int)] w (ShNew w (Cha.rowAt l rs cf.d k)) := by
 obtain ⟨b, off, x, rfl, hbb, hD, hl, hok, hrg, c0, _, c2⟩ := h.at hk
 have hrow : rs.getD k S.Str.free = x.r := by rw [List.getD, hl]; rfl
 unfold Cha.rowAt
 rw [hrow] at hu ⊢
 have hmx := h.mx
 have hblt := Nat.lt_of_lt_of_le hbb hB
 have HX := Lib.hid (hok.more hB)
 obtain ⟨⟨cd, wd, us⟩, xA, xk⟩ := x
 unfold S.RR.v at c2
 dsimp only at c0 c2 hu ⊢
 unfold Cha.rowS
 obtain ⟨n, hn⟩ : ∃ n, us.length = n := ⟨_, rfl⟩
 rw [hn] at c2 hu ⊢
 have HN := Lib.hid hn
 obtain ⟨w0, hw0⟩ : ∃ z, w.alloc (.cells #[.int .i64 cf.d, .int .i64 cf.r, .int .i64 cf.rows, .int .i64 cf.sp, .int .i64 cf.log, .int .i64 cf.img] 23) = z := ⟨_, rfl⟩
 obtain ⟨kr, hb0, hs0⟩ := box_cfg hw0
 have HW := Lib.hid hw0
 have HB0 := Lib.hid (And.intro hb0 hs0)
 have HC := Lib.hid (And.intro hblt c2)
 have HZ := Lib.hid hz
 have HKD : Hid (∀ W, Below w0.heap.size w0 W → W.cell? ⟨w.heap.size, 0, none⟩ = some (.int .i64 cf.d)) := Lib.hid fun W hW => (kr.below' hW).cell 0
 have HT := Lib.hid (fun (W : World) (hW : Below wz.heap.size wz W) (r g cost : Int) (h0 : 0 ≤ cost) (h1 : cost ≤ 1000000000) (b q : Nat) (s : Cha.Sh) (hs : BoxS 35 W b q s) (hb : wz.heap.size ≤ b) (hq : wz.heap.size ≤ q) => stripe_any hW ht r g cost h0 h1 hs hb hq)
 have HWZ := Lib.hid hz.size
 have e1 : (0 : Int) ≤ (k : Int) := by omega
 have e2 : (k : Int) < (m : Int) := by omega
 have HD := Lib.hid (And.intro hd0 hd1)
 clear hD hl hok hrg c0 c2 hbb hblt hw0 kr hb0 hs0 hz ht h hB hn hrow hd0 hd1
 obtain ⟨d, rr, rows, sp, log, img⟩ := cf
 dsimp only at HW HKD HD ⊢
 unfold S.cfV
 dsimp only
 go_enter Tryz.func39, Tryz.ntmps39
 go_upto_region 1 with (rw [HW.out]; refine wpList_allocRow rfl _ rfl _ infoSP ?_; intro w1 r1 b1 z1)
 obtain ⟨bR, hbR⟩ : ∃ y, w0.heap.size = y := ⟨_, rfl⟩
 rw [hbR] at r1
 try rw [hbR]
 have HB1 := Lib.hid (HB0.out.1.trans (b1.mono HB0.out.1.size))
 have HR1 := Lib.hid r1
 have H1 : Hid (w.heap.size < bR ∧ Below w0.heap.size w0 w1) := Lib.hid ⟨by have := HB0.out.2; omega, b1⟩
 have HPS := Lib.hid (psum_any none 0 0 [] 0 w1 (Nat.zero_le _) rfl (by omega) (Rd.nil_ _ _ _ _) (fun x hx => (List.not_mem_nil hx).elim))
 clear r1 b1 z1 hbR
 go_upto_region 2 with (first
  | (have tok := r3; refine wpList_storeRow rfl _ (.tmp 9) (.tmp 15) rfl (l' := [.slice (some ⟨g8, 0, none⟩) 16 16, .int .i64 0]) r3 rfl rfl sizeSP rfl rfl ?_; intro w4 r4 g4 z4; clear tok)
  | (go_at_call 40; refine HPS.out.mono ?_; rintro e w2 ⟨g8, rfl, F2, hg8, b2⟩)
  | (refine wpList_allocRow rfl _ rfl _ infoSP ?_; intro w3 r3 b3 z3))
 have hb4 : Below w2.heap.size w2 w4 := b3.grown g4 b3.size (fun i hi => by have := Option.some.inj hi; omega)
 have hb14 := b2.trans (hb4.mono b2.size)
 have HB4 := Lib.hid (HB1.out.trans (hb14.mono HB1.out.size))
 have HR4 := Lib.hid (HR1.out.below' hb14)
 obtain ⟨bx, hbx⟩ : ∃ y, w2.heap.size = y := ⟨_, rfl⟩
 rw [hbx] at r4
 have HBX : Hid (BoxS 35 w4 bx g8 Cha.zero) := Lib.hid ⟨r4, F2.below hb4, by have := F2.lt; omega⟩
 have HXX : Hid (w.heap.size < bR ∧ bR < g8 ∧ g8 < bx) := Lib.hid ⟨H1.out.1, by have := HR1.out.lt; omega, by have := F2.lt; omega⟩
 have HKD4 := Lib.hid (HKD.out w4 (H1.out.2.trans (hb14.mono H1.out.2.size)))
 have k2 : w4.cell? ⟨b, off + k * 3 + 2, none⟩ = some (.slice xA n xk) := (HB4.out.cell (p := ⟨b, off + k * 3 + 2, none⟩) HC.out.1).trans HC.out.2
 try rw [hbx]
 clear r3 b3 z3 g4 z4 hb4 hb14 F2 hg8 b2 r4 hbx HR1 HPS
 try simp only [PT]
 by_cases h0 : n = 0
 ·
  subst h0
  have hs := HBX.out
  have hrng : w4.rangeAt bx 0 (shL g8 0) := fun q u hq => by rw [Nat.zero_add, hs.row.cell]; exact hq
  unfold shL at hrng
  have r9 := HR4.out
  clear hs
  go_wp2_with (first
   | (refine wpList_load_mid rfl _ (.tmp 9) rfl bx 0 rfl [.slice (some ⟨g8, 0, none⟩) 16 16, .int .i64 0] _ hrng Tryz.underlying35 rfl sizeSP ?_)
   | (refine wpList_storeRow rfl _ (.tmp 8) (.tmp 24) rfl (l' := [.slice (some ⟨g8, 0, none⟩) 16 16, .int .i64 0]) r9 rfl rfl sizeSP rfl rfl ?_; intro w10 r10 g10 z10))
  refine bodyPost_ret (resultRowH rfl _ _ r10 rfl Tryz.underlying35 sizeSP) rfl ?_
  have hx := HXX.out
  have hb4 := HB4.out
  refine ⟨g8, rfl, HBX.out.ten.keep (g10.block g8 HBX.out.ten.lt (fun e => by have := Option.some.inj e; omega)), by omega, hb4.grown g10 hb4.size (fun i hi => by have := Option.some.inj hi; omega)⟩
 ·
  have HEV := Lib.hid (fun V => W.even_ok d n (by omega) hu HD.out.1 (by have := HD.out.2; omega) V)
  have HER : Hid (∀ j, 0 ≤ W.evenOf d n j ∧ W.evenOf d n j ≤ 1000000000) := Lib.hid fun j => by
   have := Cha.even_range (k := j) HD.out.1 (by have := HD.out.2; omega) (show 0 < n by omega)
   have := HD.out.2
   omega
  have e3 : ((n : Int) == 0) = false := by rw [beq_eq_false_iff_ne]; omega
  have kd := HKD4.out
  clear h0
  go_upto_region 7 with (go_at_call 77; refine (HEV.out _).mono ?_; rintro e w5 ⟨gc, rfl, F5, hgc, b5⟩)
  have HF5 := Lib.hid F5
  have HS5 := Lib.hid (HBX.out.below b5)
  have HGC : Hid (bx < gc) := Lib.hid (by have := HBX.out.lt; omega)
  have HB5 := Lib.hid (HB4.out.trans (b5.mono HB4.out.size))
  have HR5 := Lib.hid (HR4.out.below' b5)
  clear F5 hgc b5 kd k2 HKD4 HEV
  go_loopw [35] (fun u35 wx => ∃ (wr : World) (j : Nat), wr = wx ∧ j ≤ n ∧ u35 = .int .i64 (j : Int) ∧ Hid (BoxS 35 wr bx g8 (Cha.usedS l k us d j)) ∧ Hid (Keep (two bx g8) w5 wr)) (fun u35 _ => n - (intOf u35).toNat)
  case atStart => exact ⟨_, 0, rfl, Nat.zero_le _, rfl, HS5, Lib.hid (Keep.refl _ _)⟩
  case round =>
   obtain ⟨wr, j, rfl, hj, rfl, HSR, HKR⟩ := hrel
   have hbw : Below w.heap.size w wr := Below.then_keep HB5.out HKR.out (fun x hx => by have := HXX.out; rcases hx with rfl | rfl <;> omega) (Nat.le_refl _)
   have HBW := Lib.hid hbw
   clear hbw
   by_cases hlt : j < n
   ·
    have hju : j < us.length := by rw [HN.out]; exact hlt
    obtain ⟨bu, ou, hA, hbu, hru, -⟩ := HX.out.at (k := j) hju
    dsimp only at hA hru
    subst hA
    have hrw : wr.rangeAt bu (ou + j * 3) (S.usL us[j]) := fun q u hq => (HBW.out.cell (p := ⟨bu, ou + j * 3 + q, none⟩) hbu).trans (hru q u hq)
    have HUS : Hid (Cha.usedS l k us d (j + 1) = Cha.stripeS l k us[j].g (W.evenOf d n j) (Cha.usedS l k us d j)) := Lib.hid (by
     rw [← HN.out]
     show Cha.stripeS l k (us.getD j ⟨0, 0, 0⟩).g _ _ = _
     rw [List.getD, List.getElem?_eq_getElem hju]; rfl)
    obtain ⟨⟨ug, ue, uc⟩, hug⟩ : ∃ y, us[j] = y := ⟨_, rfl⟩
    rw [hug] at hrw HUS
    unfold S.usL at hrw
    dsimp only at hrw HUS
    obtain ⟨sa, hsa⟩ : ∃ y, Cha.usedS l k us d j = y := ⟨_, rfl⟩
    rw [hsa] at HUS HSR
    have hce := HER.out j
    obtain ⟨ck, hck⟩ : ∃ y, W.evenOf d n j = y := ⟨_, rfl⟩
    rw [hck] at HUS hce
    have HCE := Lib.hid hce
    have HGR : Hid (wr.cell? ⟨gc, j, none⟩ = some (.int .i64 ck)) := Lib.hid (by rw [← hck]; exact (HF5.out.keep (HKR.out.block gc HF5.out.lt (fun hx => by have := HGC.out; have := HXX.out; rcases hx with h | h <;> omega))).cell j hlt)
    have i0 : (0 : Int) ≤ (j : Int) := by omega
    have i1 : (j : Int) < (n : Int) := by omega
    clear hju hbu hru hug hsa hck hce
    go_upto_region 9 with (first
     | (refine wpList_load_mid rfl _ (.tmp 38) rfl bu (ou + j * 3) rfl [.int .i64 ug, .int .i64 ue, .int .i64 uc] _ hrw Tryz.underlying72 rfl S.sizeUs ?_)
     | (have tok := r6; refine wpList_storeRow rfl _ (.tmp 14) (.tmp 39) rfl (l' := [.int .i64 ug, .int .i64 ue, .int .i64 uc]) r6 rfl rfl S.sizeUs rfl rfl ?_; intro w7 r7 g7 z7; clear tok)
     | (refine wpList_allocRow rfl _ rfl _ infoUd' ?_; intro w6 r6 b6 z6))
    have hb7 : Below wr.heap.size wr w7 := b6.grown g7 b6.size (fun i hi => by have := Option.some.inj hi; omega)
    have HB7 := Lib.hid hb7
    have HS7 := Lib.hid (HSR.out.below hb7)
    obtain ⟨b14, hb14⟩ : ∃ y, wr.heap.size = y := ⟨_, rfl⟩
    rw [hb14] at r7
    try rw [hb14]
    have H14 : Hid (b14 < w7.heap.size ∧ ¬ two bx g8 b14 ∧ w7.cell? ⟨b14, 0, none⟩ = some (.int .i64 ug)) := Lib.hid ⟨r7.lt, fun hx => by have := HSR.out.lt; rcases hx with h | h <;> omega, r7.cell 0⟩
    have hgr : gc < wr.heap.size := by have := HF5.out.lt; have := HKR.out.size; omega
    have HGJ : Hid (gc < w7.heap.size ∧ ¬ two bx g8 gc ∧ w7.cell? ⟨gc, j, none⟩ = some (.int .i64 ck)) := Lib.hid ⟨by have := hb7.size; omega, fun hx => by have := HGC.out; have := HXX.out; rcases hx with h | h <;> omega, (hb7.cell (p := ⟨gc, j, none⟩) hgr).trans HGR.out⟩
    have hwz : Below wz.heap.size wz w7 := (HZ.out.trans (HBW.out.mono HZ.out.size)).trans (hb7.mono (HZ.out.trans (HBW.out.mono HZ.out.size)).size)
    have HST : Hid (∀ W, Keep (two bx g8) w7 W → W.heap[bx]? = w7.heap[bx]? → W.heap[g8]? = w7.heap[g8]? → Calls Tryz.prog 78 #[.pointer (some ⟨bx, 0, none⟩), .pointer (some ⟨a, 0, none⟩), .agg #[.int .i64 k, .int .i64 ug], .int .i64 ck] W (ChgRes 35 W bx g8 (Cha.stripeS l k ug ck sa))) := Lib.hid fun W hW h1 h2 =>
     HT.out W (Below.then_keep hwz hW (fun x hx => by have := HXX.out; have := HWZ.out; rcases hx with rfl | rfl <;> omega) (Nat.le_refl _)) k ug ck HCE.out.1 HCE.out.2 bx g8 sa ⟨HS7.out.row.keep h1, HS7.out.ten.keep h2, HS7.out.ne⟩ (by have := HXX.out; have := HWZ.out; omega) (by have := HXX.out; have := HWZ.out; omega)
    clear hrw r6 b6 z6 r7 g7 z7 hb7 hb14 hgr hwz
    try simp only [PT]
    have hv0 : Keep (two bx g8) w7 w7.drew := (Keep.refl _ _).drew
    refine wp_region_held_drew (S := fun W => Keep (two bx g8) w7 W) (by kernel_rfl) (hv0) (fun hHeld => ?_)
    refine wpAnyH_take (i := 0) (oi := { dst := some 40, op := Op.move (Operand.tmp 2), type := 28, pos := "charge.go:70", after := #[], guard := none }) (v := ?v0_1) rfl (by kernel_rfl) (by kernel_rfl) (by kernel_rfl) (fun _ _ _ h => h) (Or.inl ⟨by rfl, ?h0_1⟩) (by assumption) ?r0_1
    case h0_1 =>
     intro W hSW
     try dsimp only at hSW
     go_simp
     try with_reducible rfl
    try simp only [PT]
    refine wpAnyH_take (i := 1) (oi := { dst := some 41, op := Op.move (Operand.tmp 3), type := 3, pos := "charge.go:70", after := #[], guard := none }) (v := ?v1_2) rfl (by kernel_rfl) (by kernel_rfl) (by kernel_rfl) (fun _ _ _ h => h) (Or.inl ⟨by rfl, ?h1_2⟩) (by assumption) ?r1_2
    case h1_2 =>
     intro W hSW
     try dsimp only at hSW
     go_simp
     try with_reducible rfl
    try simp only [PT]
    refine wpAnyH_take (i := 2) (oi := { dst := some 42, op := Op.fieldAddr 72 (Operand.tmp 14) 0, type := 0, pos := "charge.go:70", after := #[], guard := none }) (v := ?v2_3) rfl (by kernel_rfl) (by kernel_rfl) (by kernel_rfl) (fun _ _ _ h => h) (Or.inl ⟨by rfl, ?h2_3⟩) (by assumption) ?r2_3
    case h2_3 =>
     intro W hSW
     try dsimp only at hSW
     go_simp
     try with_reducible rfl
    try simp only [PT]
    refine wpAnyH_take (i := 3) (oi := { dst := some 43, op := Op.load 3 (Operand.tmp 42), type := 3, pos := "charge.go:70", after := #[{ on := 2, ground := Ground.data }], guard := none }) (v := ?v3_4) rfl (by kernel_rfl) (by kernel_rfl) (by kernel_rfl) (fun _ _ _ h => h) (Or.inl ⟨by rfl, ?h3_4⟩) (by assumption) ?r3_4
    case h3_4 =>
     intro W hSW
     try dsimp only at hSW
     have c0 := (hSW.cell (p := ⟨b14, 0, none⟩) H14.out.1 H14.out.2.1).trans H14.out.2.2
     go_simp
     try with_reducible rfl
    try simp only [PT]
    refine wpAnyH_take (i := 4) (oi := { dst := some 44, op := Op.build 63 #[(0, Operand.tmp 41), (1, Operand.tmp 43)], type := 63, pos := "charge.go:70", after := #[{ on := 1, ground := Ground.data }, { on := 3, ground := Ground.data }], guard := none }) (v := ?v4_5) rfl (by kernel_rfl) (by kernel_rfl) (by kernel_rfl) (fun _ _ _ h => h) (Or.inl ⟨by rfl, ?h4_5⟩) (by assumption) ?r4_5
    case h4_5 =>
     intro W hSW
     try dsimp only at hSW
     go_simp
     try with_reducible rfl
    try simp only [PT]
    refine wpAnyH_take (i := 5) (oi := { dst := some 45, op := Op.move (Operand.tmp 11), type := 27, pos := "charge.go:70", after := #[], guard := none }) (v := ?v5_6) rfl (by kernel_rfl) (by kernel_rfl) (by kernel_rfl) (fun _ _ _ h => h) (Or.inl ⟨by rfl, ?h5_6⟩) (by assumption) ?r5_6
    case h5_6 =>
     intro W hSW
     try dsimp only at hSW
     go_simp
     try with_reducible rfl
    try simp only [PT]
    refine wpAnyH_take (i := 6) (oi := { dst := some 46, op := Op.move (Operand.tmp 13), type := 3, pos := "charge.go:70", after := #[], guard := none }) (v := ?v6_7) rfl (by kernel_rfl) (by kernel_rfl) (by kernel_rfl) (fun _ _ _ h => h) (Or.inl ⟨by rfl, ?h6_7⟩) (by assumption) ?r6_7
    case h6_7 =>
     intro W hSW
     try dsimp only at hSW
     go_simp
     try with_reducible rfl
    try simp only [PT]
    refine wpAnyH_take (i := 7) (oi := { dst := some 47, op := Op.indexAddr 27 (Operand.tmp 45) (Operand.tmp 46), type := 0, pos := "charge.go:70", after := #[{ on := 5, ground := Ground.data }, { on := 6, ground := Ground.data }], guard := none }) (v := ?v7_8) rfl (by kernel_rfl) (by kernel_rfl) (by kernel_rfl) (fun _ _ _ h => h) (Or.inl ⟨by rfl, ?h7_8⟩) (by assumption) ?r7_8
    case h7_8 =>
     intro W hSW
     try dsimp only at hSW
     go_simp
     try with_reducible rfl
    try simp only [PT]
    refine wpAnyH_take (i := 8) (oi := { dst := some 48, op := Op.load 3 (Operand.tmp 47), type := 3, pos := "charge.go:70", after := #[{ on := 7, ground := Ground.data }], guard := none }) (v := ?v8_9) rfl (by kernel_rfl) (by kernel_rfl) (by kernel_rfl) (fun _ _ _ h => h) (Or.inl ⟨by rfl, ?h8_9⟩) (by assumption) ?r8_9
    case h8_9 =>
     intro W hSW
     try dsimp only at hSW
     have c1 := (hSW.cell (p := ⟨gc, j, none⟩) HGJ.out.1 HGJ.out.2.1).trans HGJ.out.2.2
     go_simp
     try with_reducible rfl
    try simp only [PT]
    refine wpAnyH_ready (rs := [9]) (by kernel_rfl) (by simp) ?_
    refine AllReadyH.cons (o := { dst := some 49, op := Op.call { callee := Callee.value (Operand.func 78), args := #[Operand.tmp 9, Operand.tmp 40, Operand.tmp 44, Operand.tmp 48], argTypes := #[35, 28, 63, 3] }, type := 0, pos := "charge.go:70", after := #[{ on := 0, ground := Ground.data }, { on := 4, ground := Ground.data }, { on := 8, ground := Ground.data }], guard := none }) rfl (fun K hK => ?_) AllReadyH.nil
    go_simp
    refine (HST.out _ hHeld rfl rfl).mono ?_
    rintro e w40 ⟨rfl, hs40, hk40⟩
    have HS40 := Lib.hid hs40
    have hv40 : Keep (two bx g8) w7 w40 := hv0.trans hk40
    clear hs40 hk40
    refine hK.out _ _ (hv40) (fun hHeld => ?_)
    clear hK K
    try simp only [PT]
    refine wpAnyH_done (by kernel_rfl) ?_ _
    have HV9 := Lib.hid hv40
    go_wp2_with fail
    go_roundw
    case rel => exact ⟨_, j + 1, rfl, by omega, by go_num, Lib.hid (by rw [HUS.out]; exact HS40.out), Lib.hid (HKR.out.trans ((Keep.of_below HB7.out).trans HV9.out))⟩
    case measure => simp [intOf]; omega
   ·
    obtain rfl : j = n := by omega
    have hs := HSR.out
    have hrng : wr.rangeAt bx 0 (shL g8 (Cha.usedS l k us d j).h) := fun q u hq => by rw [Nat.zero_add, hs.row.cell]; exact hq
    have r9 : IsRow wr bR 35 zShL := HR5.out.keep (HKR.out.block bR HR5.out.lt (fun h => by have := HXX.out; rcases h with h | h <;> omega))
    obtain ⟨y, hy⟩ : ∃ y, (Cha.usedS l k us d j).h = y := ⟨_, rfl⟩
    have HSX : Hid (FRow wr g8 16 (Cha.usedS l k us d j).t ∧ (Cha.usedS l k us d j).h = y) := Lib.hid ⟨hs.ten, hy⟩
    rw [hy] at hrng
    unfold shL at hrng
    clear hs hy
    go_wp2_with (first
     | (refine wpList_load_mid rfl _ (.tmp 9) rfl bx 0 rfl [.slice (some ⟨g8, 0, none⟩) 16 16, .int .i64 y] _ hrng Tryz.underlying35 rfl sizeSP ?_)
     | (refine wpList_storeRow rfl _ (.tmp 8) (.tmp 51) rfl (l' := [.slice (some ⟨g8, 0, none⟩) 16 16, .int .i64 y]) r9 rfl rfl sizeSP rfl rfl ?_; intro w10 r10 g10 z10))
    refine bodyPost_ret (resultRowH rfl _ _ r10 rfl Tryz.underlying35 sizeSP) rfl ?_
    have hx := HXX.out
    exact ⟨g8, by rw [HSX.out.2]; rfl, HSX.out.1.keep (g10.block g8 HSX.out.1.lt (fun e => by have := Option.some.inj e; omega)), by omega, HBW.out.grown g10 HBW.out.size (fun i hi => by have := Option.some.inj hi; omega)⟩
end Go.Proofs.YtfllkaeaanahmaaGreat
