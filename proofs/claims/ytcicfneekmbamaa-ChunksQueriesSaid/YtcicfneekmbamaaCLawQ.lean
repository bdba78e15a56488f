/- The law ChunksQueries. Conditions: none beside the arguments' form. -/
import Derived.Test.YtcicfneekmbamaaCLawKit
import Derived.Test.YtcicfneekmbamaaChkRL
namespace Go.Proofs.Ytcicfneekmbamaa
set_option linter.unusedVariables false
set_option linter.unusedSimpArgs false
open Go.RowKit
/-- no chunk -/
def zC : Chk.Ck := ⟨0, List.replicate 16 0, 0, Chk.z, false, []⟩
theorem zC_cells : zCk = ckCells zC (.slice none 0 0) := by kernel_rfl
def got (l : List Chk.Ck) (id : Int) : Chk.Ck × Bool := match Chk.pos (Chk.ids l) id with | some k => (Chk.nth l k, true) | none => (zC, false)
/-- Get in both ways -/
def GetC (R : Chk.Ck × Bool) (w : World) (e : Ending) (w' : World) : Prop :=
  ∃ A kk, e = .returned (.tuple #[.agg (ckCells R.1 (.slice A R.1.refs.length kk)).toArray, .bool R.2]) ∧ Rd w' w'.heap.size 2 A R.1.refs.length (rfs R.1.refs) ∧ Below w.heap.size w w'
theorem got_ok {l : List Chk.Ck} (h : Chk.Inv l) (id : Int) : (got l id).1.dg.length = 16 ∧ (got l id).1.refs.length ≤ 1000 := by
  unfold got
  cases hp : Chk.pos (Chk.ids l) id with
  | none => exact ⟨by simp [zC], by simp [zC]⟩
  | some k =>
    have hk := h.nth (Chk.pos_lt hp).1
    exact ⟨hk.dg, by have := refs_len hk.refs; show (Chk.nth l k).refs.length ≤ 1000; omega⟩
theorem getNo_c {w w' : World} {e : Ending} (h : GetNo w e w') : GetC (zC, false) w e w' := by
  obtain ⟨rfl, hb⟩ := h
  exact ⟨none, 0, by rw [zC_cells]; rfl, ⟨rfl, fun h => absurd h (by simp [zC])⟩, hb⟩
theorem getOk_c {w w' : World} {e : Ending} {c : Chk.Ck} (h : GetOk c w e w') : GetC (c, true) w e w' := by
  obtain ⟨A, k, rfl, ho, hb⟩ := h
  exact ⟨A, k, rfl, Rd.of_own ho, hb⟩
theorem TabG.getC {w0 w : World} {a : Nat} {l : List Chk.Ck} {G : Nat → Prop} (h : TabG w0 w a l G) (id : Int) : Calls Try.prog 14 #[.pointer (some ⟨a, 0, none⟩), .int .i64 id] w (GetC (got l id) w) := by
  unfold got
  cases hp : Chk.pos (Chk.ids l) id with
  | none => exact (h.getNo id hp).mono fun e w' h => getNo_c h
  | some k => exact (h.getOk id k _ hp rfl).mono fun e w' h => getOk_c h
theorem rgetC {w : World} {F S : Nat → Prop} {a : Nat} {t : RM} {l : List Chk.Ck} (h : RAt w F S a t l) (id : Int) : Calls Try.prog 15 #[.pointer (some ⟨a, 0, none⟩), .int .i64 id] w (GetC (got l id) w) := by
  unfold got
  cases hp : Chk.pos (Chk.ids l) id with
  | none => exact (rget_none h id hp).mono fun e w' h => getNo_c h
  | some k => exact (rget_some h id k hp).mono fun e w' h => getOk_c h
/-- what two lists' calls give -/
def ListRes (xs : List Int) (n : Nat) (w : World) (e : Ending) (w' : World) : Prop := ∃ A c, e = .returned (.slice A n c) ∧ w'.ownsRow w.heap.size 3 1 (.slice A n c) n (ivs xs) ∧ Below w.heap.size w w'
section
variable {w0 w : World} {a r : Nat} {l l' : List Chk.Ck} {G : Nat → Prop}
theorem Pair.rget_ (h : Pair w0 w a l r l' G) (id : Int) : Calls Try.prog 15 #[.pointer (some ⟨r, 0, none⟩), .int .i64 id] w (GetC (got l' id) w) := by
  obtain ⟨F, S, t, hr⟩ := h.right; exact rgetC hr id
theorem Pair.rat_ (h : Pair w0 w a l r l' G) (u : Chk.Un) (v : Int) (q : Bool) (hv : (Chk.unitAt l' u).getD 0 = v) (hq : (Chk.unitAt l' u).isSome = q) : Calls Try.prog 17 #[.pointer (some ⟨r, 0, none⟩), unV u] w fun e w' => e = .returned (.tuple #[.int .i64 v, .bool q]) ∧ Below w.heap.size w w' := by
  obtain ⟨F, S, t, hr⟩ := h.right; exact rat_any hr u v q hv hq
theorem Pair.rlive_ (h : Pair w0 w a l r l' G) (x g : Int) (xs : List Int) (hx : Chk.live l' x g = xs) (n : Nat) (hn : xs.length = n) : Calls Try.prog 21 #[.pointer (some ⟨r, 0, none⟩), .agg #[.int .i64 x, .int .i64 g]] w (ListRes xs n w) := by
  obtain ⟨F, S, t, hr⟩ := h.right; subst hx hn; exact rlive_any hr x g
theorem Pair.rlost_ (h : Pair w0 w a l r l' G) (d : List UInt8) (hd : d.length = 16) (xs : List Int) (hx : Chk.lostIds l' d = xs) (n : Nat) (hn : xs.length = n) : Calls Try.prog 24 #[.pointer (some ⟨r, 0, none⟩), .agg (bvs d).toArray] w (ListRes xs n w) := by
  obtain ⟨F, S, t, hr⟩ := h.right; subst hx hn; exact rlost_any hr d hd
theorem Pair.rcount_ (h : Pair w0 w a l r l' G) (who v : Int) (hv : Chk.count l' who = v) : Calls Try.prog 26 #[.pointer (some ⟨r, 0, none⟩), .int .i64 who] w fun e w' => e = .returned (.int .i64 v) ∧ Below w.heap.size w w' := by
  obtain ⟨F, S, t, hr⟩ := h.right; subst hv; exact rcount_any hr who
theorem Pair.live_ (h : Pair w0 w a l r l' G) (x g : Int) (xs : List Int) (hx : Chk.live l x g = xs) (n : Nat) (hn : xs.length = n) : Calls Try.prog 20 #[.pointer (some ⟨a, 0, none⟩), .agg #[.int .i64 x, .int .i64 g]] w (ListRes xs n w) := h.left.live_ x g xs hx n hn
theorem Pair.lost_ (h : Pair w0 w a l r l' G) (d : List UInt8) (hd : d.length = 16) (xs : List Int) (hx : Chk.lostIds l d = xs) (n : Nat) (hn : xs.length = n) : Calls Try.prog 22 #[.pointer (some ⟨a, 0, none⟩), .agg (bvs d).toArray] w (ListRes xs n w) := h.left.lost_ d hd xs hx n hn
end
set_option maxRecDepth 100000 in
set_option maxHeartbeats 6400000 in
theorem lawQueries (A : Option Addr) (n c : Nat) (ops : List Chk.Op) (hl : ops.length = n) (hnc : n ≤ c) (hc : c ≤ 140737488355328) (hok : ∀ o ∈ ops, OpOk o) (id : Int) (hi0 : -9223372036854775808 ≤ id) (hi1 : id ≤ 9223372036854775807) (u : Chk.Un) (hun : UnOk u) (dn : Int) (hd0 : 0 ≤ dn) (hd1 : dn ≤ 255) (tn : Int) (ht0 : -9223372036854775808 ≤ tn) (ht1 : tn ≤ 9223372036854775807) (w : World) (hr : Rd w w.heap.size 9 A n (ops.flatMap opL)) :
    Calls Try.prog 3 #[.slice A n c, .int .i64 id, unV u, .int .u8 dn, .int .i64 tn] w fun e w' => e = .returned (.bool true) ∧ Below w.heap.size w w' := by
  have HSN := Lib.hid sanity_any
  obtain ⟨d, rfl⟩ : ∃ d : UInt8, (d.toNat : Int) = dn := ⟨UInt8.ofNat dn.toNat, by rw [UInt8.toNat_ofNat_of_lt' (show dn.toNat < 256 by omega)]; omega⟩
  obtain ⟨w0, hw0⟩ : ∃ z, w.alloc (.cells #[.int .i64 u.r, .int .i64 u.g, .int .i64 u.u] 26) = z := ⟨_, rfl⟩
  have hb0 : Below w.heap.size w w0 := by rw [← hw0]; exact (Below.refl _ _).alloc (Nat.le_refl _) _
  have hbx : IsRow w0 w.heap.size 26 [.int .i64 u.r, .int .i64 u.g, .int .i64 u.u] := by rw [← hw0]; exact IsRow.new w _ [.int .i64 u.r, .int .i64 u.g, .int .i64 u.u]
  have HBX := Lib.hid (fun W (hW : Below w0.heap.size w0 W) => hbx.below' hW)
  have HB0 := Lib.hid hb0
  have HW0 := Lib.hid hw0
  have HUV : Hid (unV u = .agg #[.int .i64 u.r, .int .i64 u.g, .int .i64 u.u]) := Lib.hid rfl
  rw [HUV.out]
  have hlen := hl
  clear hbx hw0 hun hi0 hi1 hd0 hd1 ht0 ht1
  by_cases hn : 120 < n
  · have HBU := Lib.hid (build_long A n c w0 hn)
    clear hr hl hok hnc hc hn hlen hb0
    go_enter Try.func3, Try.ntmps3
    go_wp2_with (first
      | (rw [HW0.out]; go_at_call 11; refine HBU.out.mono ?_; rintro e w1 ⟨rfl, b1⟩)
      | (go_at_call 12; refine (HSN.out _).mono ?_; rintro e w2 ⟨rfl, b2⟩))
    go_ret
    have h1 := HB0.out.trans (b1.mono HB0.out.size)
    exact ⟨rfl, h1.trans (b2.mono h1.size)⟩
  have ho0 : OpsAt w0 A n ops := OpsAt.below ⟨hr, hl, fun o ho => (hok o ho).2.2.2.2.2⟩ hb0
  have HO : Hid (OpsAt w0 A n ops) := Lib.hid ho0
  have HBU := Lib.hid (build_any A n c ops w0 (by omega) ho0)
  have hn1 : n ≤ 120 := by omega
  obtain ⟨l, hll⟩ : ∃ l, Chk.run [] ops = l := ⟨_, rfl⟩
  rw [hll] at HBU
  have HLL := Lib.hid hll
  clear hr hl hok hnc hc hn ho0 hll hlen hb0
  go_enter Try.func3, Try.ntmps3
  go_upto_region 4 with (rw [HW0.out]; go_at_call 11; refine HBU.out.mono ?_; rintro e w1 ⟨a, rfl, htab⟩; have HT1 := Lib.hid htab; clear htab)
  have hp1 := HT1.out.pair
  obtain ⟨r, hr⟩ : ∃ r, w1.heap.size = r := ⟨_, rfl⟩
  rw [hr] at hp1
  have HP1 := Lib.hid hp1
  clear hp1
  go_upto_region 5 with fail
  obtain ⟨w2, hw2⟩ : ∃ x, w1.alloc (.cells #[.slice none 0 0] 34) = x := ⟨_, rfl⟩
  try rw [hr] at ⊢
  rw [hw2] at HP1
  try rw [hw2] at ⊢
  clear hw2 hr HT1
  go_wp2_with fail
  go_loopw [36] (fun u wx => ∃ (wr : World) (j : Nat), wr = wx ∧ j ≤ n ∧ u = .int .i64 (j : Int) ∧ Hid (Pair w0 wr a l r (Chk.run [] (ops.take j)) (fun _ => False))) (fun u _ => n - (intOf u).toNat)
  case atStart => exact ⟨_, 0, rfl, Nat.zero_le _, rfl, HP1⟩
  case round =>
    obtain ⟨wr, j, rfl, hj, rfl, HTJ⟩ := hrel
    by_cases hlt : j < n
    · have hjl : j < ops.length := by rw [HO.out.len]; exact hlt
      have hbr := HTJ.out.b
      obtain ⟨b, off, rfl, hbb, hrg⟩ := HO.out.rd.elem (f := opL) (fun _ _ => rfl) hjl hlt
      have hpr := HO.out.pr ops[j] (List.getElem_mem hjl)
      have hst := run_take hjl []
      obtain ⟨o, ho⟩ : ∃ o, ops[j] = o := ⟨_, rfl⟩
      rw [ho] at hrg hpr hst
      have hrw : wr.rangeAt b (off + j * 9) (opL o) := fun q u hq => (hbr.cell (p := ⟨b, off + j * 9 + q, none⟩) hbb).trans (hrg q u hq)
      have HDO := Lib.hid (fun (W : World) (hW : Below wr.heap.size wr W) => (HTJ.out.below hW).rdo_ o hpr)
      rw [← hst] at HDO
      obtain ⟨os, hos⟩ : ∃ os, opL o = os := ⟨_, rfl⟩
      have HOV : Hid (opV o = .agg os.toArray) := Lib.hid (by rw [← hos]; rfl)
      rw [HOV.out] at HDO
      rw [hos] at hrw
      have HLN := Lib.hid (show os.length = 9 by rw [← hos]; rfl)
      have HON := Lib.hid (show os.all (·.oneCell') = true by rw [← hos]; rfl)
      have e1 : (0 : Int) ≤ (j : Int) := by omega
      have e2 : (j : Int) < (n : Int) := by omega
      clear hjl hbr hbb hrg hpr hst ho hos
      go_upto_region 8 with (first
        | (refine wpList_load_mid rfl _ (.tmp 38) rfl b (off + j * 9) rfl os _ hrw Try.underlying37 rfl (by rw [HLN.out]; exact sizeOp) ?_)
        | (refine wpList_allocRow rfl _ rfl _ infoOp ?_; intro w13 rz3 b13 z3; clear z3)
        | (refine wpList_storeRow rfl _ (.tmp 15) (.tmp 39) rfl (l' := os) rz3 rfl rfl (by rw [HLN.out]; exact sizeOp) (by rw [HLN.out]; rfl) HON.out ?_; intro w14 rz4 g4 z4; clear z4))
      have hb4 : Below wr.heap.size wr w14 := b13.grown g4 b13.size (fun i hi => by have := Option.some.inj hi; omega)
      obtain ⟨b6, hb6⟩ : ∃ y, wr.heap.size = y := ⟨_, rfl⟩
      rw [hb6] at rz4 ⊢
      have hr4 : w14.rangeAt b6 0 os := fun q u hu => by rw [Nat.zero_add, rz4.cell]; exact hu
      have HD4 := Lib.hid (HDO.out w14 hb4)
      clear rz3 b13 g4 hrw hb4 hb6 rz4
      try simp only [Act.put, List.setIfInBounds_toArray, List.set_cons_zero, List.set_cons_succ]
      go_wp2_with (first
        | (refine wpList_load_mid rfl _ (.tmp 15) rfl b6 0 rfl os _ hr4 Try.underlying37 rfl (by rw [HLN.out]; exact sizeOp) ?_)
        | (go_at_call 13; refine HD4.out.mono ?_; rintro e w15 ⟨rfl, h5, s5⟩; have HT5 := Lib.hid h5; clear h5 s5))
      go_roundw
      case rel => exact ⟨_, j + 1, rfl, by omega, by go_num, HT5⟩
      case measure => simp [intOf]; omega
    · obtain rfl : j = n := by omega
      have hE : Chk.run [] (ops.take j) = l := by rw [List.take_of_length_le (by rw [HO.out.len]; exact Nat.le_refl _)]; exact HLL.out
      rw [hE] at HTJ
      clear hE
      obtain ⟨R, hR⟩ : ∃ R, got l id = R := ⟨_, rfl⟩
      have hgo := got_ok HTJ.out.left.inv id
      have HG1 := Lib.hid (fun W (hW : Below wr.heap.size wr W) => (HTJ.out.below hW).left.getC id)
      have HG2 := Lib.hid (fun W (hW : Below wr.heap.size wr W) => (HTJ.out.below hW).rget_ id)
      rw [hR] at hgo HG1 HG2
      have HGO := Lib.hid hgo
      obtain ⟨gc, gq⟩ := R
      obtain ⟨N, hN⟩ : ∃ N, gc.refs.length = N := ⟨_, rfl⟩
      have HN := Lib.hid hN
      have HSC := Lib.hid (fun A1 A2 k1 k2 W h1 h2 => sameCk_eq gc HGO.out.1 N hN (hN ▸ HGO.out.2) A1 A2 k1 k2 W h1 h2)
      have HON := Lib.hid (fun A k => show (ckCells gc (.slice A N k)).all (·.oneCell') = true from List.all_eq_true.2 (ckCells_one _ _ rfl))
      have HLN := Lib.hid (fun A k => ckCells_len HGO.out.1 (.slice A N k))
      clear hgo hR hN
      go_upto_region 11 with (first
        | (refine wpList_storeRow rfl _ (.tmp 16) (.tmp 48) rfl (l' := cs1) rz2 rfl rfl (by rw [HL1.out]; exact sizeCk) (by rw [HL1.out]; rfl) HO1.out ?_; intro w3 rz3 g3 z3; clear z3)
        | (refine wpList_allocRow rfl _ rfl _ infoCk' ?_; intro w2 rz2 b2 z2; clear z2)
        | (go_at_call 14; refine (HG1.out wr (Below.refl _ _)).mono ?_; rintro e w1 ⟨A1, k1, rfl, rd1, b1⟩; dsimp only at rd1 ⊢; rw [HN.out] at rd1 ⊢; have HL1 := Lib.hid (HLN.out A1 k1); have HO1 := Lib.hid (HON.out A1 k1); obtain ⟨cs1, hc1⟩ : ∃ y, ckCells gc (.slice A1 N k1) = y := ⟨_, rfl⟩; rw [hc1] at HL1 HO1 ⊢; have HC1 := Lib.hid hc1; have HRD1 := Lib.hid rd1; clear hc1 rd1))
      have hb3 : Below w1.heap.size w1 w3 := b2.grown g3 b2.size (fun i hi => by have := Option.some.inj hi; omega)
      obtain ⟨b16, hb16⟩ : ∃ y, w1.heap.size = y := ⟨_, rfl⟩
      rw [hb16] at rz3
      try rw [hb16]
      have HQ3 := Lib.hid (b1.trans (hb3.mono b1.size))
      have HB13 := Lib.hid hb3
      have HZ3 := Lib.hid rz3
      clear rz2 b2 g3 hb3 b1 rz3 hb16
      try simp only [Act.put, List.setIfInBounds_toArray, List.set_cons_zero, List.set_cons_succ]
      go_upto_region 12 with (first
        | (refine wpList_storeRow rfl _ (.tmp 18) (.tmp 54) rfl (l' := cs2) rz5 rfl rfl (by rw [HL2.out]; exact sizeCk) (by rw [HL2.out]; rfl) HO2.out ?_; intro w6 rz6 g6 z6; clear z6)
        | (refine wpList_allocRow rfl _ rfl _ infoCk' ?_; intro w5 rz5 b5 z5; clear z5)
        | (go_at_call 15; refine (HG2.out w3 HQ3.out).mono ?_; rintro e w4 ⟨A2, k2, rfl, rd2, b4⟩; dsimp only at rd2 ⊢; rw [HN.out] at rd2 ⊢; have HL2 := Lib.hid (HLN.out A2 k2); have HO2 := Lib.hid (HON.out A2 k2); obtain ⟨cs2, hc2⟩ : ∃ y, ckCells gc (.slice A2 N k2) = y := ⟨_, rfl⟩; rw [hc2] at HL2 HO2 ⊢; have HC2 := Lib.hid hc2; have HRD2 := Lib.hid rd2; clear hc2 rd2))
      have hb6 : Below w4.heap.size w4 w6 := b5.grown g6 b5.size (fun i hi => by have := Option.some.inj hi; omega)
      have hb36 : Below w3.heap.size w3 w6 := b4.trans (hb6.mono b4.size)
      obtain ⟨b18, hb18⟩ : ∃ y, w4.heap.size = y := ⟨_, rfl⟩
      rw [hb18] at rz6
      try rw [hb18]
      have HQ6 := Lib.hid (HQ3.out.trans (hb36.mono HQ3.out.size))
      have HB36 := Lib.hid hb36
      have HB46 := Lib.hid hb6
      have HZ6 := Lib.hid rz6
      clear rz5 b5 g6 hb6 b4 rz6 hb18 hb36
      try simp only [Act.put, List.setIfInBounds_toArray, List.set_cons_zero, List.set_cons_succ]
      obtain ⟨v, hv⟩ : ∃ v, (Chk.unitAt l u).getD 0 = v := ⟨_, rfl⟩
      obtain ⟨q, hq⟩ : ∃ q2, (Chk.unitAt l u).isSome = q2 := ⟨_, rfl⟩
      have HA1 := Lib.hid (fun W (hW : Below wr.heap.size wr W) => (HTJ.out.below hW).left.at_ u v q hv hq)
      have HA2 := Lib.hid (fun W (hW : Below wr.heap.size wr W) => (HTJ.out.below hW).rat_ u v q hv hq)
      rw [HUV.out] at HA1 HA2
      have hbw := HTJ.out.b
      have HBX6 := Lib.hid (fun W (hW : Below wr.heap.size wr W) => HBX.out W (hbw.trans (hW.mono hbw.size)))
      clear hv hq
      have e0 := (HBX6.out _ HQ6.out).cell 0
      have e1 := (HBX6.out _ HQ6.out).cell 1
      have e2 := (HBX6.out _ HQ6.out).cell 2
      go_upto_region 13 with (go_at_call 16; refine (HA1.out w6 HQ6.out).mono ?_; rintro e w7 ⟨rfl, b7⟩)
      have HQ7 := Lib.hid (HQ6.out.trans (b7.mono HQ6.out.size))
      have HB67 := Lib.hid b7
      clear e0 e1 e2 b7
      have e0 := (HBX6.out _ HQ7.out).cell 0
      have e1 := (HBX6.out _ HQ7.out).cell 1
      have e2 := (HBX6.out _ HQ7.out).cell 2
      go_upto_region 14 with (go_at_call 17; refine (HA2.out w7 HQ7.out).mono ?_; rintro e w8 ⟨rfl, b8⟩)
      have HQ8 := Lib.hid (HQ7.out.trans (b8.mono HQ7.out.size))
      have HB68 := Lib.hid (HB67.out.trans (b8.mono HB67.out.size))
      clear e0 e1 e2 b8
      have hz8 := HZ6.out.below' HB68.out
      have hz18 := (HZ3.out.below' HB36.out).below' HB68.out
      have HM1 := Lib.hid (fun W (hW : Below w8.heap.size w8 W) => show W.rangeAt b16 0 cs1 from fun k x hx => by rw [Nat.zero_add, (hz18.below' hW).cell]; exact hx)
      have HM2 := Lib.hid (fun W (hW : Below w8.heap.size w8 W) => show W.rangeAt b18 0 cs2 from fun k x hx => by rw [Nat.zero_add, (hz8.below' hW).cell]; exact hx)
      have hr1 : Rd w8 w8.heap.size 2 A1 N (rfs gc.refs) := ((((HRD1.out.below HB13.out).more HB13.out.size).below HB36.out).more HB36.out.size |>.below HB68.out).more HB68.out.size
      have hr2 : Rd w8 w8.heap.size 2 A2 N (rfs gc.refs) := (((HRD2.out.below HB46.out).more HB46.out.size).below HB68.out).more HB68.out.size
      have HSM := Lib.hid (fun W (hW : Below w8.heap.size w8 W) => HSC.out A1 A2 k1 k2 W ((hr1.below hW).more hW.size) ((hr2.below hW).more hW.size))
      rw [HC1.out, HC2.out] at HSM
      have HP := Lib.hid (HTJ.out.below HQ8.out)
      obtain ⟨xl, hxl⟩ : ∃ xl, Chk.live l u.r u.g = xl := ⟨_, rfl⟩
      obtain ⟨nl, hnl⟩ : ∃ nl, xl.length = nl := ⟨_, rfl⟩
      obtain ⟨xd, hxd⟩ : ∃ xl, Chk.lostIds l (Chk.dig d) = xl := ⟨_, rfl⟩
      obtain ⟨nd, hnd⟩ : ∃ nl, xd.length = nl := ⟨_, rfl⟩
      obtain ⟨ct, hct⟩ : ∃ nl, Chk.count l tn = nl := ⟨_, rfl⟩
      have HL1' := Lib.hid (fun W (hW : Below w8.heap.size w8 W) => (HP.out.below hW).live_ u.r u.g xl hxl nl hnl)
      have HL2' := Lib.hid (fun W (hW : Below w8.heap.size w8 W) => (HP.out.below hW).rlive_ u.r u.g xl hxl nl hnl)
      have HD1 := Lib.hid (fun W (hW : Below w8.heap.size w8 W) => (HP.out.below hW).lost_ (Chk.dig d) (by unfold Chk.dig; simp) xd hxd nd hnd)
      have HD2 := Lib.hid (fun W (hW : Below w8.heap.size w8 W) => (HP.out.below hW).rlost_ (Chk.dig d) (by unfold Chk.dig; simp) xd hxd nd hnd)
      have HK1 := Lib.hid (fun W (hW : Below w8.heap.size w8 W) => (HP.out.below hW).left.count_ tn ct hct)
      have HK2 := Lib.hid (fun W (hW : Below w8.heap.size w8 W) => (HP.out.below hW).rcount_ tn ct hct)
      have hmx := HP.out.left.max
      have hnl' : nl ≤ 32 := by
        rw [← hnl, ← hxl]; exact liveN_le l u.r u.g 32
      have hnd' : nd ≤ 65536 := by
        have h1 := lostIds_le l (Chk.dig d) l.length
        rw [List.take_length, hxd, hnd] at h1; omega
      have HNL := Lib.hid (And.intro hnl (show nl ≤ 1099511627776 by omega))
      have HND := Lib.hid (And.intro hnd (show nd ≤ 1099511627776 by omega))
      have HDG := Lib.hid (fun W => digest_any d W)
      obtain ⟨dd, hdd⟩ : ∃ y, (bvs (Chk.dig d)).toArray = y := ⟨_, rfl⟩
      rw [hdd] at HDG HD1 HD2
      have HU2 := Lib.hid (fun W (hW : Below w8.heap.size w8 W) => And.intro ((HBX6.out _ (HQ8.out.trans (hW.mono HQ8.out.size))).cell 0) ((HBX6.out _ (HQ8.out.trans (hW.mono HQ8.out.size))).cell 1))
      have HEN : Hid (∀ W, Below w8.heap.size w8 W → Below w.heap.size w W) := Lib.hid (fun W hW => by
        have h1 := HB0.out.trans (hbw.mono HB0.out.size)
        have h2 := h1.trans (HQ8.out.mono h1.size)
        exact h2.trans (hW.mono h2.size))
      clear hz8 hz18 hr1 hr2 hxl hnl hxd hnd hct hmx hnl' hnd' hdd hbw HTJ HG1 HG2 HQ3 HB13 HZ3 HQ6 HB36 HB46 HZ6 HA1 HA2 HBX6 HQ7 HB67 HQ8 HB68 HRD1 HRD2 HP HSC
      have hv0 : Below w8.heap.size w8 w8.drew := (Below.refl _ _).drew
      refine wp_region_held_drew (S := fun W => Below w8.heap.size w8 W) (by kernel_rfl) (hv0) (fun hHeld => ?_)
      refine wpAnyH_ready (rs := [0]) (by kernel_rfl) (by simp) ?_
      refine AllReadyH.cons (o := { dst := some 68, op := Op.call { callee := Callee.value (Operand.func 12), args := #[], argTypes := #[] }, type := 4, pos := "law.go:112", after := #[], guard := none }) rfl (fun K hK => ?_) AllReadyH.nil
      go_simp
      refine (HSN.out _).mono ?_
      rintro e w30 ⟨rfl, b30⟩
      have hv30 : Below w8.heap.size w8 w30 := (hv0).trans (b30.mono (hv0).size)
      clear b30
      refine hK.out _ _ (hv30) (fun hHeld => ?_)
      clear hK K
      try simp only [Act.put, List.setIfInBounds_toArray, List.set_cons_zero, List.set_cons_succ]
      refine wpAnyH_take (i := 1) (oi := { dst := some 69, op := Op.move (Operand.tmp 68), type := 4, pos := "law.go:112", after := #[{ on := 0, ground := Ground.data }, { on := 0, ground := Ground.chain }], guard := none }) (v := ?v1_1) rfl (by kernel_rfl) (by kernel_rfl) (by kernel_rfl) (fun _ _ _ h => h) (Or.inl ⟨by rfl, ?h1_1⟩) (by assumption) ?r1_1
      case h1_1 =>
        intro W hSW
        try dsimp only at hSW
        go_simp
        try with_reducible rfl
      try simp only [Act.put, List.setIfInBounds_toArray, List.set_cons_zero, List.set_cons_succ]
      refine wpAnyH_take (i := 2) (oi := { dst := some 70, op := Op.load 45 (Operand.tmp 16), type := 45, pos := "law.go:112", after := #[{ on := 1, ground := Ground.guard }], guard := some (1, true) }) (v := (.agg cs1.toArray)) rfl (by kernel_rfl) (by kernel_rfl) (by kernel_rfl) (fun _ _ _ h => h) (yieldsIf_load_mid (by rfl) 45 (.tmp 16) rfl b16 0 rfl cs1 _ (fun W hW => HM1.out W hW) Try.underlying45 rfl (by rw [HL1.out]; exact sizeCk)) (by assumption) ?_
      try simp only [Act.put, List.setIfInBounds_toArray, List.set_cons_zero, List.set_cons_succ]
      refine wpAnyH_take (i := 3) (oi := { dst := some 71, op := Op.load 45 (Operand.tmp 18), type := 45, pos := "law.go:112", after := #[{ on := 1, ground := Ground.guard }], guard := some (1, true) }) (v := (.agg cs2.toArray)) rfl (by kernel_rfl) (by kernel_rfl) (by kernel_rfl) (fun _ _ _ h => h) (yieldsIf_load_mid (by rfl) 45 (.tmp 18) rfl b18 0 rfl cs2 _ (fun W hW => HM2.out W hW) Try.underlying45 rfl (by rw [HL2.out]; exact sizeCk)) (by assumption) ?_
      try simp only [Act.put, List.setIfInBounds_toArray, List.set_cons_zero, List.set_cons_succ]
      refine wpAnyH_ready (rs := [4]) (by kernel_rfl) (by simp) ?_
      refine AllReadyH.cons (o := { dst := some 72, op := Op.call { callee := Callee.value (Operand.func 18), args := #[Operand.tmp 70, Operand.tmp 71], argTypes := #[45, 45] }, type := 4, pos := "law.go:112", after := #[{ on := 2, ground := Ground.data }, { on := 3, ground := Ground.data }, { on := 1, ground := Ground.chain }, { on := 1, ground := Ground.guard }], guard := some (1, true) }) rfl (fun K hK => ?_) AllReadyH.nil
      go_simp
      refine (HSM.out _ hv30).mono ?_
      rintro e w31 ⟨rfl, b31⟩
      have hv31 : Below w8.heap.size w8 w31 := (hv30).trans (b31.mono (hv30).size)
      clear b31
      refine hK.out _ _ (hv31) (fun hHeld => ?_)
      clear hK K
      try simp only [Act.put, List.setIfInBounds_toArray, List.set_cons_zero, List.set_cons_succ]
      refine wpAnyH_take (i := 5) (oi := { dst := some 73, op := Op.pick (Operand.tmp 69) (Operand.tmp 72) (Operand.const (Value.bool false)), type := 4, pos := "law.go:112", after := #[{ on := 1, ground := Ground.data }, { on := 4, ground := Ground.data }], guard := none }) (v := ?v5_4) rfl (by kernel_rfl) (by kernel_rfl) (by kernel_rfl) (fun _ _ _ h => h) (Or.inl ⟨by rfl, ?h5_4⟩) (by assumption) ?r5_4
      case h5_4 =>
        intro W hSW
        try dsimp only at hSW
        go_simp
        try with_reducible rfl
      try simp only [Act.put, List.setIfInBounds_toArray, List.set_cons_zero, List.set_cons_succ]
      refine wpAnyH_take (i := 6) (oi := { dst := some 74, op := Op.move (Operand.tmp 73), type := 4, pos := "law.go:112", after := #[{ on := 5, ground := Ground.data }, { on := 4, ground := Ground.chain }], guard := none }) (v := ?v6_5) rfl (by kernel_rfl) (by kernel_rfl) (by kernel_rfl) (fun _ _ _ h => h) (Or.inl ⟨by rfl, ?h6_5⟩) (by assumption) ?r6_5
      case h6_5 =>
        intro W hSW
        try dsimp only at hSW
        go_simp
        try with_reducible rfl
      try simp only [Act.put, List.setIfInBounds_toArray, List.set_cons_zero, List.set_cons_succ]
      refine wpAnyH_take (i := 7) (oi := { dst := some 75, op := Op.move (Operand.tmp 17), type := 4, pos := "law.go:112", after := #[{ on := 6, ground := Ground.guard }], guard := some (6, true) }) (v := ?v7_6) rfl (by kernel_rfl) (by kernel_rfl) (by kernel_rfl) (fun _ _ _ h => h) (Or.inl ⟨by rfl, ?h7_6⟩) (by assumption) ?r7_6
      case h7_6 =>
        intro W hSW
        try dsimp only at hSW
        go_simp
        try with_reducible rfl
      try simp only [Act.put, List.setIfInBounds_toArray, List.set_cons_zero, List.set_cons_succ]
      refine wpAnyH_take (i := 8) (oi := { dst := some 76, op := Op.move (Operand.tmp 19), type := 4, pos := "law.go:112", after := #[{ on := 6, ground := Ground.guard }], guard := some (6, true) }) (v := ?v8_7) rfl (by kernel_rfl) (by kernel_rfl) (by kernel_rfl) (fun _ _ _ h => h) (Or.inl ⟨by rfl, ?h8_7⟩) (by assumption) ?r8_7
      case h8_7 =>
        intro W hSW
        try dsimp only at hSW
        go_simp
        try with_reducible rfl
      try simp only [Act.put, List.setIfInBounds_toArray, List.set_cons_zero, List.set_cons_succ]
      refine wpAnyH_take (i := 9) (oi := { dst := some 77, op := Op.binOp BinOp.eql 4 (Operand.tmp 75) (Operand.tmp 76) 4, type := 4, pos := "law.go:112", after := #[{ on := 7, ground := Ground.data }, { on := 8, ground := Ground.data }, { on := 6, ground := Ground.guard }], guard := some (6, true) }) (v := ?v9_8) rfl (by kernel_rfl) (by kernel_rfl) (by kernel_rfl) (fun _ _ _ h => h) (Or.inl ⟨by rfl, ?h9_8⟩) (by assumption) ?r9_8
      case h9_8 =>
        intro W hSW
        try dsimp only at hSW
        go_simp
        try with_reducible rfl
      try simp only [Act.put, List.setIfInBounds_toArray, List.set_cons_zero, List.set_cons_succ]
      refine wpAnyH_take (i := 10) (oi := { dst := some 78, op := Op.pick (Operand.tmp 74) (Operand.tmp 77) (Operand.const (Value.bool false)), type := 4, pos := "law.go:112", after := #[{ on := 6, ground := Ground.data }, { on := 9, ground := Ground.data }], guard := none }) (v := ?v10_9) rfl (by kernel_rfl) (by kernel_rfl) (by kernel_rfl) (fun _ _ _ h => h) (Or.inl ⟨by rfl, ?h10_9⟩) (by assumption) ?r10_9
      case h10_9 =>
        intro W hSW
        try dsimp only at hSW
        go_simp
        try with_reducible rfl
      try simp only [Act.put, List.setIfInBounds_toArray, List.set_cons_zero, List.set_cons_succ]
      refine wpAnyH_take (i := 11) (oi := { dst := some 79, op := Op.move (Operand.tmp 78), type := 4, pos := "law.go:112", after := #[{ on := 10, ground := Ground.data }, { on := 6, ground := Ground.chain }], guard := none }) (v := ?v11_10) rfl (by kernel_rfl) (by kernel_rfl) (by kernel_rfl) (fun _ _ _ h => h) (Or.inl ⟨by rfl, ?h11_10⟩) (by assumption) ?r11_10
      case h11_10 =>
        intro W hSW
        try dsimp only at hSW
        go_simp
        try with_reducible rfl
      try simp only [Act.put, List.setIfInBounds_toArray, List.set_cons_zero, List.set_cons_succ]
      refine wpAnyH_take (i := 12) (oi := { dst := some 80, op := Op.move (Operand.tmp 20), type := 3, pos := "law.go:112", after := #[{ on := 11, ground := Ground.guard }], guard := some (11, true) }) (v := ?v12_11) rfl (by kernel_rfl) (by kernel_rfl) (by kernel_rfl) (fun _ _ _ h => h) (Or.inl ⟨by rfl, ?h12_11⟩) (by assumption) ?r12_11
      case h12_11 =>
        intro W hSW
        try dsimp only at hSW
        go_simp
        try with_reducible rfl
      try simp only [Act.put, List.setIfInBounds_toArray, List.set_cons_zero, List.set_cons_succ]
      refine wpAnyH_take (i := 13) (oi := { dst := some 81, op := Op.move (Operand.tmp 22), type := 3, pos := "law.go:112", after := #[{ on := 11, ground := Ground.guard }], guard := some (11, true) }) (v := ?v13_12) rfl (by kernel_rfl) (by kernel_rfl) (by kernel_rfl) (fun _ _ _ h => h) (Or.inl ⟨by rfl, ?h13_12⟩) (by assumption) ?r13_12
      case h13_12 =>
        intro W hSW
        try dsimp only at hSW
        go_simp
        try with_reducible rfl
      try simp only [Act.put, List.setIfInBounds_toArray, List.set_cons_zero, List.set_cons_succ]
      refine wpAnyH_take (i := 14) (oi := { dst := some 82, op := Op.binOp BinOp.eql 3 (Operand.tmp 80) (Operand.tmp 81) 3, type := 4, pos := "law.go:112", after := #[{ on := 12, ground := Ground.data }, { on := 13, ground := Ground.data }, { on := 11, ground := Ground.guard }], guard := some (11, true) }) (v := ?v14_13) rfl (by kernel_rfl) (by kernel_rfl) (by kernel_rfl) (fun _ _ _ h => h) (Or.inl ⟨by rfl, ?h14_13⟩) (by assumption) ?r14_13
      case h14_13 =>
        intro W hSW
        try dsimp only at hSW
        go_simp
        try with_reducible rfl
      try simp only [Act.put, List.setIfInBounds_toArray, List.set_cons_zero, List.set_cons_succ]
      refine wpAnyH_take (i := 15) (oi := { dst := some 83, op := Op.pick (Operand.tmp 79) (Operand.tmp 82) (Operand.const (Value.bool false)), type := 4, pos := "law.go:112", after := #[{ on := 11, ground := Ground.data }, { on := 14, ground := Ground.data }], guard := none }) (v := ?v15_14) rfl (by kernel_rfl) (by kernel_rfl) (by kernel_rfl) (fun _ _ _ h => h) (Or.inl ⟨by rfl, ?h15_14⟩) (by assumption) ?r15_14
      case h15_14 =>
        intro W hSW
        try dsimp only at hSW
        go_simp
        try with_reducible rfl
      try simp only [Act.put, List.setIfInBounds_toArray, List.set_cons_zero, List.set_cons_succ]
      refine wpAnyH_take (i := 16) (oi := { dst := some 84, op := Op.move (Operand.tmp 83), type := 4, pos := "law.go:112", after := #[{ on := 15, ground := Ground.data }, { on := 11, ground := Ground.chain }], guard := none }) (v := ?v16_15) rfl (by kernel_rfl) (by kernel_rfl) (by kernel_rfl) (fun _ _ _ h => h) (Or.inl ⟨by rfl, ?h16_15⟩) (by assumption) ?r16_15
      case h16_15 =>
        intro W hSW
        try dsimp only at hSW
        go_simp
        try with_reducible rfl
      try simp only [Act.put, List.setIfInBounds_toArray, List.set_cons_zero, List.set_cons_succ]
      refine wpAnyH_take (i := 17) (oi := { dst := some 85, op := Op.move (Operand.tmp 21), type := 4, pos := "law.go:112", after := #[{ on := 16, ground := Ground.guard }], guard := some (16, true) }) (v := ?v17_16) rfl (by kernel_rfl) (by kernel_rfl) (by kernel_rfl) (fun _ _ _ h => h) (Or.inl ⟨by rfl, ?h17_16⟩) (by assumption) ?r17_16
      case h17_16 =>
        intro W hSW
        try dsimp only at hSW
        go_simp
        try with_reducible rfl
      try simp only [Act.put, List.setIfInBounds_toArray, List.set_cons_zero, List.set_cons_succ]
      refine wpAnyH_take (i := 18) (oi := { dst := some 86, op := Op.move (Operand.tmp 23), type := 4, pos := "law.go:112", after := #[{ on := 16, ground := Ground.guard }], guard := some (16, true) }) (v := ?v18_17) rfl (by kernel_rfl) (by kernel_rfl) (by kernel_rfl) (fun _ _ _ h => h) (Or.inl ⟨by rfl, ?h18_17⟩) (by assumption) ?r18_17
      case h18_17 =>
        intro W hSW
        try dsimp only at hSW
        go_simp
        try with_reducible rfl
      try simp only [Act.put, List.setIfInBounds_toArray, List.set_cons_zero, List.set_cons_succ]
      refine wpAnyH_take (i := 19) (oi := { dst := some 87, op := Op.binOp BinOp.eql 4 (Operand.tmp 85) (Operand.tmp 86) 4, type := 4, pos := "law.go:112", after := #[{ on := 17, ground := Ground.data }, { on := 18, ground := Ground.data }, { on := 16, ground := Ground.guard }], guard := some (16, true) }) (v := ?v19_18) rfl (by kernel_rfl) (by kernel_rfl) (by kernel_rfl) (fun _ _ _ h => h) (Or.inl ⟨by rfl, ?h19_18⟩) (by assumption) ?r19_18
      case h19_18 =>
        intro W hSW
        try dsimp only at hSW
        go_simp
        try with_reducible rfl
      try simp only [Act.put, List.setIfInBounds_toArray, List.set_cons_zero, List.set_cons_succ]
      refine wpAnyH_take (i := 20) (oi := { dst := some 88, op := Op.pick (Operand.tmp 84) (Operand.tmp 87) (Operand.const (Value.bool false)), type := 4, pos := "law.go:112", after := #[{ on := 16, ground := Ground.data }, { on := 19, ground := Ground.data }], guard := none }) (v := ?v20_19) rfl (by kernel_rfl) (by kernel_rfl) (by kernel_rfl) (fun _ _ _ h => h) (Or.inl ⟨by rfl, ?h20_19⟩) (by assumption) ?r20_19
      case h20_19 =>
        intro W hSW
        try dsimp only at hSW
        go_simp
        try with_reducible rfl
      try simp only [Act.put, List.setIfInBounds_toArray, List.set_cons_zero, List.set_cons_succ]
      refine wpAnyH_take (i := 21) (oi := { dst := some 89, op := Op.move (Operand.tmp 88), type := 4, pos := "law.go:112", after := #[{ on := 20, ground := Ground.data }, { on := 16, ground := Ground.chain }], guard := none }) (v := ?v21_20) rfl (by kernel_rfl) (by kernel_rfl) (by kernel_rfl) (fun _ _ _ h => h) (Or.inl ⟨by rfl, ?h21_20⟩) (by assumption) ?r21_20
      case h21_20 =>
        intro W hSW
        try dsimp only at hSW
        go_simp
        try with_reducible rfl
      try simp only [Act.put, List.setIfInBounds_toArray, List.set_cons_zero, List.set_cons_succ]
      refine wpAnyH_take (i := 22) (oi := { dst := some 90, op := Op.move (Operand.tmp 11), type := 27, pos := "law.go:112", after := #[{ on := 21, ground := Ground.guard }], guard := some (21, true) }) (v := ?v22_21) rfl (by kernel_rfl) (by kernel_rfl) (by kernel_rfl) (fun _ _ _ h => h) (Or.inl ⟨by rfl, ?h22_21⟩) (by assumption) ?r22_21
      case h22_21 =>
        intro W hSW
        try dsimp only at hSW
        go_simp
        try with_reducible rfl
      try simp only [Act.put, List.setIfInBounds_toArray, List.set_cons_zero, List.set_cons_succ]
      refine wpAnyH_take (i := 23) (oi := { dst := some 91, op := Op.fieldAddr 26 (Operand.tmp 7) 0, type := 0, pos := "law.go:112", after := #[{ on := 21, ground := Ground.guard }], guard := some (21, true) }) (v := ?v23_22) rfl (by kernel_rfl) (by kernel_rfl) (by kernel_rfl) (fun _ _ _ h => h) (Or.inl ⟨by rfl, ?h23_22⟩) (by assumption) ?r23_22
      case h23_22 =>
        intro W hSW
        try dsimp only at hSW
        go_simp
        try with_reducible rfl
      try simp only [Act.put, List.setIfInBounds_toArray, List.set_cons_zero, List.set_cons_succ]
      refine wpAnyH_take (i := 24) (oi := { dst := some 92, op := Op.load 24 (Operand.tmp 91), type := 24, pos := "law.go:112", after := #[{ on := 23, ground := Ground.data }, { on := 21, ground := Ground.guard }], guard := some (21, true) }) (v := ?v24_23) rfl (by kernel_rfl) (by kernel_rfl) (by kernel_rfl) (fun _ _ _ h => h) (Or.inl ⟨by rfl, ?h24_23⟩) (by assumption) ?r24_23
      case h24_23 =>
        intro W hSW
        try dsimp only at hSW
        obtain ⟨z0, z1⟩ := HU2.out W hSW
        go_simp
        try with_reducible rfl
      try simp only [Act.put, List.setIfInBounds_toArray, List.set_cons_zero, List.set_cons_succ]
      refine wpAnyH_take (i := 26) (oi := { dst := some 94, op := Op.move (Operand.tmp 13), type := 31, pos := "law.go:112", after := #[{ on := 21, ground := Ground.guard }], guard := some (21, true) }) (v := ?v26_24) rfl (by kernel_rfl) (by kernel_rfl) (by kernel_rfl) (fun _ _ _ h => h) (Or.inl ⟨by rfl, ?h26_24⟩) (by assumption) ?r26_24
      case h26_24 =>
        intro W hSW
        try dsimp only at hSW
        go_simp
        try with_reducible rfl
      try simp only [Act.put, List.setIfInBounds_toArray, List.set_cons_zero, List.set_cons_succ]
      refine wpAnyH_take (i := 27) (oi := { dst := some 95, op := Op.fieldAddr 26 (Operand.tmp 7) 0, type := 0, pos := "law.go:112", after := #[{ on := 21, ground := Ground.guard }], guard := some (21, true) }) (v := ?v27_25) rfl (by kernel_rfl) (by kernel_rfl) (by kernel_rfl) (fun _ _ _ h => h) (Or.inl ⟨by rfl, ?h27_25⟩) (by assumption) ?r27_25
      case h27_25 =>
        intro W hSW
        try dsimp only at hSW
        go_simp
        try with_reducible rfl
      try simp only [Act.put, List.setIfInBounds_toArray, List.set_cons_zero, List.set_cons_succ]
      refine wpAnyH_take (i := 28) (oi := { dst := some 96, op := Op.load 24 (Operand.tmp 95), type := 24, pos := "law.go:112", after := #[{ on := 27, ground := Ground.data }, { on := 21, ground := Ground.guard }], guard := some (21, true) }) (v := ?v28_26) rfl (by kernel_rfl) (by kernel_rfl) (by kernel_rfl) (fun _ _ _ h => h) (Or.inl ⟨by rfl, ?h28_26⟩) (by assumption) ?r28_26
      case h28_26 =>
        intro W hSW
        try dsimp only at hSW
        obtain ⟨z0, z1⟩ := HU2.out W hSW
        go_simp
        try with_reducible rfl
      try simp only [Act.put, List.setIfInBounds_toArray, List.set_cons_zero, List.set_cons_succ]
      refine wpAnyH_ready (rs := [25]) (by kernel_rfl) (by simp) ?_
      refine AllReadyH.cons (o := { dst := some 93, op := Op.call { callee := Callee.value (Operand.func 20), args := #[Operand.tmp 90, Operand.tmp 92], argTypes := #[27, 24] }, type := 52, pos := "law.go:112", after := #[{ on := 22, ground := Ground.data }, { on := 24, ground := Ground.data }, { on := 21, ground := Ground.chain }, { on := 21, ground := Ground.guard }], guard := some (21, true) }) rfl (fun K hK => ?_) AllReadyH.nil
      go_simp
      refine (HL1'.out _ hv31).mono ?_
      rintro e w32 ⟨A32, c32, rfl, own32, b32⟩
      have hv32 : Below w8.heap.size w8 w32 := (hv31).trans (b32.mono (hv31).size)
      have Rp := Rd.of_own own32
      have HRp := Lib.hid (fun (W : World) (hW : Below w32.heap.size w32 W) => (Rd.of_own own32).below hW)
      clear own32
      clear b32
      refine hK.out _ _ (hv32) (fun hHeld => ?_)
      clear hK K
      try simp only [Act.put, List.setIfInBounds_toArray, List.set_cons_zero, List.set_cons_succ]
      refine wpAnyH_ready (rs := [29]) (by kernel_rfl) (by simp) ?_
      refine AllReadyH.cons (o := { dst := some 97, op := Op.call { callee := Callee.value (Operand.func 21), args := #[Operand.tmp 94, Operand.tmp 96], argTypes := #[31, 24] }, type := 52, pos := "law.go:112", after := #[{ on := 26, ground := Ground.data }, { on := 28, ground := Ground.data }, { on := 25, ground := Ground.chain }, { on := 21, ground := Ground.guard }], guard := some (21, true) }) rfl (fun K hK => ?_) AllReadyH.nil
      go_simp
      refine (HL2'.out _ hv32).mono ?_
      rintro e w33 ⟨A33, c33, rfl, own33, b33⟩
      have hv33 : Below w8.heap.size w8 w33 := (hv32).trans (b33.mono (hv32).size)
      have Rq := Rd.of_own own33
      have Rpx := HRp.out _ b33
      clear own33
      clear b33
      refine hK.out _ _ (hv33) (fun hHeld => ?_)
      clear hK K
      try simp only [Act.put, List.setIfInBounds_toArray, List.set_cons_zero, List.set_cons_succ]
      refine wpAnyH_ready (rs := [30]) (by kernel_rfl) (by simp) ?_
      refine AllReadyH.cons (o := { dst := some 98, op := Op.call { callee := Callee.value (Operand.func 19), args := #[Operand.tmp 93, Operand.tmp 97], argTypes := #[52, 52] }, type := 4, pos := "law.go:112", after := #[{ on := 25, ground := Ground.data }, { on := 29, ground := Ground.data }, { on := 29, ground := Ground.chain }, { on := 21, ground := Ground.guard }], guard := some (21, true) }) rfl (fun K hK => ?_) AllReadyH.nil
      go_simp
      refine (same_eq _ _ _ _ nl xl HNL.out.1 HNL.out.2 _ _ _ Rpx Rq).mono ?_
      rintro e w34 ⟨rfl, b34⟩
      have hv34 : Below w8.heap.size w8 w34 := (hv33).trans (b34.mono (hv33).size)
      clear Rp Rpx Rq HRp
      clear b34
      refine hK.out _ _ (hv34) (fun hHeld => ?_)
      clear hK K
      try simp only [Act.put, List.setIfInBounds_toArray, List.set_cons_zero, List.set_cons_succ]
      refine wpAnyH_take (i := 31) (oi := { dst := some 99, op := Op.pick (Operand.tmp 89) (Operand.tmp 98) (Operand.const (Value.bool false)), type := 4, pos := "law.go:112", after := #[{ on := 21, ground := Ground.data }, { on := 30, ground := Ground.data }], guard := none }) (v := ?v31_27) rfl (by kernel_rfl) (by kernel_rfl) (by kernel_rfl) (fun _ _ _ h => h) (Or.inl ⟨by rfl, ?h31_27⟩) (by assumption) ?r31_27
      case h31_27 =>
        intro W hSW
        try dsimp only at hSW
        go_simp
        try with_reducible rfl
      try simp only [Act.put, List.setIfInBounds_toArray, List.set_cons_zero, List.set_cons_succ]
      refine wpAnyH_take (i := 32) (oi := { dst := some 100, op := Op.move (Operand.tmp 99), type := 4, pos := "law.go:112", after := #[{ on := 31, ground := Ground.data }, { on := 30, ground := Ground.chain }], guard := none }) (v := ?v32_28) rfl (by kernel_rfl) (by kernel_rfl) (by kernel_rfl) (fun _ _ _ h => h) (Or.inl ⟨by rfl, ?h32_28⟩) (by assumption) ?r32_28
      case h32_28 =>
        intro W hSW
        try dsimp only at hSW
        go_simp
        try with_reducible rfl
      try simp only [Act.put, List.setIfInBounds_toArray, List.set_cons_zero, List.set_cons_succ]
      refine wpAnyH_take (i := 33) (oi := { dst := some 101, op := Op.move (Operand.tmp 11), type := 27, pos := "law.go:112", after := #[{ on := 32, ground := Ground.guard }], guard := some (32, true) }) (v := ?v33_29) rfl (by kernel_rfl) (by kernel_rfl) (by kernel_rfl) (fun _ _ _ h => h) (Or.inl ⟨by rfl, ?h33_29⟩) (by assumption) ?r33_29
      case h33_29 =>
        intro W hSW
        try dsimp only at hSW
        go_simp
        try with_reducible rfl
      try simp only [Act.put, List.setIfInBounds_toArray, List.set_cons_zero, List.set_cons_succ]
      refine wpAnyH_take (i := 34) (oi := { dst := some 102, op := Op.move (Operand.tmp 3), type := 5, pos := "law.go:112", after := #[{ on := 32, ground := Ground.guard }], guard := some (32, true) }) (v := ?v34_30) rfl (by kernel_rfl) (by kernel_rfl) (by kernel_rfl) (fun _ _ _ h => h) (Or.inl ⟨by rfl, ?h34_30⟩) (by assumption) ?r34_30
      case h34_30 =>
        intro W hSW
        try dsimp only at hSW
        go_simp
        try with_reducible rfl
      try simp only [Act.put, List.setIfInBounds_toArray, List.set_cons_zero, List.set_cons_succ]
      refine wpAnyH_take (i := 37) (oi := { dst := some 105, op := Op.move (Operand.tmp 13), type := 31, pos := "law.go:112", after := #[{ on := 32, ground := Ground.guard }], guard := some (32, true) }) (v := ?v37_31) rfl (by kernel_rfl) (by kernel_rfl) (by kernel_rfl) (fun _ _ _ h => h) (Or.inl ⟨by rfl, ?h37_31⟩) (by assumption) ?r37_31
      case h37_31 =>
        intro W hSW
        try dsimp only at hSW
        go_simp
        try with_reducible rfl
      try simp only [Act.put, List.setIfInBounds_toArray, List.set_cons_zero, List.set_cons_succ]
      refine wpAnyH_take (i := 38) (oi := { dst := some 106, op := Op.move (Operand.tmp 3), type := 5, pos := "law.go:112", after := #[{ on := 32, ground := Ground.guard }], guard := some (32, true) }) (v := ?v38_32) rfl (by kernel_rfl) (by kernel_rfl) (by kernel_rfl) (fun _ _ _ h => h) (Or.inl ⟨by rfl, ?h38_32⟩) (by assumption) ?r38_32
      case h38_32 =>
        intro W hSW
        try dsimp only at hSW
        go_simp
        try with_reducible rfl
      try simp only [Act.put, List.setIfInBounds_toArray, List.set_cons_zero, List.set_cons_succ]
      refine wpAnyH_ready (rs := [35]) (by kernel_rfl) (by simp) ?_
      refine AllReadyH.cons (o := { dst := some 103, op := Op.call { callee := Callee.value (Operand.func 23), args := #[Operand.tmp 102], argTypes := #[5] }, type := 42, pos := "law.go:112", after := #[{ on := 34, ground := Ground.data }, { on := 32, ground := Ground.chain }, { on := 32, ground := Ground.guard }], guard := some (32, true) }) rfl (fun K hK => ?_) AllReadyH.nil
      go_simp
      refine (HDG.out _).mono ?_
      rintro e w35 ⟨rfl, b35⟩
      have hv35 : Below w8.heap.size w8 w35 := (hv34).trans (b35.mono (hv34).size)
      clear b35
      refine hK.out _ _ (hv35) (fun hHeld => ?_)
      clear hK K
      try simp only [Act.put, List.setIfInBounds_toArray, List.set_cons_zero, List.set_cons_succ]
      refine wpAnyH_ready (rs := [36]) (by kernel_rfl) (by simp) ?_
      refine AllReadyH.cons (o := { dst := some 104, op := Op.call { callee := Callee.value (Operand.func 22), args := #[Operand.tmp 101, Operand.tmp 103], argTypes := #[27, 42] }, type := 52, pos := "law.go:112", after := #[{ on := 33, ground := Ground.data }, { on := 35, ground := Ground.data }, { on := 35, ground := Ground.chain }, { on := 32, ground := Ground.guard }], guard := some (32, true) }) rfl (fun K hK => ?_) AllReadyH.nil
      go_simp
      refine (HD1.out _ hv35).mono ?_
      rintro e w36 ⟨A36, c36, rfl, own36, b36⟩
      have hv36 : Below w8.heap.size w8 w36 := (hv35).trans (b36.mono (hv35).size)
      have Rs := Rd.of_own own36
      have HRs := Lib.hid (fun (W : World) (hW : Below w36.heap.size w36 W) => (Rd.of_own own36).below hW)
      clear own36
      clear b36
      refine hK.out _ _ (hv36) (fun hHeld => ?_)
      clear hK K
      try simp only [Act.put, List.setIfInBounds_toArray, List.set_cons_zero, List.set_cons_succ]
      refine wpAnyH_ready (rs := [39]) (by kernel_rfl) (by simp) ?_
      refine AllReadyH.cons (o := { dst := some 107, op := Op.call { callee := Callee.value (Operand.func 23), args := #[Operand.tmp 106], argTypes := #[5] }, type := 42, pos := "law.go:112", after := #[{ on := 38, ground := Ground.data }, { on := 36, ground := Ground.chain }, { on := 32, ground := Ground.guard }], guard := some (32, true) }) rfl (fun K hK => ?_) AllReadyH.nil
      go_simp
      refine (HDG.out _).mono ?_
      rintro e w37 ⟨rfl, b37⟩
      have hv37 : Below w8.heap.size w8 w37 := (hv36).trans (b37.mono (hv36).size)
      have Rsx := (HRs.out _ b37).more b37.size
      have HRsx := Lib.hid (fun (W : World) (hW : Below w37.heap.size w37 W) => Rsx.below hW)
      clear b37
      refine hK.out _ _ (hv37) (fun hHeld => ?_)
      clear hK K
      try simp only [Act.put, List.setIfInBounds_toArray, List.set_cons_zero, List.set_cons_succ]
      refine wpAnyH_ready (rs := [40]) (by kernel_rfl) (by simp) ?_
      refine AllReadyH.cons (o := { dst := some 108, op := Op.call { callee := Callee.value (Operand.func 24), args := #[Operand.tmp 105, Operand.tmp 107], argTypes := #[31, 42] }, type := 52, pos := "law.go:112", after := #[{ on := 37, ground := Ground.data }, { on := 39, ground := Ground.data }, { on := 39, ground := Ground.chain }, { on := 32, ground := Ground.guard }], guard := some (32, true) }) rfl (fun K hK => ?_) AllReadyH.nil
      go_simp
      refine (HD2.out _ hv37).mono ?_
      rintro e w38 ⟨A38, c38, rfl, own38, b38⟩
      have hv38 : Below w8.heap.size w8 w38 := (hv37).trans (b38.mono (hv37).size)
      have Rt := Rd.of_own own38
      have Rsy := HRsx.out _ b38
      clear own38
      clear b38
      refine hK.out _ _ (hv38) (fun hHeld => ?_)
      clear hK K
      try simp only [Act.put, List.setIfInBounds_toArray, List.set_cons_zero, List.set_cons_succ]
      refine wpAnyH_ready (rs := [41]) (by kernel_rfl) (by simp) ?_
      refine AllReadyH.cons (o := { dst := some 109, op := Op.call { callee := Callee.value (Operand.func 19), args := #[Operand.tmp 104, Operand.tmp 108], argTypes := #[52, 52] }, type := 4, pos := "law.go:112", after := #[{ on := 36, ground := Ground.data }, { on := 40, ground := Ground.data }, { on := 40, ground := Ground.chain }, { on := 32, ground := Ground.guard }], guard := some (32, true) }) rfl (fun K hK => ?_) AllReadyH.nil
      go_simp
      refine (same_eq _ _ _ _ nd xd HND.out.1 HND.out.2 _ _ _ Rsy Rt).mono ?_
      rintro e w39 ⟨rfl, b39⟩
      have hv39 : Below w8.heap.size w8 w39 := (hv38).trans (b39.mono (hv38).size)
      clear Rs Rsx Rsy Rt HRs HRsx
      clear b39
      refine hK.out _ _ (hv39) (fun hHeld => ?_)
      clear hK K
      try simp only [Act.put, List.setIfInBounds_toArray, List.set_cons_zero, List.set_cons_succ]
      refine wpAnyH_take (i := 42) (oi := { dst := some 110, op := Op.pick (Operand.tmp 100) (Operand.tmp 109) (Operand.const (Value.bool false)), type := 4, pos := "law.go:112", after := #[{ on := 32, ground := Ground.data }, { on := 41, ground := Ground.data }], guard := none }) (v := ?v42_33) rfl (by kernel_rfl) (by kernel_rfl) (by kernel_rfl) (fun _ _ _ h => h) (Or.inl ⟨by rfl, ?h42_33⟩) (by assumption) ?r42_33
      case h42_33 =>
        intro W hSW
        try dsimp only at hSW
        go_simp
        try with_reducible rfl
      try simp only [Act.put, List.setIfInBounds_toArray, List.set_cons_zero, List.set_cons_succ]
      refine wpAnyH_take (i := 43) (oi := { dst := some 111, op := Op.move (Operand.tmp 110), type := 4, pos := "law.go:112", after := #[{ on := 42, ground := Ground.data }, { on := 41, ground := Ground.chain }], guard := none }) (v := ?v43_34) rfl (by kernel_rfl) (by kernel_rfl) (by kernel_rfl) (fun _ _ _ h => h) (Or.inl ⟨by rfl, ?h43_34⟩) (by assumption) ?r43_34
      case h43_34 =>
        intro W hSW
        try dsimp only at hSW
        go_simp
        try with_reducible rfl
      try simp only [Act.put, List.setIfInBounds_toArray, List.set_cons_zero, List.set_cons_succ]
      refine wpAnyH_take (i := 44) (oi := { dst := some 112, op := Op.move (Operand.tmp 11), type := 27, pos := "law.go:112", after := #[{ on := 43, ground := Ground.guard }], guard := some (43, true) }) (v := ?v44_35) rfl (by kernel_rfl) (by kernel_rfl) (by kernel_rfl) (fun _ _ _ h => h) (Or.inl ⟨by rfl, ?h44_35⟩) (by assumption) ?r44_35
      case h44_35 =>
        intro W hSW
        try dsimp only at hSW
        go_simp
        try with_reducible rfl
      try simp only [Act.put, List.setIfInBounds_toArray, List.set_cons_zero, List.set_cons_succ]
      refine wpAnyH_take (i := 45) (oi := { dst := some 113, op := Op.move (Operand.tmp 4), type := 3, pos := "law.go:112", after := #[{ on := 43, ground := Ground.guard }], guard := some (43, true) }) (v := ?v45_36) rfl (by kernel_rfl) (by kernel_rfl) (by kernel_rfl) (fun _ _ _ h => h) (Or.inl ⟨by rfl, ?h45_36⟩) (by assumption) ?r45_36
      case h45_36 =>
        intro W hSW
        try dsimp only at hSW
        go_simp
        try with_reducible rfl
      try simp only [Act.put, List.setIfInBounds_toArray, List.set_cons_zero, List.set_cons_succ]
      refine wpAnyH_take (i := 47) (oi := { dst := some 115, op := Op.move (Operand.tmp 13), type := 31, pos := "law.go:112", after := #[{ on := 43, ground := Ground.guard }], guard := some (43, true) }) (v := ?v47_37) rfl (by kernel_rfl) (by kernel_rfl) (by kernel_rfl) (fun _ _ _ h => h) (Or.inl ⟨by rfl, ?h47_37⟩) (by assumption) ?r47_37
      case h47_37 =>
        intro W hSW
        try dsimp only at hSW
        go_simp
        try with_reducible rfl
      try simp only [Act.put, List.setIfInBounds_toArray, List.set_cons_zero, List.set_cons_succ]
      refine wpAnyH_take (i := 48) (oi := { dst := some 116, op := Op.move (Operand.tmp 4), type := 3, pos := "law.go:112", after := #[{ on := 43, ground := Ground.guard }], guard := some (43, true) }) (v := ?v48_38) rfl (by kernel_rfl) (by kernel_rfl) (by kernel_rfl) (fun _ _ _ h => h) (Or.inl ⟨by rfl, ?h48_38⟩) (by assumption) ?r48_38
      case h48_38 =>
        intro W hSW
        try dsimp only at hSW
        go_simp
        try with_reducible rfl
      try simp only [Act.put, List.setIfInBounds_toArray, List.set_cons_zero, List.set_cons_succ]
      refine wpAnyH_ready (rs := [46]) (by kernel_rfl) (by simp) ?_
      refine AllReadyH.cons (o := { dst := some 114, op := Op.call { callee := Callee.value (Operand.func 25), args := #[Operand.tmp 112, Operand.tmp 113], argTypes := #[27, 3] }, type := 3, pos := "law.go:112", after := #[{ on := 44, ground := Ground.data }, { on := 45, ground := Ground.data }, { on := 43, ground := Ground.chain }, { on := 43, ground := Ground.guard }], guard := some (43, true) }) rfl (fun K hK => ?_) AllReadyH.nil
      go_simp
      refine (HK1.out _ hv39).mono ?_
      rintro e w40 ⟨rfl, b40⟩
      have hv40 : Below w8.heap.size w8 w40 := (hv39).trans (b40.mono (hv39).size)
      clear b40
      refine hK.out _ _ (hv40) (fun hHeld => ?_)
      clear hK K
      try simp only [Act.put, List.setIfInBounds_toArray, List.set_cons_zero, List.set_cons_succ]
      refine wpAnyH_ready (rs := [49]) (by kernel_rfl) (by simp) ?_
      refine AllReadyH.cons (o := { dst := some 117, op := Op.call { callee := Callee.value (Operand.func 26), args := #[Operand.tmp 115, Operand.tmp 116], argTypes := #[31, 3] }, type := 3, pos := "law.go:112", after := #[{ on := 47, ground := Ground.data }, { on := 48, ground := Ground.data }, { on := 46, ground := Ground.chain }, { on := 43, ground := Ground.guard }], guard := some (43, true) }) rfl (fun K hK => ?_) AllReadyH.nil
      go_simp
      refine (HK2.out _ hv40).mono ?_
      rintro e w41 ⟨rfl, b41⟩
      have hv41 : Below w8.heap.size w8 w41 := (hv40).trans (b41.mono (hv40).size)
      clear b41
      refine hK.out _ _ (hv41) (fun hHeld => ?_)
      clear hK K
      try simp only [Act.put, List.setIfInBounds_toArray, List.set_cons_zero, List.set_cons_succ]
      refine wpAnyH_take (i := 50) (oi := { dst := some 118, op := Op.binOp BinOp.eql 3 (Operand.tmp 114) (Operand.tmp 117) 3, type := 4, pos := "law.go:112", after := #[{ on := 46, ground := Ground.data }, { on := 49, ground := Ground.data }, { on := 43, ground := Ground.guard }], guard := some (43, true) }) (v := ?v50_39) rfl (by kernel_rfl) (by kernel_rfl) (by kernel_rfl) (fun _ _ _ h => h) (Or.inl ⟨by rfl, ?h50_39⟩) (by assumption) ?r50_39
      case h50_39 =>
        intro W hSW
        try dsimp only at hSW
        go_simp
        try with_reducible rfl
      try simp only [Act.put, List.setIfInBounds_toArray, List.set_cons_zero, List.set_cons_succ]
      refine wpAnyH_take (i := 51) (oi := { dst := some 119, op := Op.pick (Operand.tmp 111) (Operand.tmp 118) (Operand.const (Value.bool false)), type := 4, pos := "law.go:112", after := #[{ on := 43, ground := Ground.data }, { on := 50, ground := Ground.data }], guard := none }) (v := ?v51_40) rfl (by kernel_rfl) (by kernel_rfl) (by kernel_rfl) (fun _ _ _ h => h) (Or.inl ⟨by rfl, ?h51_40⟩) (by assumption) ?r51_40
      case h51_40 =>
        intro W hSW
        try dsimp only at hSW
        go_simp
        try with_reducible rfl
      try simp only [Act.put, List.setIfInBounds_toArray, List.set_cons_zero, List.set_cons_succ]
      refine wpAnyH_take (i := 52) (oi := { dst := some 10, op := Op.assign (Operand.tmp 119), type := 4, pos := "law.go:112", after := #[{ on := 51, ground := Ground.data }, { on := 49, ground := Ground.chain }, { on := 0, ground := Ground.phase }, { on := 1, ground := Ground.phase }, { on := 2, ground := Ground.phase }, { on := 3, ground := Ground.phase }, { on := 4, ground := Ground.phase }, { on := 5, ground := Ground.phase }, { on := 6, ground := Ground.phase }, { on := 7, ground := Ground.phase }, { on := 8, ground := Ground.phase }, { on := 9, ground := Ground.phase }, { on := 10, ground := Ground.phase }, { on := 11, ground := Ground.phase }, { on := 12, ground := Ground.phase }, { on := 13, ground := Ground.phase }, { on := 14, ground := Ground.phase }, { on := 15, ground := Ground.phase }, { on := 16, ground := Ground.phase }, { on := 17, ground := Ground.phase }, { on := 18, ground := Ground.phase }, { on := 19, ground := Ground.phase }, { on := 20, ground := Ground.phase }, { on := 21, ground := Ground.phase }, { on := 22, ground := Ground.phase }, { on := 23, ground := Ground.phase }, { on := 24, ground := Ground.phase }, { on := 25, ground := Ground.phase }, { on := 26, ground := Ground.phase }, { on := 27, ground := Ground.phase }, { on := 28, ground := Ground.phase }, { on := 29, ground := Ground.phase }, { on := 30, ground := Ground.phase }, { on := 31, ground := Ground.phase }, { on := 32, ground := Ground.phase }, { on := 33, ground := Ground.phase }, { on := 34, ground := Ground.phase }, { on := 35, ground := Ground.phase }, { on := 36, ground := Ground.phase }, { on := 37, ground := Ground.phase }, { on := 38, ground := Ground.phase }, { on := 39, ground := Ground.phase }, { on := 40, ground := Ground.phase }, { on := 41, ground := Ground.phase }, { on := 42, ground := Ground.phase }, { on := 43, ground := Ground.phase }, { on := 44, ground := Ground.phase }, { on := 45, ground := Ground.phase }, { on := 46, ground := Ground.phase }, { on := 47, ground := Ground.phase }, { on := 48, ground := Ground.phase }, { on := 49, ground := Ground.phase }, { on := 50, ground := Ground.phase }, { on := 51, ground := Ground.phase }], guard := none }) (v := ?v52_41) rfl (by kernel_rfl) (by kernel_rfl) (by kernel_rfl) (fun _ _ _ h => h) (Or.inl ⟨by rfl, ?h52_41⟩) (by assumption) ?r52_41
      case h52_41 =>
        intro W hSW
        try dsimp only at hSW
        go_simp
        try with_reducible rfl
      try simp only [Act.put, List.setIfInBounds_toArray, List.set_cons_zero, List.set_cons_succ]
      refine wpAnyH_done (by kernel_rfl) ?_ _
      have HBW := Lib.hid hv41
      go_wp2_with fail
      go_ret
      exact ⟨rfl, HEN.out _ HBW.out⟩

end Go.Proofs.Ytcicfneekmbamaa
