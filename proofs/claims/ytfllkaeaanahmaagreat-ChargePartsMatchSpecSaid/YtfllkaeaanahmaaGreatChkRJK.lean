/- Joined texts: ChkRJ, ChkRK. Conditions: as each part says. -/
import Derived.Test.YtfllkaeaanahmaaGreatChkR3
namespace Go.Proofs.YtfllkaeaanahmaaGreat
set_option linter.unusedVariables false
set_option linter.unusedSimpArgs false
section
open Go.RowKit
theorem resultRowS {P : Program} {fn : Func} {p : Tmp} {ty : TypeId} (h : fn.results = #[.cell p ty]) (tmps : Array Value) (w : World) {b t : Nat} {fs : Array Field} {l : List Value} (hr : IsRow w b t l)
  (hp : tmps.getD p undef = .pointer (some ⟨b, 0, none⟩)) (hu : P.underlying ty = some (.struct fs)) (hi : (P.info? ty).map (·.size) = some l.length) :
  (results fn tmps).run P w = .ok (.agg l.toArray) w := results_cell_row h tmps w b t l.toArray (0, 0) _ hp hr hu rfl (by simpa using hi)
set_option maxRecDepth 100000 in
set_option maxHeartbeats 1600000 in
theorem rown_any (c : Chk.Ck) (hdg : c.dg.length = 16) (A : Option Addr) (N k : Nat) (hN : c.refs.length = N) (hN16 : N ≤ 1000) (B : Nat) (w : World) (hr : Rd w B 2 A N (rfs c.refs)) (hB : B ≤ w.heap.size) (cs : List Value) (hcs : ckCells c (.slice A N k) = cs) :
  Calls Tryz.prog 55 #[.agg cs.toArray] w fun e w' => ∃ A' k', e = .returned (.agg (ckCells c (.slice A' N k')).toArray) ∧ w'.ownsRow w.heap.size 76 2 (.slice A' N k') N (rfs c.refs) ∧ Below w.heap.size w w' := by
 have hat := ckCells_at c (.slice A N k) hdg
 rw [hcs] at hat
 have R0 := IsRow.new w 68 cs
 have k22 := (R0.cell 22).trans hat.2.2.2.2.2.2
 have hb0 : Below w.heap.size w (w.alloc (.cells cs.toArray 68)) := (Below.refl _ w).alloc (Nat.le_refl _) _
 have hlt0 : w.heap.size < (w.alloc (.cells cs.toArray 68)).heap.size := by simp
 have HST := Lib.hid (fun v' => show cs.set 22 v' = ckCells c v' from by rw [← hcs]; exact ckCells_set c _ v' hdg)
 have HLN := Lib.hid (fun v' => ckCells_len (c := c) hdg v')
 generalize hva : cs.toArray = va at *
 have HVA := Lib.hid hva
 obtain ⟨w0, hw0⟩ : ∃ w0, w.alloc (.cells va 68) = w0 := ⟨_, rfl⟩
 rw [hw0] at k22 hb0 R0 hlt0
 obtain ⟨b1, hb1⟩ : ∃ y, w.heap.size = y := ⟨_, rfl⟩
 have HW0 := Lib.hid hw0
 have HN := Lib.hid hN
 have HB0 := Lib.hid hb0
 have HR0 := Lib.hid (And.intro R0 hlt0)
 have HRD := Lib.hid (fun W (hW : Below w.heap.size w W) => (hr.more hB).below hW)
 have HK22 := Lib.hid (hat.2.2.2.2.2.2)
 have HON := Lib.hid (show ∀ u ∈ rfs c.refs, u.oneCell' = true from rfs_one _)
 obtain ⟨xs, hxs⟩ : ∃ xs, rfs c.refs = xs := ⟨_, rfl⟩
 rw [hxs] at HRD HON ⊢
 clear hw0 hat R0 hcs hr hb0 k22 hlt0 hN hva hxs hb1
 go_enter Tryz.func55, Tryz.ntmps55
 go_upto_region 2 with (rw [HW0.out]; refine wpList_allocRow rfl _ rfl _ infoCk' ?_; intro w2 rz2 b2 z2; clear z2)
 have HZ := Lib.hid (And.intro rz2 b2)
 have rb2 := HR0.out.1.below' b2
 have k22 := (rb2.cell 22).trans HK22.out
 have hb02 : Below w.heap.size w w2 := HB0.out.trans (b2.mono HB0.out.size)
 have HRD2 := Lib.hid (HRD.out w2 hb02)
 have HRB2 := Lib.hid rb2
 obtain ⟨br, hbr⟩ : ∃ y, w0.heap.size = y := ⟨_, rfl⟩
 rw [hbr] at HZ
 have HBR := Lib.hid (And.intro hbr hb02)
 try rw [hbr]
 clear rz2 b2 rb2 hb02 hbr
 go_upto_region 3 with (at_builtin; refine wpList_appR rfl (.tmp 4) (.tmp 6) 66 rfl w2.heap.size 76 _ 2 16 refT none 0 0 [] A N k xs rfl rfl (World.ownsRow_nil _ _ _ _) HRD2.out HON.out (Below.refl w2.heap.size w2) (by omega) (Nat.le_refl _) (Nat.le_refl _) ?_; intro A5 c5 w5 own5 b5; simp only [Nat.zero_add, List.nil_append] at own5; simp only [Nat.zero_add]; have rz5 := HRB2.out.below' b5; have kk : w5.cell? ⟨w.heap.size, 22, none⟩ = some (.slice A N k) := (rz5.cell 22).trans HK22.out; have ff : w5.frozen? ⟨w.heap.size, 22, none⟩ = false := rz5.frozen 22; have HO5 := Lib.hid own5; have HB5 := Lib.hid b5; clear own5 b5)
 obtain ⟨w6, hw6⟩ : ∃ y, w5.setCell ⟨w.heap.size, 22, none⟩ (.slice A5 N c5) = y := ⟨_, rfl⟩
 have rz6 := rz5.set 22 (.slice A5 N c5)
 rw [HST.out] at rz6
 have hbr := HBR.out.1
 have hsz := HR0.out.2
 have h22s := HBR.out.2.size
 have hlt2 := HZ.out.1.lt
 have hne : br ≠ w.heap.size := by omega
 have rz25 := HZ.out.1.below' HB5.out
 have rz26 := rz25.setOther (p := ⟨w.heap.size, 22, none⟩) (fun e => hne e.symm) (.slice A5 N c5)
 have hk6 : Keep (fun b => b = w.heap.size) w5 (w5.setCell ⟨w.heap.size, 22, none⟩ (.slice A5 N c5)) := Keep.of_grown (grown_set_ w5 w.heap.size 22 _) fun k e => (Option.some.inj e).symm
 rw [hw6] at rz6 rz26 hk6
 try rw [hw6]
 have p5 : Below w.heap.size w w5 := HBR.out.2.trans (HB5.out.mono HBR.out.2.size)
 have p6 : Below w.heap.size w w6 := ⟨hk6.os.trans p5.os, hk6.tape.trans p5.tape, hk6.output.trans p5.output, Nat.le_trans p5.size hk6.size, fun q hq => (hk6.block q (by have := p5.size; omega) (by omega)).trans (p5.block q hq)⟩
 have HO6 := Lib.hid (own_keepS HO5.out hk6 (fun g hg => by subst hg; omega))
 have hr6 : w6.rangeAt w.heap.size 0 (ckCells c (.slice A5 N c5)) := fun j u hu => by rw [Nat.zero_add, rz6.cell]; exact hu
 have HP6 := Lib.hid p6
 have HBL := Lib.hid (And.intro hne (And.intro hlt2 (show w.heap.size ≤ br by omega)))
 clear hw6 rz5 rz25 kk ff k22 hk6 p5 p6 rz6 hbr hsz h22s hlt2 hne
 go_wp2_with (first
  | (refine wpList_load_mid rfl _ (.tmp 1) rfl w.heap.size 0 rfl (ckCells c (.slice A5 N c5)) _ hr6 Tryz.underlying68 rfl (by rw [HLN.out]; exact sizeCk) ?_)
  | (refine wpList_storeRow rfl _ (.tmp 2) (.tmp 9) rfl (l' := ckCells c (.slice A5 N c5)) rz26 rfl rfl (by rw [HLN.out]; exact sizeCk) (by rw [HLN.out]; rfl) (by rw [List.all_eq_true]; exact ckCells_one _ _ rfl) ?_; intro w7 rz7 g7 z7))
 refine bodyPost_ret (resultRowS rfl _ _ rz7 rfl Tryz.underlying68 (by rw [HLN.out]; exact sizeCk)) rfl ?_
 have hb := HBL.out
 refine ⟨A5, c5, rfl, ?_, HP6.out.grown g7 HP6.out.size (fun i hi => by have := Option.some.inj hi; omega)⟩
 exact own_base (own_keepS HO6.out (Keep.of_grown g7 (S := fun b => b = br) fun k e => (Option.some.inj e).symm) (fun g hg => by subst hg; exact hb.2.1)) HBR.out.2.size
set_option maxRecDepth 100000 in
set_option maxHeartbeats 1600000 in
theorem rget_none {w : World} {F S : Nat → Prop} {a : Nat} {t : RM} {l : List Chk.Ck} (h : RAt w F S a t l) (id : Int) (hp : Chk.pos (Chk.ids l) id = none) :
  Calls Tryz.prog 26 #[.pointer (some ⟨a, 0, none⟩), .int .i64 id] w (GetNo w) := by
 have HT := Lib.hid h
 have HF := Lib.hid (fun (W : World) (hW : Below w.heap.size w W) => rfind_any (HT.out.below hW) id (-1) (Chk.posI_none hp))
 clear h hp
 go_enter Tryz.func26, Tryz.ntmps26
 go_wp2_with (first
  | (have tok := rz2; refine wpList_storeRow rfl _ (.tmp 4) (.tmp 12) rfl (l' := zCk) rz2 rfl rfl sizeCk rfl rfl ?_; intro w3 rz3 g3 z3; clear tok)
  | (go_at_call 54; refine (HF.out _ b1).mono ?_; rintro e w2 ⟨rfl, hw2⟩; have rz2 := rz1; have q2 := b1; obtain rfl := hw2.symm)
  | (refine wpList_allocRow rfl _ rfl _ infoCk' ?_; intro w1 rz1 b1 z1; clear z1))
 refine bodyPost_ret (resultRowT rfl _ _ rz3 rfl Tryz.underlying68 sizeCk) rfl ?_
 exact ⟨rfl, q2.grown g3 q2.size (fun i hi => by have := Option.some.inj hi; omega)⟩
set_option maxRecDepth 100000 in
set_option maxHeartbeats 1600000 in
theorem rget_some {w : World} {F S : Nat → Prop} {a : Nat} {t : RM} {l : List Chk.Ck} (h : RAt w F S a t l) (id : Int) (k : Nat) (hp : Chk.pos (Chk.ids l) id = some k) :
  Calls Tryz.prog 26 #[.pointer (some ⟨a, 0, none⟩), .int .i64 id] w (GetOk (Chk.nth l k) w) := by
 have hkl := (Chk.pos_lt hp).1
 have hkn : k < t.n := by rw [← h.len.1]; exact hkl
 obtain ⟨g, x, hA, hg, hx, hn, hcr, hok, hrg⟩ := h.at hkn
 rw [hn]
 have hmx := h.max
 have HF := Lib.hid (fun (W : World) (hW : Below w.heap.size w W) => rfind_any (h.below hW) id (k : Int) (Chk.posI_some hp))
 have c0 := h.rd (w' := w)
 have HC0 := Lib.hid (fun (W : World) (hW : Below w.heap.size w W) => show W.cell? ⟨a, 0, none⟩ = some (.slice (some ⟨g, 0, none⟩) t.n t.c) from by rw [← hA]; exact h.rd hW)
 have HCL := Lib.hid (fun (W : World) (hW : Below w.heap.size w W) => rown_any x.c hok.dg x.A x.n x.k hcr.n (by have := refs_len hok.refs; have := hcr.n; omega) w.heap.size W (hcr.rd.below hW) hW.size x.cells rfl)
 have HX := Lib.hid hg
 have HRG := Lib.hid hrg
 have HN := Lib.hid hcr.n
 have hd := h.dl x (List.mem_of_getElem? hx)
 obtain ⟨cs, hcs⟩ : ∃ cs, x.cells = cs := ⟨_, rfl⟩
 rw [hcs] at hd HRG HCL
 have HLN := Lib.hid (fun v' => ckCells_len (c := x.c) hok.dg v')
 have HD := Lib.hid hd
 have e1 : (0 : Int) ≤ (k : Int) := by omega
 have e2 : (k : Int) < (t.n : Int) := by omega
 have e3 : ¬ (k : Int) < 0 := by omega
 clear h hp hkl hkn hx hrg hn hd hok hcr hg hcs hA c0
 go_enter Tryz.func26, Tryz.ntmps26
 go_upto_region 4 with (first
  | (go_at_call 54; refine (HF.out _ b1).mono ?_; rintro e w2 ⟨rfl, hw2⟩; obtain rfl := hw2.symm)
  | (refine wpList_allocRow rfl _ rfl _ infoCk' ?_; intro w1 rz1 b1 z1; clear z1))
 have hrw : w1.rangeAt g (k * 23) cs := fun j u hu => (b1.cell (p := ⟨g, k * 23 + j, none⟩) HX.out).trans (HRG.out j u hu)
 have c0 := HC0.out w1 b1
 obtain ⟨b4, hb4⟩ : ∃ x, w.heap.size = x := ⟨_, rfl⟩
 rw [hb4] at rz1
 try rw [hb4]
 have HB4 := Lib.hid hb4
 have HQ2 := Lib.hid b1
 have HZ2 := Lib.hid rz1
 clear hb4 b1 rz1 hw2
 go_wp2_with (first
  | (refine wpList_load_mid rfl _ (.tmp 18) rfl g (k * 23) rfl cs _ hrw Tryz.underlying68 rfl (by rw [HD.out]; exact sizeCk) ?_)
  | (go_at_call 55; refine (HCL.out _ HQ2.out).mono ?_; rintro e w5 ⟨A5, k5, rfl, own5, b5⟩; have rz25 := HZ2.out.below' b5; have HO5 := Lib.hid own5; have HB5 := Lib.hid b5; clear own5 b5)
  | (refine wpList_storeRow rfl _ (.tmp 4) (.tmp 20) rfl (l' := ckCells x.c (.slice A5 x.n k5)) rz25 rfl rfl (by rw [HLN.out]; exact sizeCk) (by rw [HLN.out]; rfl) (by rw [List.all_eq_true]; exact ckCells_one _ _ rfl) ?_; intro w7 rz7 g7 z7))
 refine bodyPost_ret (resultRowT rfl _ _ rz7 rfl Tryz.underlying68 (by rw [HLN.out]; exact sizeCk)) rfl ?_
 have hn := HN.out
 have hb4 := HB4.out
 have p5 := HQ2.out.trans (HB5.out.mono HQ2.out.size)
 have hlt := HZ2.out.lt
 refine ⟨A5, k5, by rw [hn]; rfl, ?_, p5.grown g7 p5.size (fun i hi => by have := Option.some.inj hi; omega)⟩
 rw [hn]
 exact own_base (own_keepS HO5.out (Keep.of_grown g7 (S := fun b => b = b4) fun k e => (Option.some.inj e).symm) (fun g hg => by subst hg; exact hlt)) HQ2.out.size
end
section
open Go.RowKit
set_option maxRecDepth 100000 in
set_option maxHeartbeats 1600000 in
theorem rlive_any {w : World} {F S : Nat → Prop} {a : Nat} {t : RM} {l : List Chk.Ck} (h : RAt w F S a t l) (r g : Int) :
  Calls Tryz.prog 48 #[.pointer (some ⟨a, 0, none⟩), .agg #[.int .i64 r, .int .i64 g]] w fun e w' => ∃ A c, e = .returned (.slice A (Chk.live l r g).length c) ∧ w'.ownsRow w.heap.size 3 1 (.slice A (Chk.live l r g).length c) (Chk.live l r g).length (ivs (Chk.live l r g)) ∧ Below w.heap.size w w' := by
 have HAT := Lib.hid (fun W (hW : Below w.heap.size w W) u v q hv hq => rat_any (h.below hW) u v q hv hq)
 have hb0 : Below w.heap.size w (w.alloc (.cells #[.int .i64 r, .int .i64 g] 63)) := (Below.refl _ w).alloc (Nat.le_refl _) _
 have k0 : (w.alloc (.cells #[.int .i64 r, .int .i64 g] 63)).cell? ⟨w.heap.size, 0, none⟩ = some (.int .i64 r) := (IsRow.new w 63 [.int .i64 r, .int .i64 g]).cell 0
 have k1 : (w.alloc (.cells #[.int .i64 r, .int .i64 g] 63)).cell? ⟨w.heap.size, 1, none⟩ = some (.int .i64 g) := (IsRow.new w 63 [.int .i64 r, .int .i64 g]).cell 1
 obtain ⟨w0, hw0⟩ : ∃ x, w.alloc (.cells #[.int .i64 r, .int .i64 g] 63) = x := ⟨_, rfl⟩
 rw [hw0] at hb0 k0 k1
 have hs0 : w0.heap.size = w.heap.size + 1 := by rw [← hw0]; simp
 have HW0 := Lib.hid hw0
 have HB0 := Lib.hid hb0
 have HS0 := Lib.hid hs0
 have HKK := Lib.hid (And.intro k0 k1)
 clear hw0 hb0 hs0 k0 k1 h
 go_enter Tryz.func48, Tryz.ntmps48
 go_upto_region 1 with fail
 rw [HW0.out]
 go_upto_region 3 with fail
 go_loopw [5, 6] (fun u5 u6 wr => ∃ (j M : Nat) (A3 : Option Addr) (c3 : Nat), j ≤ 32 ∧ u6 = .int .i64 (j : Int) ∧ u5 = .slice A3 M c3 ∧ Hid (M = (liveN l r g j).length) ∧ Hid (wr.ownsRow w0.heap.size 3 1 (.slice A3 M c3) M (ivs (liveN l r g j))) ∧ Hid (Below w0.heap.size w0 wr)) (fun _ u6 _ => 32 - (intOf u6).toNat)
 case atStart => exact ⟨0, 0, none, 0, Nat.zero_le _, rfl, rfl, Lib.hid rfl, Lib.hid (World.ownsRow_nil _ _ _ _), Lib.hid (Below.refl _ _)⟩
 case round =>
  obtain ⟨j, M, A3, c3, hj, rfl, rfl, HM, HO, HBX⟩ := hrel
  have HB := Lib.hid (HB0.out.trans (HBX.out.mono HB0.out.size))
  by_cases hlt : j < 32
  ·
   have q0 : wr.cell? ⟨w.heap.size, 0, none⟩ = some (.int .i64 r) := (HBX.out.cell (p := ⟨w.heap.size, 0, none⟩) (show w.heap.size < _ by have := HS0.out; omega)).trans HKK.out.1
   have q1 : wr.cell? ⟨w.heap.size, 1, none⟩ = some (.int .i64 g) := (HBX.out.cell (p := ⟨w.heap.size, 1, none⟩) (show w.heap.size < _ by have := HS0.out; omega)).trans HKK.out.2
   have e2 : (j : Int) < 32 := by omega
   have hln := liveN_succ l r g j
   have hle := liveN_le l r g j
   have HML := Lib.hid (show M ≤ 32 by rw [HM.out]; omega)
   cases hu : Chk.unitAt l ⟨r, g, (j : Nat)⟩ with
   | none =>
    rw [hu] at hln
    have HAU := Lib.hid (HAT.out wr HB.out ⟨r, g, (j : Nat)⟩ 0 false (by rw [hu]; rfl) (by rw [hu]; rfl))
    unfold unV at HAU
    have HLN : Hid (liveN l r g (j + 1) = liveN l r g j) := Lib.hid (by rw [hln]; simp)
    clear hln hle hu
    go_wp2_with (go_at_call 81; refine HAU.out.mono ?_; rintro e w3 ⟨rfl, b3⟩; have HB3 := Lib.hid b3; clear b3)
    go_roundw
    case rel => exact ⟨j + 1, M, A3, c3, by omega, by go_num, rfl, Lib.hid (by rw [HLN.out]; exact HM.out), Lib.hid (by rw [HLN.out]; exact own_below HO.out HB3.out), Lib.hid (HBX.out.trans (HB3.out.mono HBX.out.size))⟩
    case measure => simp [intOf]; omega
   | some v =>
    rw [hu] at hln
    have HAU := Lib.hid (HAT.out wr HB.out ⟨r, g, (j : Nat)⟩ v true (by rw [hu]; rfl) (by rw [hu]; rfl))
    unfold unV at HAU
    have HLN : Hid (liveN l r g (j + 1) = liveN l r g j ++ [v]) := Lib.hid (by rw [hln]; simp)
    clear hln hle hu
    go_wp2_with (first
     | (go_at_call 81; refine HAU.out.mono ?_; rintro e w3 ⟨rfl, b3⟩; have HB3 := Lib.hid b3; clear b3)
     | (at_builtin; refine wpList_app1 rfl (.tmp 22) (.tmp 24) 27 rfl w0.heap.size 3 _ 8 intsT A3 M c3 (ivs (liveN l r g j)) (.int .i64 v) rfl rfl (own_below HO.out HB3.out) (HBX.out.trans (HB3.out.mono HBX.out.size)) rfl (by have := HML.out; omega) (Nat.le_refl _) (Nat.le_trans HBX.out.size HB3.out.size) ?_; intro g4 c4 w4 own4 hb4 hg4; rw [ivs_snoc _ v rfl, ← HLN.out] at own4; have HO4 := Lib.hid own4; have HB4 := Lib.hid hb4; clear own4 hb4 hg4))
    go_roundw
    case rel => exact ⟨j + 1, M + 1, some ⟨g4, 0, none⟩, c4, by omega, by go_num, rfl, Lib.hid (by rw [HLN.out, List.length_append, ← HM.out]; rfl), HO4, HB4⟩
    case measure => simp [intOf]; omega
  ·
   obtain rfl : j = 32 := by omega
   go_wp2_with fail
   go_ret
   have hm := HM.out
   have ho := HO.out
   have e : liveN l r g 32 = Chk.live l r g := rfl
   rw [e] at hm ho
   subst hm
   exact ⟨A3, c3, rfl, own_base ho (by have := HS0.out; omega), HB0.out.trans (HBX.out.mono HB0.out.size)⟩
end
end Go.Proofs.YtfllkaeaanahmaaGreat
