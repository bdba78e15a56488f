/- The law ChunksHeal. Conditions: none beside the arguments' form. -/
import Derived.Test.YtcicfneekmbamaaCLawHP
namespace Go.Proofs.Ytcicfneekmbamaa
set_option linter.unusedVariables false
set_option linter.unusedSimpArgs false
open Go.RowKit
set_option maxRecDepth 100000 in
set_option maxHeartbeats 3200000 in
theorem heal_long (A : Option Addr) (n c : Nat) (id : Int) (u : Chk.Un) (w : World) (hn : 120 < n) :
    Calls Try.prog 7 #[.slice A n c, .int .i64 id, unV u] w fun e w' => e = .returned (.bool true) ∧ Below w.heap.size w w' := by
  obtain ⟨r, g, m⟩ := u
  unfold unV
  have HSN := Lib.hid sanity_any
  obtain ⟨w0, hw0⟩ : ∃ z, w.alloc (.cells #[.int .i64 r, .int .i64 g, .int .i64 m] 26) = z := ⟨_, rfl⟩
  have HB0 : Hid (Below w.heap.size w w0) := Lib.hid (by rw [← hw0]; exact box_below w _)
  have HBU := Lib.hid (build_long A n c w0 hn)
  have HW0 := Lib.hid hw0
  clear hn hw0
  go_enter Try.func7, Try.ntmps7
  go_wp2_with (first
    | (go_at_call 12; refine (HSN.out _).mono ?_; rintro e w2 ⟨rfl, b2⟩)
    | (rw [HW0.out]; go_at_call 11; refine HBU.out.mono ?_; rintro e w1 ⟨rfl, b1⟩))
  go_ret
  exact ⟨rfl, HB0.out.trans ((b1.trans (b2.mono b1.size)).mono HB0.out.size)⟩
set_option maxRecDepth 100000 in
set_option maxHeartbeats 12800000 in
theorem lawHeal (A : Option Addr) (n c : Nat) (ops : List Chk.Op) (hl : ops.length = n) (hnc : n ≤ c) (hc : c ≤ 140737488355328) (hok : ∀ o ∈ ops, OpOk o) (id : Int) (li : -9223372036854775808 ≤ id) (ui : id ≤ 9223372036854775807) (u : Chk.Un) (hu : UnOk u) (w : World) (hr : Rd w w.heap.size 9 A n (ops.flatMap opL)) :
    Calls Try.prog 7 #[.slice A n c, .int .i64 id, unV u] w fun e w' => e = .returned (.bool true) ∧ Below w.heap.size w w' := by
  by_cases hn : 120 < n
  · exact heal_long A n c id u w hn
  clear li ui hu
  have HSN := Lib.hid sanity_any
  have HVL := Lib.hid (fun W s hs => refValid_any u W s hs)
  have HUV : Hid (unV u = .agg #[.int .i64 u.r, .int .i64 u.g, .int .i64 u.u]) := Lib.hid rfl
  have HU : Hid (u = ⟨u.r, u.g, u.u⟩) := Lib.hid rfl
  obtain ⟨w0, hw0⟩ : ∃ z, w.alloc (.cells #[.int .i64 u.r, .int .i64 u.g, .int .i64 u.u] 26) = z := ⟨_, rfl⟩
  have HB0 : Hid (Below w.heap.size w w0) := Lib.hid (by rw [← hw0]; exact box_below w _)
  have hbx : IsRow w0 w.heap.size 26 [.int .i64 u.r, .int .i64 u.g, .int .i64 u.u] := by rw [← hw0]; exact IsRow.new w _ [.int .i64 u.r, .int .i64 u.g, .int .i64 u.u]
  have HBU := Lib.hid (build_any A n c ops w0 (by omega) ⟨(hr.below HB0.out).more HB0.out.size, hl, fun o ho => (hok o ho).2.2.2.2.2⟩)
  obtain ⟨l, hll⟩ : ∃ l, Chk.run [] ops = l := ⟨_, rfl⟩
  rw [hll] at HBU
  have HW0 := Lib.hid hw0
  obtain ⟨r, hur⟩ : ∃ x, u.r = x := ⟨_, rfl⟩
  obtain ⟨g, hug⟩ : ∃ x, u.g = x := ⟨_, rfl⟩
  obtain ⟨m, hum⟩ : ∃ x, u.u = x := ⟨_, rfl⟩
  rw [HUV.out]
  rw [hur, hug, hum] at HUV HW0 hbx ⊢
  have HBX0 := Lib.hid hbx
  have HURG := Lib.hid (And.intro hur (And.intro hug hum))
  clear hr hok hl hn hw0 hll hbx hc hnc hur hug hum
  go_enter Try.func7, Try.ntmps7
  go_upto_region 4 with (rw [HW0.out]; go_at_call 11; refine HBU.out.mono ?_; rintro e w1 ⟨a, rfl, h1⟩; have H1 := Lib.hid h1; clear h1)
  obtain ⟨bu, hbu⟩ : ∃ y, w.heap.size = y := ⟨_, rfl⟩
  rw [hbu] at HBX0 ⊢
  have HG1 := Lib.hid H1.out.g
  have HIV := Lib.hid H1.out.inv
  have HBX := Lib.hid (fun (W : World) (hW : Below w1.heap.size w1 W) => (HBX0.out.below' HG1.out.b).below' hW)
  have HGT := Lib.hid (HG1.out.getAny id)
  clear HBU H1
  go_upto_region 5 with (first
    | (go_at_call 14; refine HGT.out.mono ?_; rintro e w2 ⟨cs, q, rfl, hln, hon, b2, hq⟩; (have HLN := Lib.hid hln); (have HON := Lib.hid hon); (have HQ := Lib.hid hq); clear hln hon hq)
    | (refine wpList_storeRow rfl _ (.tmp 9) (.tmp 36) rfl (l' := cs) rz3 rfl rfl (by rw [HLN.out]; exact sizeCk) (by rw [HLN.out]; rfl) HON.out ?_; intro w4 rz4 g4 z4; clear z4)
    | (refine wpList_allocRow rfl _ rfl _ infoCk' ?_; intro w3 rz3 b3 z3; clear z3))
  have hb4 : Below w2.heap.size w2 w4 := b3.grown g4 b3.size (fun i hi => by have := Option.some.inj hi; omega)
  obtain ⟨bc, hbc⟩ : ∃ y, w2.heap.size = y := ⟨_, rfl⟩
  have HBC : Hid (w1.heap.size ≤ bc) := Lib.hid (by rw [← hbc]; exact b2.size)
  rw [hbc] at rz4 ⊢
  have HB4 := Lib.hid (b2.trans (hb4.mono b2.size))
  have HR4 := Lib.hid rz4
  have HB24 := Lib.hid hb4
  have HBC2 := Lib.hid hbc
  clear rz3 b3 g4 hb4 b2 rz4 hbc
  try simp only [Act.put, List.setIfInBounds_toArray, List.set_cons_zero, List.set_cons_succ]
  obtain ⟨v, hv⟩ : ∃ v, (Chk.unitAt l u).getD 0 = v := ⟨_, rfl⟩
  obtain ⟨q2, hq2⟩ : ∃ q2, (Chk.unitAt l u).isSome = q2 := ⟨_, rfl⟩
  have HAT := Lib.hid ((HG1.out.below HB4.out).at_ u v q2 hv hq2)
  rw [HUV.out] at HAT
  have HQ2 := Lib.hid hq2
  have e0 := (HBX.out _ HB4.out).cell 0
  have e1 := (HBX.out _ HB4.out).cell 1
  have e2 := (HBX.out _ HB4.out).cell 2
  clear hv hq2
  go_upto_region 6 with (go_at_call 16; refine HAT.out.mono ?_; rintro e w5 ⟨rfl, b5⟩)
  have HB5 := Lib.hid (HB4.out.trans (b5.mono HB4.out.size))
  have HE : Hid (∀ W, Below w5.heap.size w5 W → Below w.heap.size w W) := Lib.hid (fun W hW => by
    have h1 := HB0.out.trans (HG1.out.b.mono HB0.out.size)
    have h5 := h1.trans (HB5.out.mono h1.size)
    exact h5.trans (hW.mono h5.size))
  clear e0 e1 e2
  have e0 := (HBX.out _ HB5.out).cell 0
  have e1 := (HBX.out _ HB5.out).cell 1
  have e2 := (HBX.out _ HB5.out).cell 2
  cases q with
  | false =>
    go_wp2_with (go_at_call 12; refine (HSN.out _).mono ?_; rintro e w9 ⟨rfl, b9⟩)
    go_ret
    exact ⟨rfl, HE.out _ b9⟩
  | true =>
    cases q2 with
    | true =>
      go_wp2_with (go_at_call 12; refine (HSN.out _).mono ?_; rintro e w9 ⟨rfl, b9⟩)
      go_ret
      exact ⟨rfl, HE.out _ b9⟩
    | false =>
      obtain ⟨s, hs⟩ : ∃ s, decide (Chk.valid u) = s := ⟨_, rfl⟩
      have HV := Lib.hid (fun W => HVL.out W s hs)
      rw [HUV.out] at HV
      have HS := Lib.hid hs
      clear hs
      cases s with
      | false =>
        go_wp2_with (first
          | (go_at_call 31; refine (HV.out _).mono ?_; rintro e w8 ⟨rfl, b8⟩)
          | (go_at_call 12; refine (HSN.out _).mono ?_; rintro e w9 ⟨rfl, b9⟩))
        go_ret
        exact ⟨rfl, HE.out _ (b8.trans (b9.mono b8.size))⟩
      | true =>
        have hmm := @run_makeMap Try.prog
        go_upto_region 9 with (go_at_call 31; refine (HV.out _).mono ?_; rintro e w6 ⟨rfl, b6⟩)
        clear hmm
        obtain ⟨bo, hbo⟩ : ∃ y, w6.heap.size = y := ⟨_, rfl⟩
        have HLO : Hid (w1.heap.size ≤ bo ∧ w4.heap.size ≤ bo) := Lib.hid (by rw [← hbo]; exact ⟨Nat.le_trans HB5.out.size b6.size, Nat.le_trans b5.size b6.size⟩)
        have hM0 := OldM.nil (L := bo) (l := l) (MapIs.made w6 (Value.int .i64)) (by rw [hbo]; exact Nat.le_refl _)
        have b7 := box_below w6 (.map #[] 0)
        have hs7 : (w6.alloc (.map #[] 0)).heap.size = w6.heap.size + 1 := by simp
        obtain ⟨w7, hw7⟩ : ∃ y, w6.alloc (.map #[] 0) = y := ⟨_, rfl⟩
        rw [hw7] at hM0 b7 hs7 ⊢
        rw [hbo] at hM0 hs7 ⊢
        have HS7 := Lib.hid hs7
        have HM0 := Lib.hid hM0
        have h67 := b6.trans (b7.mono b6.size)
        have HB7 := Lib.hid (HB5.out.trans (h67.mono HB5.out.size))
        have HB47 := Lib.hid (b5.trans (h67.mono b5.size))
        obtain ⟨N, hN⟩ : ∃ N, l.length = N := ⟨_, rfl⟩
        have HN := Lib.hid hN
        have HMX : Hid (N ≤ 65536) := Lib.hid (by rw [← hN]; exact HG1.out.max)
        have HID := Lib.hid ((HG1.out.below HB7.out).ids_ N hN (Chk.ids l) rfl)
        clear hN h67 hs7 hw7 hbo hM0 b7 b6
        go_upto_region 10 with (go_at_call 30; refine HID.out.mono ?_; rintro e w8 ⟨A2, c2, rfl, own2, b8⟩)
        have HM8 := Lib.hid (HM0.out.below b8)
        have HO8 := Lib.hid own2
        have HB8 := Lib.hid (HB7.out.trans (b8.mono HB7.out.size))
        have HB48 := Lib.hid (HB47.out.trans (b8.mono HB47.out.size))
        have HL8 : Hid (bo < w8.heap.size) := Lib.hid (by have := b8.size; have := HS7.out; omega)
        clear own2 b8 HID e0 e1 e2 b5
        go_loopw [59] (fun u59 wx => ∃ (wr : World) (j : Nat), wr = wx ∧ j ≤ N ∧ u59 = .int .i64 (j : Int) ∧ Hid (Keep (fun b => b = bo) w8 wr ∧ ∃ M, OldM wr bo bo l j M)) (fun u59 _ => N - (intOf u59).toNat)
        case atStart => exact ⟨_, 0, rfl, Nat.zero_le _, rfl, Lib.hid ⟨Keep.refl _ _, _, HM8.out⟩⟩
        case round =>
          obtain ⟨wr, j, rfl, hj, rfl, HKM⟩ := hrel
          obtain ⟨MM, hMM⟩ := HKM.out.2
          have HM := Lib.hid hMM
          have HBR := Lib.hid (Below.then_keep HB8.out HKM.out.1 (fun k e => by rw [e]; exact HLO.out.1) (Nat.le_refl _))
          have hmx := HMX.out
          clear hMM
          by_cases hlt : j < N
          · have hjl : j < l.length := by rw [HN.out]; exact hlt
            have hji : j < (Chk.ids l).length := by simpa using hjl
            obtain ⟨b, off, rfl, _, hx⟩ := (Rd.of_own (own_keepS HO8.out HKM.out.1 (fun g e => by rw [e, HS7.out]; exact Nat.lt_succ_self _))).get hji
            have hxi : (Chk.ids l)[j] = (Chk.nth l j).id := by
              have h1 : (Chk.ids l)[j]? = some (Chk.nth l j).id := by rw [List.getElem?_map, Chk.nth_get hjl]; rfl
              rw [List.getElem?_eq_getElem hji] at h1
              exact Option.some.inj h1
            rw [hxi] at hx
            have hpos := Chk.pos_nth HIV.out hjl
            obtain ⟨x, hxx⟩ : ∃ x, Chk.nth l j = x := ⟨_, rfl⟩
            rw [hxx] at hx hpos
            have HXX := Lib.hid (And.intro hxx hjl)
            have HGJ := Lib.hid ((HG1.out.below HBR.out).getOk x.id j x hpos hxx)
            obtain ⟨xi, hid⟩ : ∃ xi, x.id = xi := ⟨_, rfl⟩
            rw [hid] at hx HGJ
            have HXI := Lib.hid hid
            have i1 : (0 : Int) ≤ (j : Int) := by omega
            have i2 : (j : Int) < (N : Int) := by omega
            clear hjl hji hxi hpos hxx hid
            go_wp2_with (first
              | (go_at_call 14; refine HGJ.out.mono ?_; rintro e w9 ⟨A9, k9, rfl, own9, b9⟩; (have hm9 := HM.out.map.below b9 HM.out.map.lt); (obtain ⟨v9, hv9⟩ : ∃ y, Value.agg (ckCells x (.slice A9 x.refs.length k9)).toArray = y := ⟨_, rfl⟩); rw [hv9]; (have HO9 := Lib.hid own9); (have HV9 := Lib.hid hv9); clear own9 hv9)
              | (at_mapUpdate; refine wpList_store rfl (.tmp 64) (.tmp 65) (.tmp 69) 65 rfl keyInt22 Try.underlying65 hm9 rfl xi rfl v9 rfl ?_; intro w10 hm10 ht10))
            have hk10 : Keep (fun b => b = bo) w9 w10 := (Keep.refl _ _).turned ht10 (.inl rfl)
            have HR : Hid (Keep (fun b => b = bo) w8 w10 ∧ ∃ M, OldM w10 bo bo l (j + 1) M) := Lib.hid ⟨(HKM.out.1.trans (Keep.of_below b9)).trans hk10, (HM.out.below b9).step HIV.out HXX.out.2 HXX.out.1 HXI.out (RefAt.of_own HO9.out (Nat.le_of_lt HM.out.map.lt) HM.out.map.lt) (by rw [← HV9.out] at hm10; exact hm10) hk10⟩
            clear hm9 hm10 ht10 hk10 b9 HKM HM HBR HGJ HO9 HV9
            go_roundw
            case rel => exact ⟨_, j + 1, rfl, by omega, by go_num, HR⟩
            case measure => simp [intOf]; omega
          · obtain rfl : N = j := by omega
            obtain ⟨k, A1, kk, hp, hcs, own1⟩ := HQ.out (by simp)
            obtain ⟨hk, hidk⟩ := Chk.pos_lt hp
            have hdg := (HIV.out.nth hk).dg
            have hat : Chk.unitAt l u = none := by
              have h1 := HQ2.out
              cases h : Chk.unitAt l u with
              | none => rfl
              | some y => rw [h] at h1; cases h1
            obtain ⟨hp1, hmv⟩ := Chk.heal_at HIV.out hp (of_decide_eq_true HS.out) hat
            have hls := Chk.lose_at hp
            have hn1 := Chk.nth_set_same hk { Chk.nth l k with at_ := Chk.z, lost := true }
            have hl2i := (HIV.out.lose id)
            obtain ⟨x, hxx⟩ : ∃ y, Chk.nth l k = y := ⟨_, rfl⟩
            rw [hxx] at hidk hdg hp1 hmv hls hn1 hcs own1
            obtain ⟨x1, hx1⟩ : ∃ y : Chk.Ck, { x with at_ := Chk.z, lost := true } = y := ⟨_, rfl⟩
            obtain ⟨x2, hx2⟩ : ∃ y : Chk.Ck, { x with at_ := u, lost := false } = y := ⟨_, rfl⟩
            rw [hx1] at hp1 hmv hls hn1
            rw [hx2] at hmv
            have HX1 : Hid (x1.at_ = Chk.z ∧ x1.lost = true ∧ x1.dg.length = 16) := Lib.hid (by rw [← hx1]; exact ⟨rfl, rfl, hdg⟩)
            have HX2 : Hid (x2.id = x.id ∧ x2.refs = x.refs ∧ x2 = { x with at_ := u, lost := false }) := Lib.hid (by rw [← hx2]; exact ⟨rfl, rfl, rfl⟩)
            obtain ⟨l1, hl1⟩ : ∃ y, l.set k x1 = y := ⟨_, rfl⟩
            obtain ⟨l2, hl2⟩ : ∃ y, l.set k x2 = y := ⟨_, rfl⟩
            rw [hl1] at hp1 hmv hls hn1
            rw [hl2] at hmv
            obtain ⟨G, hGm, hgl⟩ : ∃ G : Nat → Prop, (∀ b, w1.heap.size ≤ b → b < wr.heap.size → G b) ∧ TabG w0 wr a l G := ⟨_, fun b h1 h2 => ⟨h1, h2⟩, HG1.out.mores HBR.out⟩
            have HGM := Lib.hid hGm
            have HLS := Lib.hid (hgl.lose_ id hls)
            have HMV := Lib.hid hmv
            have HP1 := Lib.hid (And.intro hp1 hn1)
            have HCS := Lib.hid hcs
            have HRF := Lib.hid (RefAt.of_old own1 (bo := bo) (by rw [HBC2.out]; have h1 := HR4.out.lt; have h2 := HLO.out.2; omega))
            have HDG := Lib.hid hdg
            have HKX := Lib.hid (And.intro hk (And.intro hxx hidk))
            have HL2 := Lib.hid hl2
            clear hp hcs own1 hat hp1 hmv hls hn1 hl2i hx1 hx2 hl1 hl2 hGm hgl hk hxx hidk hdg
            go_upto_region 15 with (go_at_call 32; refine HLS.out.mono ?_; rintro e w11 ⟨rfl, h11, s11⟩)
            have HG11 := Lib.hid h11
            have HS11 := Lib.hid s11
            have HGT1 := Lib.hid (h11.getOk id k x1 HP1.out.1 HP1.out.2)
            clear h11 s11
            go_upto_region 16 with (first
              | (go_at_call 14; refine HGT1.out.mono ?_; rintro e w12 ⟨A3, k3, rfl, own3, b12⟩; clear own3; (have HAC1 := Lib.hid (ckCells_at x1 (.slice A3 x1.refs.length k3) HX1.out.2.2)); (have HLN1 := Lib.hid (ckCells_len (c := x1) HX1.out.2.2 (.slice A3 x1.refs.length k3))); (have HON1 := Lib.hid (List.all_eq_true.2 (ckCells_one x1 (.slice A3 x1.refs.length k3) rfl))); (obtain ⟨cs1, hcs1⟩ : ∃ cs, ckCells x1 (.slice A3 x1.refs.length k3) = cs := ⟨_, rfl⟩); rw [hcs1] at HAC1 HLN1 HON1 ⊢; clear hcs1)
              | (refine wpList_storeRow rfl _ (.tmp 17) (.tmp 79) rfl (l' := cs1) rz13 rfl rfl (by rw [HLN1.out]; exact sizeCk) (by rw [HLN1.out]; rfl) HON1.out ?_; intro w14 rz14 g14 z14; clear z14)
              | (refine wpList_allocRow rfl _ rfl _ infoCk' ?_; intro w13 rz13 b13 z13; clear z13))
            have hb14 : Below w12.heap.size w12 w14 := b13.grown g14 b13.size (fun i hi => by have := Option.some.inj hi; omega)
            obtain ⟨bm, hbm⟩ : ∃ y, w12.heap.size = y := ⟨_, rfl⟩
            have HB14 := Lib.hid (b12.trans (hb14.mono b12.size))
            have HBM : Hid (w11.heap.size ≤ bm) := Lib.hid (by rw [← hbm]; exact b12.size)
            rw [hbm] at rz14 ⊢
            have HG14 := Lib.hid (HG11.out.more HB14.out bm HBM.out rz14.lt)
            have HRM := Lib.hid rz14
            clear rz13 b13 g14 hb14 b12 rz14 hbm
            try simp only [Act.put, List.setIfInBounds_toArray, List.set_cons_zero, List.set_cons_succ]
            have HMC := Lib.hid (HG14.out.move_ id u HMV.out)
            rw [HUV.out] at HMC
            have hbx := HBX0.out.below' HG14.out.b
            have e0 := hbx.cell 0
            have e1 := hbx.cell 1
            have e2 := hbx.cell 2
            clear hbx
            go_upto_region 17 with (go_at_call 33; refine HMC.out.mono ?_; rintro e w15 ⟨rfl, h15, s15⟩)
            have HG15 := Lib.hid h15
            have HS15 : Hid (∀ b, G b → w15.heap[b]? = wr.heap[b]?) := Lib.hid (fun b hb => (s15 b (.inl hb)).trans ((HB14.out.block b (HG11.out.lt b hb)).trans (HS11.out b hb)))
            have HRM15 := Lib.hid (HRM.out.keep (s15 bm (.inr rfl)))
            have hgc : G bc := HGM.out bc HBC.out (Nat.lt_of_lt_of_le HR4.out.lt (Nat.le_trans HB48.out.size HKM.out.1.size))
            have HGC := Lib.hid hgc
            have HNE : Hid (bc ≠ bo) := Lib.hid (fun e => by have h1 := HR4.out.lt; have h2 := HLO.out.2; omega)
            have hrc := (((HR4.out.below' HB48.out).keep (HKM.out.1.block bc (Nat.lt_of_lt_of_le HR4.out.lt HB48.out.size) HNE.out)).keep (HS15.out bc hgc))
            clear e0 e1 e2 h15 s15 hgc
            have hbx := HBX0.out.below' HG15.out.b
            have e0 := hbx.cell 0
            have e1 := hbx.cell 1
            have e2 := hbx.cell 2
            have hac := ckCells_at x (.slice A1 x.refs.length kk) HDG.out
            rw [← HCS.out] at hac
            have k18 := (hrc.cell 18).trans hac.2.2.1
            have k19 := (hrc.cell 19).trans hac.2.2.2.1
            have k20 := (hrc.cell 20).trans hac.2.2.2.2.1
            have k21 := (hrc.cell 21).trans hac.2.2.2.2.2.1
            have f18 := hrc.frozen 18
            have f19 := hrc.frozen 19
            have f20 := hrc.frozen 20
            have f21 := hrc.frozen 21
            have HRC := Lib.hid hrc
            clear hbx hac hrc
            go_upto_region 18 with fail
            have HM15 := Lib.hid (HM.out.same (W2 := w15) fun b h1 h2 => HS15.out b (HGM.out b (Nat.le_trans HLO.out.1 h1) h2))
            have hcs2 : (((cs.set 18 (.int .i64 r)).set 19 (.int .i64 g)).set 20 (.int .i64 m)).set 21 (.bool false) = ckCells x2 (.slice A1 x2.refs.length kk) := by
              rw [HCS.out, ← HURG.out.1, ← HURG.out.2.1, ← HURG.out.2.2, ckCells_put4 x _ HDG.out u false, HX2.out.2.1, HX2.out.2.2]
            have hset := ((((HRC.out.set 18 (.int .i64 r)).set 19 (.int .i64 g)).set 20 (.int .i64 m)).set 21 (.bool false))
            rw [hcs2] at hset
            have HLN2 : Hid ((ckCells x2 (.slice A1 x2.refs.length kk)).length = 23) := Lib.hid (ckCells_len (by rw [HX2.out.2.2]; exact HDG.out) _)
            have HV2 : Hid (ckV x2 A1 kk = .agg (ckCells x2 (.slice A1 x2.refs.length kk)).toArray) := Lib.hid rfl
            obtain ⟨cs2, hc2⟩ : ∃ y, ckCells x2 (.slice A1 x2.refs.length kk) = y := ⟨_, rfl⟩
            rw [hc2] at hset HLN2 HV2
            have hset : World.rangeAt _ bc 0 cs2 := fun q u hu => (by rw [Nat.zero_add, hset.cell]; exact hu)
            have hK16 := keep4 w15 bc 18 19 20 21 (.int .i64 r) (.int .i64 g) (.int .i64 m) (.bool false)
            have HK16 := Lib.hid hK16
            have hm16 := HM15.out.map.keep hK16 (fun e => HNE.out e.symm)
            clear hcs2 hc2 hK16 k18 k19 k20 k21 f18 f19 f20 f21 e0 e1 e2
            go_upto_region 19 with (first
              | (at_mapUpdate; refine wpList_store rfl (.tmp 88) (.tmp 89) (.tmp 90) 65 rfl keyInt22 Try.underlying65 hm16 rfl id rfl (.agg cs2.toArray) rfl ?_; intro w17 hm17 ht17)
              | (refine wpList_load_mid rfl _ (.tmp 9) rfl bc 0 rfl cs2 _ hset Try.underlying45 rfl (by rw [HLN2.out]; exact sizeCk) ?_))
            have hk17 : Keep (fun b => b = bo) _ w17 := (Keep.refl _ _).turned ht17 (.inl rfl)
            rw [← HV2.out] at hm17
            have hcb : bc < bo := by have h1 := HR4.out.lt; have h2 := HLO.out.2; omega
            have hbw : bo < wr.heap.size := HM.out.map.lt
            have hbb : bo < w11.heap.size := HG11.out.lt bo (HGM.out bo HLO.out.1 hbw)
            have hbmb : bo < bm := by have := HBM.out; omega
            have HL2N : Hid (l2.length = N) := Lib.hid (by rw [← HL2.out, List.length_set]; exact HN.out)
            have HM17 : Hid (∃ M, OldM w17 w1.heap.size bo l2 N M) := Lib.hid (by
              have h1 : OldM _ bo bo l N MM := HM15.out.same fun b h1 h2 => HK16.out.block b h2 (by omega)
              rw [← HL2.out]
              refine (h1.mono HLO.out.1).heal HIV.out HN.out HKX.out.1 (by rw [HX2.out.1, HKX.out.2.1]) (by rw [HKX.out.2.1]; exact HKX.out.2.2) ?_ hm17 hk17
              have h2 : RefAt w2 w1.heap.size bo x2 A1 kk := by unfold RefAt; rw [HX2.out.2.1]; exact HRF.out
              refine h2.same fun b h3 h4 h5 => ?_
              have h6 : b < w4.heap.size := Nat.lt_of_lt_of_le h5 HB24.out.size
              have h7 : b < w8.heap.size := Nat.lt_of_lt_of_le h6 HB48.out.size
              have h8 : b < wr.heap.size := Nat.lt_of_lt_of_le h7 HKM.out.1.size
              have h9 := HS15.out b (HGM.out b h3 h8)
              have h10 : b < w15.heap.size := HG15.out.lt b (.inl (HGM.out b h3 h8))
              rw [HBC2.out] at h5
              exact (HK16.out.block b h10 (by omega)).trans (h9.trans ((HKM.out.1.block b h7 h4).trans ((HB48.out.block b h6).trans (HB24.out.block b (by rw [HBC2.out]; exact h5))))))
            have h0c : w0.heap.size ≤ bc := Nat.le_trans HG1.out.b.size HBC.out
            have HG17 : Hid (TabG w0 w17 a l2 (fun b => G b ∨ b = bm)) := Lib.hid ((HG15.out.turn (x := bc) (.inl HGC.out) h0c HK16.out).turn (x := bo) (.inl (HGM.out bo HLO.out.1 hbw)) (by omega) hk17)
            have HRM17 : Hid (IsRow w17 bm 45 cs1) := Lib.hid ((HRM15.out.keep (HK16.out.block bm HRM15.out.lt (by omega))).keep (hk17.block bm (Nat.lt_of_lt_of_le HRM15.out.lt HK16.out.size) (by omega)))
            have HID2 := Lib.hid (HG17.out.ids_ N HL2N.out (Chk.ids l2) rfl)
            have HIV2 := Lib.hid HG17.out.inv
            clear hset hm16 hm17 ht17 hk17 hcb hbw hbb hbmb h0c HKM HM HBR HM15 HGC HS15 HG15 HG14 HG11 HRC
            go_upto_region 20 with (go_at_call 30; refine HID2.out.mono ?_; rintro e w18 ⟨A5, c5, rfl, own5, b18⟩)
            obtain ⟨M2, hM2⟩ := HM17.out
            have HM18 := Lib.hid (hM2.below b18)
            have HG18 := Lib.hid (HG17.out.below b18)
            have HRM18 := Lib.hid (HRM17.out.below' b18)
            have HO18 := Lib.hid (Rd.of_own own5)
            clear hM2 b18 own5 HID2 HM17 HG17 HRM17
            go_loopw [94] (fun u94 wx => ∃ (wy : World) (j : Nat), wy = wx ∧ j ≤ N ∧ u94 = .int .i64 (j : Int) ∧ Hid (Below w18.heap.size w18 wy)) (fun u94 _ => N - (intOf u94).toNat)
            case atStart => exact ⟨_, 0, rfl, Nat.zero_le _, rfl, Lib.hid (Below.refl _ _)⟩
            case round =>
              obtain ⟨wy, j, rfl, hj, rfl, HB⟩ := hrel
              have hmx := HMX.out
              by_cases hlt : j < N
              · have hjl : j < l2.length := by rw [HL2N.out]; exact hlt
                have hji : j < (Chk.ids l2).length := by simpa using hjl
                obtain ⟨b, off, rfl, _, hx⟩ := (HO18.out.below HB.out).get hji
                have hxi : (Chk.ids l2)[j] = (Chk.nth l2 j).id := by
                  have h1 : (Chk.ids l2)[j]? = some (Chk.nth l2 j).id := by rw [List.getElem?_map, Chk.nth_get hjl]; rfl
                  rw [List.getElem?_eq_getElem hji] at h1
                  exact Option.some.inj h1
                rw [hxi] at hx
                have hpos := Chk.pos_nth HIV2.out hjl
                have hck := HIV2.out.nth hjl
                obtain ⟨y, hyy⟩ : ∃ y, Chk.nth l2 j = y := ⟨_, rfl⟩
                rw [hyy] at hx hpos hck
                obtain ⟨A7, k7, hlk, hrf7⟩ := (HM18.out.below HB.out).look hlt hyy
                have HLK := Lib.hid hlk
                have HRF7 := Lib.hid hrf7
                have HGJ := Lib.hid ((HG18.out.below HB.out).getOk y.id j y hpos hyy)
                obtain ⟨xi, hid⟩ : ∃ xi, y.id = xi := ⟨_, rfl⟩
                rw [hid] at hx HGJ HLK
                have HDY := Lib.hid hck.dg
                have HRY : Hid (y.refs.length ≤ 1000) := Lib.hid (by have := refs_len hck.refs; omega)
                have i1 : (0 : Int) ≤ (j : Int) := by omega
                have i2 : (j : Int) < (N : Int) := by omega
                clear hjl hji hxi hpos hyy hid hck hlk hrf7
                go_upto_region 23 with (first
                  | (go_at_call 14; refine HGJ.out.mono ?_; rintro e w20 ⟨A6, k6, rfl, own6, b20⟩; (have HLN6 := Lib.hid (ckCells_len (c := y) HDY.out (.slice A6 y.refs.length k6))); (have HON6 := Lib.hid (List.all_eq_true.2 (ckCells_one y (.slice A6 y.refs.length k6) rfl))); (obtain ⟨cs6, hcs6⟩ : ∃ cs, ckCells y (.slice A6 y.refs.length k6) = cs := ⟨_, rfl⟩); rw [hcs6] at HLN6 HON6 ⊢; (have HCS6 := Lib.hid hcs6); (have HO6 := Lib.hid own6); clear hcs6 own6)
                  | (refine wpList_storeRow rfl _ (.tmp 22) (.tmp 102) rfl (l' := cs6) rz21 rfl rfl (by rw [HLN6.out]; exact sizeCk) (by rw [HLN6.out]; rfl) HON6.out ?_; intro w22 rz22 g22 z22; clear z22)
                  | (refine wpList_allocRow rfl _ rfl _ infoCk' ?_; intro w21 rz21 b21 z21; clear z21))
                have hb22 : Below w20.heap.size w20 w22 := b21.grown g22 b21.size (fun i hi => by have := Option.some.inj hi; omega)
                have hby := b20.trans (hb22.mono b20.size)
                have hlk := HLK.out w22 hby
                obtain ⟨cs7, hcs7⟩ : ∃ cs, ckCells y (.slice A7 y.refs.length k7) = cs := ⟨_, rfl⟩
                have hv7 : ckV y A7 k7 = .agg cs7.toArray := by rw [← hcs7]; rfl
                rw [hv7] at hlk
                have hsc := sameCk_eq y HDY.out y.refs.length rfl HRY.out A6 A7 k6 k7 w22 ((Rd.of_own (own_same2 HO6.out fun b _ e => hb22.block b e))) (Rd.of_own (HRF7.out.same fun b _ _ e => hby.block b e).1)
                rw [HCS6.out, hcs7] at hsc
                have HSC := Lib.hid hsc
                have HBY := Lib.hid (HB.out.trans (hby.mono HB.out.size))
                obtain ⟨by6, hby6⟩ : ∃ y, w20.heap.size = y := ⟨_, rfl⟩
                rw [hby6] at rz22 ⊢
                have rz22 : w22.rangeAt by6 0 cs6 := fun q u hu => (by rw [Nat.zero_add, rz22.cell]; exact hu)
                clear rz21 b21 g22 hb22 b20 hby hcs7 hv7 hsc hx hby6
                try simp only [Act.put, List.setIfInBounds_toArray, List.set_cons_zero, List.set_cons_succ]
                go_wp2_with (first
                  | (refine wpList_load_mid rfl _ (.tmp 22) rfl by6 0 rfl cs6 _ rz22 Try.underlying45 rfl (by rw [HLN6.out]; exact sizeCk) ?_)
                  | (go_at_call 18; refine HSC.out.mono ?_; rintro e w24 ⟨rfl, b24⟩))
                go_roundw
                case rel => exact ⟨_, j + 1, rfl, by omega, by go_num, Lib.hid (HBY.out.trans (b24.mono HBY.out.size))⟩
                case measure => simp [intOf]; omega
              · obtain rfl : N = j := by omega
                have HRY := Lib.hid (HRM18.out.below' HB.out)
                have HMY := Lib.hid (HM18.out.below HB.out)
                have HGY := Lib.hid (HG18.out.below HB.out)
                have hac := HAC1.out
                rw [HX1.out.1, HX1.out.2.1] at hac
                have HC1 : Hid (cs1[18]? = some (.int .i64 0) ∧ cs1[19]? = some (.int .i64 0) ∧ cs1[20]? = some (.int .i64 0) ∧ cs1[21]? = some (.bool true)) := Lib.hid ⟨hac.2.2.1, hac.2.2.2.1, hac.2.2.2.2.1, hac.2.2.2.2.2.1⟩
                have HLEN := Lib.hid (fun W hW => (HGY.out.below (w' := W) hW).len_ N HL2N.out)
                have heq := fun W => eql_un W Chk.z
                unfold unV Chk.z at heq
                clear hac
                go_wp2_with (first
                  | (go_at_call 12; refine (HSN.out _).mono ?_; rintro e w30 ⟨rfl, b30⟩; (have r30 := HRY.out.below' b30); (have q18 := (r30.cell 18).trans HC1.out.1); (have q19 := (r30.cell 19).trans HC1.out.2.1); (have q20 := (r30.cell 20).trans HC1.out.2.2.1); (have q21 := (r30.cell 21).trans HC1.out.2.2.2); (have hml := (HMY.out.below b30).map.len (P := Try.prog) Try.underlying65 3); clear r30)
                  | (go_at_call 34; refine (HLEN.out _ b30).mono ?_; rintro e w31 ⟨rfl, hw31⟩; obtain rfl := hw31.symm))
                go_ret
                have h1 := HB0.out.trans (HGY.out.b.mono HB0.out.size)
                exact ⟨rfl, h1.trans (b30.mono h1.size)⟩
end Go.Proofs.Ytcicfneekmbamaa
