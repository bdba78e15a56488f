/- The readers of both decoders: the reference's digest, the program's unit. Conditions: at most 2^40 bytes are read. -/
import Derived.Test.YtcicfneekmbamaaChkSC
namespace Go.Proofs.Ytcicfneekmbamaa
set_option linter.unusedVariables false
set_option linter.unusedSimpArgs false
open Go.RowKit
theorem num_len {s s' : Chk.Rdr} {lo hi x : Int} (h : Chk.num s lo hi = (x, s')) : s'.b.length ≤ s.b.length := by
  unfold Chk.num at h
  split at h
  · rw [← (Prod.mk.inj h).2]; exact Nat.le_refl _
  · split at h
    · rw [← (Prod.mk.inj h).2]; exact Nat.le_refl _
    · split at h
      · rw [← (Prod.mk.inj h).2]; simp
      · rw [← (Prod.mk.inj h).2]; exact Nat.le_refl _
theorem dgs_len {s s' : Chk.Rdr} {D : List UInt8} (h : Chk.dgs s = (D, s')) : s'.b.length ≤ s.b.length := by
  unfold Chk.dgs at h
  split at h
  · rw [← (Prod.mk.inj h).2]; exact Nat.le_refl _
  · split at h
    · rw [← (Prod.mk.inj h).2]; exact Nat.le_refl _
    · rw [← (Prod.mk.inj h).2]; simp
theorem zUn : (Try.prog.info? 26).map (fun i => (i.zero, i.size)) = some (some (.agg ([.int .i64 0, .int .i64 0, .int .i64 0] : List Value).toArray), ([.int .i64 0, .int .i64 0, .int .i64 0] : List Value).length) := by kernel_rfl
theorem sizeUn3 : (Try.prog.info? 26).map (·.size) = some 3 := by kernel_rfl
set_option maxRecDepth 100000 in
set_option maxHeartbeats 1600000 in
theorem unit_any (rb B : Nat) (s : Chk.Rdr) (hL : s.b.length ≤ 1099511627776) (u : Chk.Un) (s' : Chk.Rdr) (hx : Chk.unit s = (u, s')) (w : World) (h : RdrAt w 100 rb B s) :
    Calls Try.prog 87 #[.pointer (some ⟨rb, 0, none⟩)] w (RdRes 100 rb B (unV u) s' w) := by
  obtain ⟨x1, s1, h1⟩ : ∃ x s1, Chk.num s 0 4095 = (x, s1) := ⟨_, _, rfl⟩
  obtain ⟨x2, s2, h2⟩ : ∃ x s2, Chk.num s1 0 63 = (x, s2) := ⟨_, _, rfl⟩
  obtain ⟨x3, s3, h3⟩ : ∃ x s3, Chk.num s2 0 31 = (x, s3) := ⟨_, _, rfl⟩
  have e : Chk.unit s = (⟨x1, x2, x3⟩, s3) := by unfold Chk.unit; simp only [h1, h2, h3]
  rw [hx] at e
  obtain ⟨rfl, rfl⟩ := Prod.mk.inj e
  have l1 := num_len h1
  have l2 := num_len h2
  have N1 := Lib.hid (fun w h => number_any rb B s 0 4095 hL x1 s1 h1 w h)
  have N2 := Lib.hid (fun w h => number_any rb B s1 0 63 (by omega) x2 s2 h2 w h)
  have N3 := Lib.hid (fun w h => number_any rb B s2 0 31 (by omega) x3 s' h3 w h)
  have H := Lib.hid h
  have hbu := built_un x1 x2 x3
  clear hx h1 h2 h3 e l1 l2 hL h
  unfold unV
  go_enter Try.func87, Try.ntmps87
  go_upto_region 1 with (refine wpList_allocRow rfl _ rfl _ zUn ?_; intro w1 rz1 b1 z1)
  have HZ1 := Lib.hid rz1
  have HB1 := Lib.hid b1
  have HR1 := Lib.hid (H.out.below b1)
  clear b1 z1 rz1
  go_upto_region 2 with (go_at_call 61; refine (N1.out w1 HR1.out).mono ?_; rintro e' w2 ⟨rfl, hs2, hk2⟩)
  have HR2 := Lib.hid hs2
  have HK2 := Lib.hid hk2
  clear hs2 hk2
  go_upto_region 3 with (go_at_call 61; refine (N2.out w2 HR2.out).mono ?_; rintro e' w3 ⟨rfl, hs3, hk3⟩)
  have HR3 := Lib.hid hs3
  have HK3 := Lib.hid (HK2.out.trans hk3)
  clear hs3 hk3
  have hlt := H.out.lt
  obtain ⟨br, hbr⟩ : ∃ y, w.heap.size = y := ⟨_, rfl⟩
  have HBR : Hid (rb < br ∧ B ≤ rb ∧ w.heap.size = br) := Lib.hid ⟨by omega, by obtain ⟨_, _, _, _, _, _, _, _, hB⟩ := H.out; exact hB, hbr⟩
  rw [hbr] at HZ1
  try rw [hbr]
  clear hbr hlt
  go_wp2_with (first
    | (refine wpList_storeRow rfl _ (.tmp 2) (.tmp 14) rfl (l' := [.int .i64 x1, .int .i64 x2, .int .i64 x3]) rz4 rfl rfl sizeUn3 rfl rfl ?_; intro w9 rz9 g9 z9)
    | (go_at_call 61; refine (N3.out w3 HR3.out).mono ?_; rintro e' w4 ⟨rfl, hs4, hk4⟩; have HR4 := Lib.hid hs4; have HK4 := Lib.hid (HK3.out.trans hk4); have rz4 := HZ1.out.keep (HK4.out.block br HZ1.out.lt (by have := HBR.out.1; omega)); clear hs4 hk4))
  refine bodyPost_ret (resultRowS rfl _ _ rz9 rfl Try.underlying26 sizeUn3) rfl ?_
  have hbl := HBR.out
  refine ⟨rfl, ?_, ((Keep.of_below HB1.out).trans HK4.out).grown g9 (fun k e => .inr (by have := Option.some.inj e; omega))⟩
  exact HR4.out.keep (Keep.of_grown (S := fun q => q = br) g9 fun k e => (Option.some.inj e).symm) (by show ¬ rb = br; omega) (fun k hk => by show ¬ k = br; omega)
def dgJ (D : List UInt8) (j : Nat) : List Value := bvs (D.take j) ++ List.replicate (16 - j) (Value.int .u8 0)
theorem dgJ_len {D : List UInt8} (hD : D.length = 16) {j : Nat} (hj : j ≤ 16) : (dgJ D j).length = 16 := by unfold dgJ; rw [List.length_append, bvs_length, List.length_take, List.length_replicate, hD]; omega
theorem dgJ_set {D : List UInt8} (hD : D.length = 16) {j : Nat} (hj : j < 16) (x : UInt8) (hx : D[j]? = some x) : (dgJ D j).set j (.int .u8 (x.toNat : Int)) = dgJ D (j + 1) := by
  unfold dgJ
  have hjl : j < D.length := by omega
  have hl : (bvs (D.take j)).length = j := by rw [bvs_length, List.length_take, hD]; omega
  rw [List.set_append_right _ _ (by omega), hl, Nat.sub_self, show 16 - j = (16 - (j + 1)) + 1 by omega, List.replicate_succ, List.set_cons_zero, List.take_succ_eq_append_getElem hjl]
  rw [List.getElem?_eq_getElem hjl] at hx
  rw [Option.some.inj hx]
  simp [bvs]
theorem dgJ_at {D : List UInt8} (hD : D.length = 16) {j : Nat} (hj : j < 16) : (dgJ D j)[j]? = some (.int .u8 0) := by
  unfold dgJ
  have hl : (bvs (D.take j)).length = j := by rw [bvs_length, List.length_take, hD]; omega
  rw [List.getElem?_append_right (by omega), hl, Nat.sub_self, List.getElem?_replicate, if_pos (by omega)]
set_option maxRecDepth 100000 in
set_option maxHeartbeats 1600000 in
theorem rdigestR_any (rb B : Nat) (s : Chk.Rdr) (hL : s.b.length ≤ 1099511627776) (D : List UInt8) (s' : Chk.Rdr) (hx : Chk.dgs s = (D, s')) (w : World) (h : RdrAt w 106 rb B s) :
    Calls Try.prog 65 #[.pointer (some ⟨rb, 0, none⟩)] w (RdRes 106 rb B (.agg (bvs D).toArray) s' w) := by
  have H := Lib.hid h
  obtain ⟨b, e⟩ := s
  obtain ⟨n, hn⟩ : ∃ n, b.length = n := ⟨_, rfl⟩
  have HN := Lib.hid hn
  have hL' : n ≤ 1099511627776 := by rw [← hn]; exact hL
  have HZ : Hid (z16.length = 16 ∧ z16.all (·.oneCell') = true) := Lib.hid ⟨by simp [z16], by simp [z16, Value.oneCell']⟩
  obtain ⟨br, hbr⟩ : ∃ y, w.heap.size = y := ⟨_, rfl⟩
  have HBR : Hid (rb < br ∧ B ≤ rb ∧ w.heap.size = br) := Lib.hid ⟨by rw [← hbr]; exact h.lt, by obtain ⟨_, _, _, _, _, _, _, _, hB⟩ := h; exact hB, hbr⟩
  have hcase : (e ≠ 0 ∧ D = List.replicate 16 0 ∧ s' = ⟨b, e⟩) ∨ (e = 0 ∧ n < 16 ∧ D = List.replicate 16 0 ∧ s' = ⟨b, 5⟩) ∨ (e = 0 ∧ 16 ≤ n ∧ D = b.take 16 ∧ s' = ⟨b.drop 16, 0⟩) := by
    unfold Chk.dgs at hx
    by_cases he : e = 0
    · subst he
      rw [if_neg (fun h => h rfl)] at hx
      by_cases h16 : n < 16
      · rw [if_pos (show b.length < 16 by omega)] at hx
        exact .inr (.inl ⟨rfl, h16, (Prod.mk.inj hx).1.symm, (Prod.mk.inj hx).2.symm⟩)
      · rw [if_neg (show ¬ b.length < 16 by omega)] at hx
        exact .inr (.inr ⟨rfl, by omega, (Prod.mk.inj hx).1.symm, (Prod.mk.inj hx).2.symm⟩)
    · rw [if_pos he] at hx
      exact .inl ⟨he, (Prod.mk.inj hx).1.symm, (Prod.mk.inj hx).2.symm⟩
  clear h hx hn hL
  go_enter Try.func65, Try.ntmps65
  go_upto_region 1 with (refine wpList_allocRow rfl _ rfl _ zDg ?_; intro w1 rz1 b1 z1)
  go_upto_region 2 with (refine wpList_allocRow rfl _ rfl _ zDg ?_; intro w2 rz2 b2 z2)
  have rz1 : IsRow w1 w.heap.size 42 z16 := rz1
  have rz2 : IsRow w2 w1.heap.size 42 z16 := rz2
  have hb2 : Below w.heap.size w w2 := b1.trans (b2.mono b1.size)
  have rz12 := rz1.below' b2
  have hl1 := rz1.lt
  rw [hbr] at rz12
  obtain ⟨bd, hbd⟩ : ∃ y, w1.heap.size = y := ⟨_, rfl⟩
  rw [hbd] at rz2
  have HBD : Hid (br < bd) := Lib.hid (by omega)
  try rw [hbr]
  try rw [hbd]
  have HB2 := Lib.hid hb2
  have HR2 := Lib.hid rz12
  have HD2 := Lib.hid rz2
  have H2 := Lib.hid (H.out.below hb2)
  obtain ⟨A2, n2, c2, hb2', hn2, hc2, hm2, hr2, hB2⟩ := H2.out
  have hn2' : n2 = n := by have := HN.out; have h4 : b.length = n2 := hn2; omega
  subst hn2'
  have c0 : w2.cell? ⟨rb, 0, none⟩ = some (.slice A2 n2 c2) := hb2'.cell 0
  have c1 : w2.cell? ⟨rb, 1, none⟩ = some (.int .i64 e) := hb2'.cell 1
  have f1 := hb2'.frozen 1
  have HB2' := Lib.hid (And.intro hb2' (And.intro hc2 (And.intro hm2 (And.intro hr2 hB2))))
  have HZ2 := z16_eq
  clear b1 z1 rz1 b2 z2 hb2 rz12 rz2 hbr hbd hl1 hb2' hn2 hc2 hm2 hr2 hB2
  rcases hcase with ⟨he, hD, rfl⟩ | ⟨rfl, h16, hD, rfl⟩ | ⟨rfl, h16, hD, rfl⟩
  · have he' : (e != 0) = true := by simpa using he
    have rz := HR2.out
    have rd := HD2.out
    have HD := Lib.hid hD
    clear he hD HZ2
    go_wp2_with (first
      | (refine wpList_loadRow rfl _ (.tmp 3) rfl rd rfl Try.underlying42 (by rw [HZ.out.1]; exact size16d) ?_)
      | (refine wpList_storeRow rfl _ (.tmp 2) (.tmp 10) rfl (l' := z16) rz rfl rfl (by rw [HZ.out.1]; exact size16d) rfl HZ.out.2 ?_; intro w9 rz9 g9 z9))
    refine bodyPost_ret (resultRow rfl _ _ rz9 rfl Try.underlying42 (by rw [HZ.out.1]; exact size16d)) rfl ?_
    have hbl := HBR.out
    refine ⟨by rw [HD.out, ← z16_eq], ?_, (Keep.of_below HB2.out).grown g9 (fun k e => .inr (by have := Option.some.inj e; omega))⟩
    exact H2.out.keep (Keep.of_grown (S := fun q => q = br) g9 fun k e => (Option.some.inj e).symm) (by show ¬ rb = br; omega) (fun k hk => by show ¬ k = br; omega)
  · have d1 : decide ((n2 : Int) < 16) = true := decide_eq_true (by omega)
    have rz := HR2.out.setOther (p := ⟨rb, 1, none⟩) (show rb ≠ br by have := HBR.out.1; omega) (.int .i64 5)
    have rd := HD2.out.setOther (p := ⟨rb, 1, none⟩) (show rb ≠ bd by have := HBR.out.1; have := HBD.out; omega) (.int .i64 5)
    have HSE := Lib.hid (H2.out.setE 5)
    have HKE := Lib.hid (setE_keep w2 rb 1 (.int .i64 5))
    have HD := Lib.hid hD
    clear hD h16 HZ2
    go_wp2_with (first
      | (refine wpList_loadRow rfl _ (.tmp 3) rfl rd rfl Try.underlying42 (by rw [HZ.out.1]; exact size16d) ?_)
      | (refine wpList_storeRow rfl _ (.tmp 2) (.tmp 20) rfl (l' := z16) rz rfl rfl (by rw [HZ.out.1]; exact size16d) rfl HZ.out.2 ?_; intro w9 rz9 g9 z9))
    refine bodyPost_ret (resultRow rfl _ _ rz9 rfl Try.underlying42 (by rw [HZ.out.1]; exact size16d)) rfl ?_
    have hbl := HBR.out
    refine ⟨by rw [HD.out, ← z16_eq], ?_, ((Keep.of_below HB2.out).trans HKE.out).grown g9 (fun k e => .inr (by have := Option.some.inj e; omega))⟩
    exact HSE.out.keep (Keep.of_grown (S := fun q => q = br) g9 fun k e => (Option.some.inj e).symm) (by show ¬ rb = br; omega) (fun k hk => by show ¬ k = br; omega)
  · have HDL : Hid (D.length = 16) := Lib.hid (by rw [hD, List.length_take, HN.out]; omega)
    have HDB : Hid (∀ j, j < 16 → ∃ x, b[j]? = some x ∧ D[j]? = some x) := Lib.hid (fun j hj => by
      have h1 : j < b.length := by rw [HN.out]; omega
      exact ⟨b[j], List.getElem?_eq_getElem h1, by rw [hD, List.getElem?_take, if_pos hj, List.getElem?_eq_getElem h1]⟩)
    obtain ⟨ga, oa, rfl, hga, hcl⟩ := HB2'.out.2.2.2.1.2 (by omega)
    have HGA := Lib.hid (And.intro hga hcl)
    have d1 : decide ((n2 : Int) < 16) = false := decide_eq_false (by omega)
    have HR0 : Hid (IsRow w2 bd 42 (dgJ D 0)) := HD2
    have H16 := Lib.hid h16
    clear hD hga hcl h16 HZ2
    go_upto_region 8 with fail
    clear c0 c1 f1 d1
    go_loopw [4] (fun u4 wx => ∃ (wr : World) (j : Nat), wr = wx ∧ j ≤ 16 ∧ u4 = .int .i64 (j : Int) ∧ Hid (IsRow wr bd 42 (dgJ D j)) ∧ Hid (Keep (fun q => q = bd) w2 wr)) (fun u4 _ => 16 - (intOf u4).toNat)
    case atStart => exact ⟨_, 0, rfl, by omega, rfl, HR0, Lib.hid (Keep.refl _ _)⟩
    case round =>
      obtain ⟨wr, j, rfl, hj, rfl, HR, HK⟩ := hrel
      have hbl := HBR.out
      have hbd := HBD.out
      have c0 : wr.cell? ⟨rb, 0, none⟩ = some (.slice (some ⟨ga, oa, none⟩) n2 c2) := (HK.out.cell (p := ⟨rb, 0, none⟩) HB2'.out.1.lt (show ¬ rb = bd by omega)).trans (HB2'.out.1.cell 0)
      by_cases hlt : j < 16
      · obtain ⟨x, hbx, hdx⟩ := HDB.out j hlt
        have k0 : wr.cell? ⟨ga, oa + j, none⟩ = some (.int .u8 (x.toNat : Int)) := (HK.out.cell (p := ⟨ga, oa + j, none⟩) (show ga < _ by have := HGA.out.1; have := H2.out.lt; omega) (show ¬ ga = bd by have := HGA.out.1; omega)).trans (HGA.out.2 j _ (by rw [List.getElem?_map, hbx]; rfl))
        have kc : wr.cell? ⟨bd, j, none⟩ = some (.int .u8 0) := (HR.out.cell j).trans (dgJ_at HDL.out hlt)
        have kf := HR.out.frozen j
        have HSET := Lib.hid (HR.out.set j (.int .u8 (x.toNat : Int)))
        have HST := Lib.hid (dgJ_set HDL.out hlt x hdx)
        have e1 : (0 : Int) ≤ (j : Int) := by omega
        have e2 : (j : Int) < 16 := by omega
        have e3 : (j : Int) < (n2 : Int) := by have := H16.out; omega
        obtain ⟨xn, hxn⟩ : ∃ y : Int, (x.toNat : Int) = y := ⟨_, rfl⟩
        rw [hxn] at k0 HSET HST
        clear hbx hdx hxn hbl hbd
        go_wp2
        go_roundw
        case rel => exact ⟨_, j + 1, rfl, by omega, by go_num, Lib.hid (by have := HSET.out; rwa [HST.out] at this), Lib.hid (HK.out.setCell (.inl rfl) _)⟩
        case measure => simp [intOf]; omega
      · obtain rfl : j = 16 := by omega
        have hb3 := HB2'.out.1.keep (HK.out.block rb HB2'.out.1.lt (by omega))
        have f0 := hb3.frozen 0
        have hrd3 : Rd wr B 1 (some ⟨ga, oa, none⟩) n2 (bvs b) := HB2'.out.2.2.2.1.keep fun p hp => HK.out.cell (p := p) (by have := H2.out.lt; omega) (show ¬ p.block = bd by omega)
        have h16 := H16.out
        have hsl0 := fun w => run_cutFrom (P := Try.prog) w bytesE (some ⟨ga, oa, none⟩) n2 c2 16 .i64 h16
        obtain ⟨A', hA'⟩ : ∃ A', (if c2 = 16 then (some ⟨ga, oa, none⟩ : Option Addr) else (some ⟨ga, oa, none⟩ : Option Addr).map (·.add (16 * 1))) = A' := ⟨_, rfl⟩
        simp only [hA'] at hsl0
        have hsl : ∀ w, (Instr.sliceAt 70 (.slice (some ⟨ga, oa, none⟩) n2 c2) (some (.int .i64 16)) none none).run Try.prog w = .ok (.slice A' (n2 - 16) (c2 - 16)) w := fun w => hsl0 w
        have hrc := hrd3.cut (k := 16) h16 HB2'.out.2.1
        rw [hA', Nat.mul_one] at hrc
        have HAD := Lib.hid (RdrAt.advance (s := ⟨b, 0⟩) (A' := A') hb3 HN.out HB2'.out.2.1 HB2'.out.2.2.1 h16 hrc HB2'.out.2.2.2.2)
        have hu1 : (16 : Int) ≤ (n2 : Int) := by omega
        have HKE := Lib.hid (setE_keep wr rb 0 (.slice A' (n2 - 16) (c2 - 16)))
        have rd := HR.out.setOther (p := ⟨rb, 0, none⟩) (show rb ≠ bd by omega) (.slice A' (n2 - 16) (c2 - 16))
        have rz := (HR2.out.keep (HK.out.block br HR2.out.lt (by omega))).setOther (p := ⟨rb, 0, none⟩) (show rb ≠ br by omega) (.slice A' (n2 - 16) (c2 - 16))
        have hDJ : dgJ D 16 = bvs D := by unfold dgJ; rw [List.take_of_length_le (by rw [HDL.out]; exact Nat.le_refl _)]; simp
        rw [hDJ] at rd
        have hs : (rb : Nat) ≠ bd := by omega
        have HKW : Hid (Keep (fun q => q = rb) w wr) := Lib.hid ((Keep.of_below HB2.out).then (T := fun q => q = bd) HK.out (fun k e => .inr (by have := HBR.out.2.2; omega)))
        clear hb3 hrd3 h16 hsl0 hA' hrc hDJ hs hbl hbd
        go_wp2_with (first
          | (refine wpList_loadRow rfl _ (.tmp 3) rfl rd rfl Try.underlying42 (by rw [bvs_length, HDL.out]; exact size16d) ?_)
          | (refine wpList_storeRow rfl _ (.tmp 2) (.tmp 42) rfl (l' := bvs D) rz rfl rfl (by rw [bvs_length, HDL.out]; exact size16d) (by rw [bvs_length, HDL.out]; exact HZ.out.1) (List.all_eq_true.2 (bvs_one D)) ?_; intro w9 rz9 g9 z9))
        refine bodyPost_ret (resultRow rfl _ _ rz9 rfl Try.underlying42 (by rw [bvs_length, HDL.out]; exact size16d)) rfl ?_
        have hbl := HBR.out
        refine ⟨rfl, ?_, (HKW.out.trans HKE.out).grown g9 (fun k e => .inr (by have := Option.some.inj e; omega))⟩
        exact HAD.out.keep (Keep.of_grown (S := fun q => q = br) g9 fun k e => (Option.some.inj e).symm) (by show ¬ rb = br; omega) (fun k hk => by show ¬ k = br; omega)
end Go.Proofs.Ytcicfneekmbamaa
