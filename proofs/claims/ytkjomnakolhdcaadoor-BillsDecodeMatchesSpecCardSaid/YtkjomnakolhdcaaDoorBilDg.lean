/- Layer 35's Decode: the reference's digest. Conditions: the bytes lie before the reader's variable. -/
import Derived.Test.YtkjomnakolhdcaaDoorBilDl
namespace Go.Proofs.YtkjomnakolhdcaaDoor
set_option linter.unusedVariables false
set_option linter.unusedSimpArgs false
open Go.RowKit
/-- a digest from the front -/
def Bil.dgs (b : List UInt8) (e : Int) : List UInt8 × List UInt8 × Int := if e = 0 then (if b.length < 16 then (List.replicate 16 0, b, 5) else (b.take 16, b.drop 16, 0)) else (List.replicate 16 0, b, e)
theorem infoDgD : (Tryd.prog.info? 66).map (fun i => (i.zero, i.size)) = some (some (.agg (bvs (List.replicate 16 0)).toArray), (bvs (List.replicate 16 0)).length) := by kernel_rfl
theorem sizeDgD : (Tryd.prog.info? 66).map (·.size) = some 16 := by kernel_rfl
theorem mix_set (b : List UInt8) (i : Nat) (hi : i < 16) (hb : 16 ≤ b.length) (x : Int) (hx : ((b.getD i 0).toNat : Int) = x) : (bvs (b.take i ++ List.replicate (16 - i) 0)).set i (.int .u8 x) = bvs (b.take (i + 1) ++ List.replicate (16 - (i + 1)) 0) := by
  have hr : List.replicate (16 - i) (0 : UInt8) = 0 :: List.replicate (16 - (i + 1)) 0 := by rw [show 16 - i = (16 - (i + 1)) + 1 by omega]; rfl
  have hib : i < b.length := by omega
  have ht : b.take (i + 1) = b.take i ++ [b[i]] := List.take_succ_eq_append_getElem hib
  rw [hr, ht]
  have hl : (b.take i).length = i := by rw [List.length_take]; omega
  simp only [bvs, List.map_append, List.map_cons, List.map_nil]
  rw [List.set_append_right _ _ (by rw [List.length_map, hl]; exact Nat.le_refl _), List.length_map, hl, Nat.sub_self]
  have hg : b.getD i 0 = b[i] := by simp [List.getD, List.getElem?_eq_getElem hib]
  rw [hg] at hx
  rw [← hx]
  simp
/-- b2: the result's variable; b3: the digest's -/
structure DgS (w W : World) (br b2 b3 : Nat) (b : List UInt8) (e : Int) (L : List Value) : Prop where
  k : Keep (fun q => q = br) w W
  r2 : IsRow W b2 66 (bvs (List.replicate 16 0))
  r3 : IsRow W b3 66 L
  st : RSt W br b e
  o : w.heap.size ≤ b2 ∧ b2 < b3 ∧ br < w.heap.size
theorem DgS.put {w W : World} {br b2 b3 : Nat} {b : List UInt8} {e : Int} {L : List Value} (h : DgS w W br b2 b3 b e L) (j : Nat) (v : Value) : DgS w (W.setCell ⟨b3, j, none⟩ v) br b2 b3 b e (L.set j v) := by
  have ho := h.o
  have hk : Keep (fun q => q = b3) W (W.setCell ⟨b3, j, none⟩ v) := Keep.of_grown (grown_setCell _ _ _ _) fun k e => (Option.some.inj e).symm
  exact ⟨h.k.grown (grown_setCell W b3 j v) fun k e => .inr (by have := Option.some.inj e; omega), h.r2.keep (hk.block b2 h.r2.lt (by omega)), h.r3.set j v, h.st.keeps hk (fun q hq e => by omega), ho⟩
theorem DgS.next {w W W' : World} {br b2 b3 : Nat} {b b' : List UInt8} {e e' : Int} {L : List Value} (h : DgS w W br b2 b3 b e L) (hs : RSt W' br b' e') (hk : Keep (fun q => q = br) W W') : DgS w W' br b2 b3 b' e' L := by
  have ho := h.o
  exact ⟨h.k.trans hk, h.r2.keep (hk.block b2 h.r2.lt (by omega)), h.r3.keep (hk.block b3 h.r3.lt (by omega)), hs, ho⟩
set_option maxRecDepth 100000 in
set_option maxHeartbeats 1600000 in
theorem rdigest_any (br : Nat) (b : List UInt8) (e : Int) (w : World) (h : RSt w br b e) :
    Calls Tryd.prog 65 #[.pointer (some ⟨br, 0, none⟩)] w fun r w' => r = .returned (.agg (bvs (Bil.dgs b e).1).toArray) ∧ RSt w' br (Bil.dgs b e).2.1 (Bil.dgs b e).2.2 ∧ Keep (fun q => q = br) w w' := by
  have HH := Lib.hid (And.intro h h.lt)
  obtain ⟨hd, b', e', hdg⟩ : ∃ x y z, Bil.dgs b e = (x, y, z) := ⟨_, _, _, rfl⟩
  have HDG := Lib.hid hdg
  rw [hdg]
  clear h hdg
  go_enter Tryd.func65, Tryd.ntmps65
  go_upto_region 2 with (first
    | (have hgd := r4; refine wpList_storeRow rfl _ (.tmp 3) (.tmp 5) rfl (l' := bvs (List.replicate 16 0)) r4 rfl rfl sizeDgD rfl rfl ?_; intro w5 r5 g5 z5)
    | (have hgd := r2; refine wpList_allocRow rfl _ rfl _ infoDgD ?_; intro w4 r4 b4 z4)
    | (refine wpList_allocRow rfl _ rfl _ infoDgD ?_; intro w2 r2 b2_ z2))
  obtain ⟨b3, hb3⟩ : ∃ x, w2.heap.size = x := ⟨_, rfl⟩
  obtain ⟨b2, hb2⟩ : ∃ x, w.heap.size = x := ⟨_, rfl⟩
  have HS : Hid (DgS w w5 br b2 b3 b e (bvs (List.replicate 16 0))) := Lib.hid (by
    have hl := HH.out.2
    have hk := (Keep.of_below (S := fun q => q = br) b2_).then_below b4
    refine ⟨hk.grown g5 fun k e => .inr (by have := Option.some.inj e; omega), ?_, hb3 ▸ r5, ((HH.out.1.below b2_).below b4).keeps (Keep.of_grown g5 (S := fun q => q = b3) fun k e => by have := Option.some.inj e; omega) (fun q hq e => by omega), by omega, by omega, hl⟩
    rw [← hb2]
    exact (r2.below' b4).grown g5 (fun e => by have := Option.some.inj e; omega))
  rw [hb3, hb2]
  clear r2 b2_ z2 r4 b4 z4 r5 g5 z5 hb3 hb2
  have qe : w5.cell? ⟨br, 1, none⟩ = some (.int .i64 e) := HS.out.st.cell1
  by_cases he : e = 0
  case neg =>
    have hne : (e == 0) = false := by rw [beq_eq_false_iff_ne]; exact he
    have HQ : Hid ((List.replicate 16 0, b, e) = (hd, b', e')) := Lib.hid (by rw [← HDG.out]; unfold Bil.dgs; rw [if_neg he])
    clear he
    go_wp2_with fail
    go_loopw [4] (fun u4 wr => u4 = .int .i64 0 ∧ w5 = wr) (fun _ _ => 0)
    case atStart => exact ⟨rfl, rfl⟩
    case round =>
      obtain ⟨rfl, rfl⟩ := hrel
      have r3 := HS.out.r3
      have r2 := HS.out.r2
      go_wp2_with (first
        | (refine wpList_loadRow rfl _ (.tmp 3) rfl r3 rfl Tryd.underlying66 sizeDgD ?_)
        | (refine wpList_storeRow rfl _ (.tmp 2) (.tmp 55) rfl (l' := bvs (List.replicate 16 0)) r2 rfl rfl sizeDgD rfl rfl ?_; intro w8 r8 g8 z8))
      have hq := HQ.out
      simp only [Prod.mk.injEq] at hq
      obtain ⟨rfl, rfl, rfl⟩ := hq
      have ho := HS.out.o
      exact bodyPost_ret (resultRow rfl _ _ r8 rfl Tryd.underlying66 sizeDgD) rfl ⟨rfl, HS.out.st.keeps (Keep.of_grown g8 (S := fun q => q = b2) fun k e => (Option.some.inj e).symm) (fun q hq e => by omega), HS.out.k.grown g8 fun k e => .inr (by have := Option.some.inj e; omega)⟩
  case pos =>
  subst he
  obtain ⟨A, n, c, hr, hn, hnc, hcm, hn40, hrd⟩ := HS.out.st.row
  have q0 : w5.cell? ⟨br, 0, none⟩ = some (.slice A n c) := hr.cell 0
  have Q0 := Lib.hid q0
  by_cases hsh : b.length < 16
  case pos =>
    have hlt : (n : Int) < 16 := by omega
    have HQ : Hid ((List.replicate 16 0, b, (5 : Int)) = (hd, b', e')) := Lib.hid (by rw [← HDG.out]; unfold Bil.dgs; rw [if_pos rfl, if_pos hsh])
    have f1 : w5.frozen? ⟨br, 1, none⟩ = false := HS.out.st.frozen1
    clear hr hn hnc hcm hn40 hrd hsh
    go_upto_region 4 with fail
    obtain ⟨w6, hw6⟩ : ∃ x, w5.setCell ⟨br, 1, none⟩ (.int .i64 5) = x := ⟨_, rfl⟩
    have HS6 := Lib.hid (HS.out.next (HS.out.st.fail 5) (keep_br w5 br 1 _))
    rw [hw6] at HS6
    try rw [hw6]
    clear hw6 qe q0 f1
    have qe : w6.cell? ⟨br, 1, none⟩ = some (.int .i64 5) := HS6.out.st.cell1
    go_wp2_with fail
    go_loopw [4] (fun u4 wr => u4 = .int .i64 0 ∧ w6 = wr) (fun _ _ => 0)
    case atStart => exact ⟨rfl, rfl⟩
    case round =>
      obtain ⟨rfl, rfl⟩ := hrel
      have r3 := HS6.out.r3
      have r2 := HS6.out.r2
      go_wp2_with (first
        | (refine wpList_loadRow rfl _ (.tmp 3) rfl r3 rfl Tryd.underlying66 sizeDgD ?_)
        | (refine wpList_storeRow rfl _ (.tmp 2) (.tmp 55) rfl (l' := bvs (List.replicate 16 0)) r2 rfl rfl sizeDgD rfl rfl ?_; intro w8 r8 g8 z8))
      have hq := HQ.out
      simp only [Prod.mk.injEq] at hq
      obtain ⟨rfl, rfl, rfl⟩ := hq
      have ho := HS6.out.o
      exact bodyPost_ret (resultRow rfl _ _ r8 rfl Tryd.underlying66 sizeDgD) rfl ⟨rfl, HS6.out.st.keeps (Keep.of_grown g8 (S := fun q => q = b2) fun k e => (Option.some.inj e).symm) (fun q hq e => by omega), HS6.out.k.grown g8 fun k e => .inr (by have := Option.some.inj e; omega)⟩
  case neg =>
  have hlt : ¬ ((n : Int) < 16) := by omega
  have HQ : Hid ((b.take 16, b.drop 16, (0 : Int)) = (hd, b', e')) := Lib.hid (by rw [← HDG.out]; unfold Bil.dgs; rw [if_pos rfl, if_neg hsh])
  obtain ⟨ga, oa, rfl, hga, hca⟩ := hrd.2 (by omega)
  have HB16 : Hid (16 ≤ b.length ∧ b.length = n) := Lib.hid ⟨by omega, hn⟩
  have HC : Hid (∀ i, i < n → w5.cell? ⟨ga, oa + i, none⟩ = some (.int .u8 ((b.getD i 0).toNat : Int))) := Lib.hid (fun i hi => hca i _ (by simp [bvs, List.getElem?_map, List.getD, List.getElem?_eq_getElem (show i < b.length by omega)]))
  have HGA : Hid (ga < br) := Lib.hid hga
  clear hr hnc hcm hn40 hrd hca hga hsh
  go_wp2_with fail
  clear q0 qe
  go_loopw [4] (fun u4 wr => ∃ i : Nat, i ≤ 16 ∧ u4 = .int .i64 (i : Int) ∧ Hid (DgS w wr br b2 b3 b 0 (bvs (b.take i ++ List.replicate (16 - i) 0))) ∧ Hid (Keep (fun q => q = b3) w5 wr)) (fun u4 _ => 16 - (intOf u4).toNat)
  case atStart => exact ⟨0, by omega, rfl, Lib.hid HS.out, Lib.hid (Keep.refl _ _)⟩
  case round =>
    obtain ⟨i, hi, rfl, HW, HK⟩ := hrel
    obtain ⟨A5, n5, c5, hr5, hn5, hnc5, hcm5, hn405, hrd5⟩ := HW.out.st.row
    have qe : wr.cell? ⟨br, 1, none⟩ = some (.int .i64 0) := HW.out.st.cell1
    have hb16 := HB16.out.1
    have hkb := HK.out.block br HS.out.st.lt (by have := HS.out.o; omega)
    have q0 : wr.cell? ⟨br, 0, none⟩ = some (.slice (some ⟨ga, oa, none⟩) n c) := (World.cell?_of_block (a := ⟨br, 0, none⟩) hkb).trans Q0.out
    clear hr5 hn5 hnc5 hcm5 hn405 hrd5 hkb
    by_cases hlt2 : i < 16
    · obtain ⟨x, hx⟩ : ∃ x : Int, ((b.getD i 0).toNat : Int) = x := ⟨_, rfl⟩
      have hcx : wr.cell? ⟨ga, oa + i, none⟩ = some (.int .u8 x) := by
        have h1 := HC.out i (by have := HB16.out; omega)
        rw [hx] at h1
        have ho := HS.out.o
        have hg := HGA.out
        have hl := HS.out.st.lt
        exact (World.cell?_of_block (a := ⟨ga, oa + i, none⟩) (HK.out.block ga (by omega) (by omega))).trans h1
      have i1 : (i : Int) < 16 := by omega
      have i2 : (i : Int) < (n : Int) := by have := HB16.out.2; omega
      have hlen3 : (bvs (b.take i ++ List.replicate (16 - i) 0)).length = 16 := by rw [bvs_len, List.length_append, List.length_take, List.length_replicate]; omega
      obtain ⟨u, hu⟩ : ∃ u, (bvs (b.take i ++ List.replicate (16 - i) 0))[i]? = some u := ⟨_, List.getElem?_eq_getElem (by rw [hlen3]; exact hlt2)⟩
      have k3 : wr.cell? ⟨b3, i, none⟩ = some u := (HW.out.r3.cell i).trans hu
      have f3 : wr.frozen? ⟨b3, i, none⟩ = false := HW.out.r3.frozen i
      have HW2 : Hid (DgS w (wr.setCell ⟨b3, i, none⟩ (.int .u8 x)) br b2 b3 b 0 (bvs (b.take (i + 1) ++ List.replicate (16 - (i + 1)) 0))) := Lib.hid (by rw [← mix_set b i hlt2 hb16 x hx]; exact HW.out.put i _)
      have HK2 : Hid (Keep (fun q => q = b3) w5 (wr.setCell ⟨b3, i, none⟩ (.int .u8 x))) := Lib.hid (HK.out.grown (grown_setCell _ _ _ _) fun k e => .inl (Option.some.inj e).symm)
      clear hx hlen3 hu hb16
      go_wp2_with fail
      go_roundw
      case rel => exact ⟨i + 1, by omega, by go_num, HW2, HK2⟩
      case measure => simp [intOf]; omega
    · obtain rfl : i = 16 := by omega
      obtain ⟨A5, n5, c5, A6, m6, c6, q1, f1, hn6, hcut, hfin⟩ := HW.out.st.slice hb16
      have hA : A5 = some ⟨ga, oa, none⟩ ∧ n5 = n ∧ c5 = c := by
        rw [q0] at q1
        have := Option.some.inj q1
        injection this with h1 h2 h3
        exact ⟨h1.symm, h2.symm, h3.symm⟩
      obtain ⟨rfl, rfl, rfl⟩ := hA
      have HS7 := Lib.hid (HW.out.next (hfin wr (Keep.refl _ _) rfl) (keep_br wr br 0 _))
      have htk : bvs (b.take 16 ++ List.replicate (16 - 16) 0) = bvs (b.take 16) := by simp
      rw [htk] at HS7
      have hcut16 : ∀ V : World, (Instr.sliceAt 58 (.slice (some ⟨ga, oa, none⟩) n5 c5) (some (.int .i64 16)) none none).run Tryd.prog V = .ok (.slice A6 m6 c6) V := hcut
      clear hfin htk hcut q1 hn6
      go_upto_region 10 with fail
      obtain ⟨w7, hw7⟩ : ∃ x, wr.setCell ⟨br, 0, none⟩ (.slice A6 m6 c6) = x := ⟨_, rfl⟩
      rw [hw7] at HS7
      try rw [hw7]
      have r3 := HS7.out.r3
      have r2 := HS7.out.r2
      have hbl : (bvs (b.take 16)).length = 16 := by rw [bvs_len, List.length_take]; omega
      clear hw7
      go_wp2_with (first
        | (refine wpList_loadRow rfl _ (.tmp 3) rfl r3 rfl Tryd.underlying66 (by rw [hbl]; exact sizeDgD) ?_)
        | (refine wpList_storeRow rfl _ (.tmp 2) (.tmp 55) rfl (l' := bvs (b.take 16)) r2 rfl rfl (by rw [hbl]; exact sizeDgD) (by rw [hbl]; rfl) (bvs_all _) ?_; intro w8 r8 g8 z8))
      have hq := HQ.out
      simp only [Prod.mk.injEq] at hq
      obtain ⟨rfl, rfl, rfl⟩ := hq
      have ho := HS7.out.o
      exact bodyPost_ret (resultRow rfl _ _ r8 rfl Tryd.underlying66 (by rw [hbl]; exact sizeDgD)) rfl ⟨rfl, HS7.out.st.keeps (Keep.of_grown g8 (S := fun q => q = b2) fun k e => (Option.some.inj e).symm) (fun q hq e => by omega), HS7.out.k.grown g8 fun k e => .inr (by have := Option.some.inj e; omega)⟩
end Go.Proofs.YtkjomnakolhdcaaDoor
