/- The program's decoder: a chunk. Conditions: at most 2^40 bytes are read; the map holds the units of the chunks before. -/
import Derived.Test.YtcicfneekmbamaaChkSF
namespace Go.Proofs.Ytcicfneekmbamaa
set_option linter.unusedVariables false
set_option linter.unusedSimpArgs false
open Go.RowKit
/-- the map behind a chunk that was read -/
def mpU (M : Chk.Un → Option Value) (S lo : Bool) (u : Chk.Un) (id : Int) : Chk.Un → Option Value := if lo = false ∧ S = true then (fun y => if y = u then some (.int .i64 id) else M y) else M
/-- what chunk gives -/
def ChunkRes (w : World) (rb B m : Nat) (l : List Chk.Ck) (c : Chk.Ck) (s' : Chk.Rdr) (e : Ending) (w' : World) : Prop :=
  ∃ A k, e = .returned (.agg (ckCells c (.slice A c.refs.length k)).toArray) ∧ w'.ownsRow w.heap.size 83 2 (.slice A c.refs.length k) c.refs.length (rfs c.refs) ∧ RdrAt w' 100 rb B s' ∧ Keep (fun q => q = rb ∨ q = m) w w' ∧
    ∃ S : Bool, (s'.e = 0 → c.lost = false → S = true) ∧ ∃ N, MapIs w' m unV (mpU (unM l) S c.lost c.at_ c.id) N
theorem ownB_any {A : Option Addr} {n c i : Nat} (h : (Value.slice A n c).ownBlock = some i) : ∃ g, A = some g ∧ i = g.block := by
  cases A with
  | none => cases h
  | some p => exact ⟨p, rfl, (Option.some.inj h).symm⟩
theorem run_buildR (w : World) (x y : Int) : (Instr.buildSlice 43 1 #[(0, .agg #[.int .i64 x, .int .i64 y])]).run Try.prog w = .ok (.slice (some ⟨w.heap.size, 0, none⟩) 1 1) (w.alloc (.cells #[.int .i64 x, .int .i64 y] 83)) := by kernel_rfl
theorem wp_buildR {o : Oper} {a : Act} {w : World} {K : Act → World → Prop} {Q : Exit → Act → World → Prop} (z : Operand) (ho : o.op = .buildSlice 43 1 #[(0, z)]) (x y : Int) (hx : a.eval z = .agg #[.int .i64 x, .int .i64 y])
    (h : K (a.put o.dst (.slice (some ⟨w.heap.size, 0, none⟩) 1 1)) (w.alloc (.cells #[.int .i64 x, .int .i64 y] 83))) : o.wp Try.prog a w K Q := by
  unfold Oper.wp execOp
  simp only [ho, List.map_toArray, List.map_cons, List.map_nil, hx, Sem.run_bind, Sem.run_pure, run_buildR w x y, Result.andThen_ok]
  exact h
set_option maxRecDepth 100000 in
set_option maxHeartbeats 6400000 in
theorem chunk_any (rb B m : Nat) (s : Chk.Rdr) (hL : s.b.length ≤ 1099511627776) (last : Int) (hl0 : 0 ≤ last) (hl1 : last ≤ 65536) (l : List Chk.Ck) (c : Chk.Ck) (s' : Chk.Rdr) (hx : Chk.decC l last s = (c, s')) (w : World) (h : RdrAt w 100 rb B s) (hm : ∃ N, MapIs w m unV (unM l) N) (hrm : rb ≠ m) (hBm : B ≤ m) :
    Calls Try.prog 62 #[.pointer (some ⟨rb, 0, none⟩), .int .i64 last, .map (some m)] w (ChunkRes w rb B m l c s') := by
  obtain ⟨x1, s1, h1⟩ : ∃ x s1, Chk.num s (last + 1) 65536 = (x, s1) := ⟨_, _, rfl⟩
  obtain ⟨dg, s2, h2⟩ : ∃ x s2, Chk.dgs s1 = (x, s2) := ⟨_, _, rfl⟩
  obtain ⟨x3, s3, h3⟩ : ∃ x s3, Chk.num s2 0 4294967295 = (x, s3) := ⟨_, _, rfl⟩
  obtain ⟨xq, sq, hq⟩ : ∃ x y, Chk.num s3 0 1 = (x, y) := ⟨_, _, rfl⟩
  obtain ⟨u0, su, hu⟩ : ∃ x y, Chk.unit sq = (x, y) := ⟨_, _, rfl⟩
  obtain ⟨lo, u, s4, h4⟩ : ∃ lo u s4, Chk.place l s3 = (lo, u, s4) := ⟨_, _, _, rfl⟩
  obtain ⟨x5, s5, h5⟩ : ∃ x s5, Chk.num s4 1 16 = (x, s5) := ⟨_, _, rfl⟩
  obtain ⟨rs, s6, h6⟩ : ∃ x s6, Chk.refsN x5.toNat [] (-1) s5 = (x, s6) := ⟨_, _, rfl⟩
  have e : Chk.decC l last s = (⟨x1, dg, x3, u, lo, rs⟩, s6) := by unfold Chk.decC; simp only [h1, h2, h3, h4, h5, h6]
  rw [hx] at e
  obtain ⟨rfl, rfl⟩ := Prod.mk.inj e
  have HPL : Hid (lo = (xq == 1) ∧ (lo = true → u = Chk.z ∧ s4 = sq) ∧ (lo = false → u = u0 ∧ s4 = failS su (!(Chk.unitAt l u0).isSome) 6)) := Lib.hid (by
    have h4' := h4
    unfold Chk.place at h4'
    simp only [hq, hu] at h4'
    by_cases hxq : xq = 1
    · rw [if_pos hxq] at h4'
      injection h4' with e1 e2
      injection e2 with e2 e3
      subst e1 e2 e3
      exact ⟨by simp [hxq], fun _ => ⟨rfl, rfl⟩, fun h => by cases h⟩
    · rw [if_neg hxq] at h4'
      injection h4' with e1 e2
      injection e2 with e2 e3
      subst e1 e2
      refine ⟨by simp [hxq], (fun h => by cases h), fun _ => ⟨rfl, ?_⟩⟩
      rw [← e3]
      unfold failS
      cases hs : (Chk.unitAt l u0).isSome <;> simp)
  have l1 := num_len h1
  have l2 := dgs_len h2
  have l3 := num_len h3
  have lq := num_len hq
  have lu := unit_len hu
  have HDG := Lib.hid (dgs_16 h2)
  have r3 := num_range h3
  have r5 := num_range h5
  have hL4 : s4.b.length ≤ 1099511627776 := by
    cases hlo : lo with
    | true => rw [(HPL.out.2.1 hlo).2]; omega
    | false => rw [(HPL.out.2.2 hlo).2]; unfold failS; split <;> (try dsimp only) <;> omega
  have l5 := num_len h5
  have N1 := Lib.hid (fun W h => number_any rb B s (last + 1) 65536 hL x1 s1 h1 W h)
  have N2 := Lib.hid (fun W h => digestP_any rb B s1 (by omega) dg s2 h2 W h)
  have N3 := Lib.hid (fun W h => number_any rb B s2 0 4294967295 (by omega) x3 s3 h3 W h)
  have NQ := Lib.hid (fun W h => number_any rb B s3 0 1 (by omega) xq sq hq W h)
  have NU := Lib.hid (fun W h => unit_any rb B sq (by omega) u0 su hu W h)
  have N5 := Lib.hid (fun W h => number_any rb B s4 1 16 hL4 x5 s5 h5 W h)
  have HL5 : Hid (s5.b.length ≤ 1099511627776) := Lib.hid (by omega)
  have HX5 : Hid (0 ≤ x5 ∧ x5 ≤ 16) := Lib.hid (by omega)
  have HRF := Lib.hid h6
  have HX3 : Hid (IntKind.u32.wrap x3 = x3) := Lib.hid (by
    exact IntWalk.u32_in _ (by omega))
  have H := Lib.hid h
  have HM := Lib.hid hm
  have hBr : B ≤ rb := by obtain ⟨_, _, _, _, _, _, _, _, hB⟩ := h; exact hB
  have HO0 : Hid (rb ≠ m ∧ rb < w.heap.size ∧ m < w.heap.size ∧ B ≤ rb ∧ B ≤ m) := Lib.hid ⟨hrm, h.lt, hm.elim fun _ h => h.lt, hBr, hBm⟩
  have HEE : Hid (s'.e = 0 → s4.e = 0) := Lib.hid (fun he => Classical.byContradiction fun h => by
    rw [Chk.num_err h] at h5
    have e5 := (Prod.mk.inj h5).2
    have := Chk.refsN_err x5.toNat [] (-1) (s := s5) (by rw [← e5]; exact h)
    rw [h6] at this
    have e6 : s' = s5 := this
    rw [e6, ← e5] at he
    exact h he)
  have HBT := Lib.hid (built_ck0 x1 dg HDG.out)
  have el : IntKind.i64.wrap (last + 1) = last + 1 := IntWalk.i64_in _ (by omega)
  clear h hm hrm hBm hx e h1 h2 h3 hq hu h4 h5 h6 l1 l2 l3 lq lu l5 hL hL4 r3 r5 hBr
  go_enter Try.func62, Try.ntmps62
  go_upto_region 1 with (refine wpList_allocRow rfl _ rfl _ infoCk' ?_; intro w1 rz1 b1 z1)
  have HZ1 := Lib.hid (show IsRow w1 w.heap.size 45 zCk from rz1)
  have HB1 := Lib.hid b1
  have H1 := Lib.hid (H.out.below b1)
  clear rz1 b1 z1
  obtain ⟨cs1, hc1⟩ : ∃ y, ckCells ⟨x1, dg, 0, Chk.z, false, []⟩ (.slice none 0 0) = y := ⟨_, rfl⟩
  rw [hc1] at HBT
  have HC1 := Lib.hid hc1
  have HL1 : Hid (cs1.length = 23 ∧ ∀ v ∈ cs1, v.oneCell' = true) := Lib.hid ⟨by rw [← hc1]; exact ckCells_len HDG.out _, by rw [← hc1]; exact ckCells_one _ _ rfl⟩
  clear hc1
  go_upto_region 2 with (first
    | (refine wpList_storeRow rfl _ (.tmp 7) (.tmp 17) rfl (l' := cs1) rz4 rfl rfl (by rw [HL1.out.1]; exact sizeCk) (by rw [HL1.out.1]; rfl) (List.all_eq_true.2 HL1.out.2) ?_; intro w5 rz5 g5 z5)
    | (refine wpList_buildTo rfl 45 _ rfl (some 17) rfl cs1.toArray (by simpa [Act.eval] using HBT.out) ?_)
    | (refine wpList_allocRow rfl _ rfl _ infoCk' ?_; intro w4 rz4 b4 z4)
    | (go_at_call 86; refine (N2.out w2 H2.out).mono ?_; rintro e' w3 ⟨rfl, hs3, hk3⟩; have HS3 := Lib.hid (And.intro hs3 (HK2.out.trans hk3)); clear hs3 hk3)
    | (go_at_call 61; refine (N1.out w1 H1.out).mono ?_; rintro e' w2 ⟨rfl, hs2, hk2⟩; have H2 := Lib.hid hs2; have HK2 := Lib.hid hk2; clear hs2 hk2))
  obtain ⟨br, hbr⟩ : ∃ y, w.heap.size = y := ⟨_, rfl⟩
  obtain ⟨bc, hbc⟩ : ∃ y, w3.heap.size = y := ⟨_, rfl⟩
  have hb35 : Below w3.heap.size w3 w5 := b4.grown g5 b4.size (fun i hi => by have := Option.some.inj hi; omega)
  have hst : PSt w rb B m bc br cs1 s2 (unM l) w5 := by
    obtain ⟨o1, o2, o3, o4, o5⟩ := HO0.out
    have hlt1 := HZ1.out.lt
    have hs13 := HS3.out.2.size
    have hz3 := HZ1.out.keep (HS3.out.2.block w.heap.size HZ1.out.lt (by omega))
    obtain ⟨N, hN⟩ := HM.out
    rw [hbr] at hz3
    rw [hbc] at rz5
    exact ⟨rz5, hz3.below' hb35, HS3.out.1.below hb35, ⟨N, ((hN.below HB1.out hN.lt).keep HS3.out.2 (fun e => o1 e.symm)).below hb35 (by have := hN.lt; have := HB1.out.size; omega)⟩, (((Keep.of_below HB1.out).trans (HS3.out.2.mono fun _ _ e => .inl e)).trans (Keep.of_below hb35)), o1, o2, o3, by omega, by omega, o4, o5⟩
  try rw [hbr]
  try rw [hbc]
  have HP5 := Lib.hid hst
  have HBR : Hid (w.heap.size = br) := Lib.hid hbr
  clear hst hb35 rz5 g5 z5 rz4 b4 z4 hbr hbc HZ1 HB1 H1 H2 HK2 HS3
  have ew := HX3.out
  have HK17 : Hid (cs1[17]? = some (.int .u32 0)) := Lib.hid (by rw [← HC1.out]; exact (ckCells_at _ _ HDG.out).2.1)
  go_upto_region 3 with (go_at_call 61; refine (N3.out w5 HP5.out.rd).mono ?_; rintro e' w6 ⟨rfl, hs6, hk6⟩; have HP6 := Lib.hid (HP5.out.read hs6 hk6); have k17 : w6.cell? ⟨bc, 17, none⟩ = some (.int .u32 0) := (HP6.out.row.cell 17).trans HK17.out; have f17 := HP6.out.row.frozen 17; clear hs6 hk6)
  have HP7 := Lib.hid (HP6.out.put 17 (.int .u32 x3))
  have HC7 : Hid (cs1.set 17 (.int .u32 x3) = ckCells ⟨x1, dg, x3, Chk.z, false, []⟩ (.slice none 0 0)) := Lib.hid (by rw [← HC1.out, ckCells_pr _ _ HDG.out])
  obtain ⟨w7, hw7⟩ : ∃ y, w6.setCell ⟨bc, 17, none⟩ (.int .u32 x3) = y := ⟨_, rfl⟩
  rw [hw7, HC7.out] at HP7
  try rw [hw7]
  clear hw7 k17 f17 ew HP5 HP6 HC7 HC1 HL1
  have hqb : (xq == 1) = lo := HPL.out.1.symm
  have HK21 : Hid (∀ (v : Value) (b : Bool), (ckCells ⟨x1, dg, x3, Chk.z, b, []⟩ v)[21]? = some (.bool b)) := Lib.hid (fun v b => (ckCells_at _ _ HDG.out).2.2.2.2.2.1)
  go_upto_region 4 with (go_at_call 61; refine (NQ.out w7 HP7.out.rd).mono ?_; rintro e' w8 ⟨rfl, hs8, hk8⟩; have HP8 := Lib.hid (HP7.out.read hs8 hk8); have k21 : w8.cell? ⟨bc, 21, none⟩ = some (.bool false) := (HP8.out.row.cell 21).trans (HK21.out _ _); have f21 := HP8.out.row.frozen 21; clear hs8 hk8)
  have HP9 := Lib.hid (HP8.out.put 21 (.bool lo))
  have HC9 : Hid ((ckCells ⟨x1, dg, x3, Chk.z, false, []⟩ (.slice none 0 0)).set 21 (.bool lo) = ckCells ⟨x1, dg, x3, Chk.z, lo, []⟩ (.slice none 0 0)) := Lib.hid (ckCells_put _ _ HDG.out Chk.z lo).2.2.2
  obtain ⟨w9, hw9⟩ : ∃ y, w8.setCell ⟨bc, 21, none⟩ (.bool lo) = y := ⟨_, rfl⟩
  rw [hw9, HC9.out] at HP9
  try rw [hw9]
  clear hw9 k21 f21 hqb HP7 HP8 HC9
  have k21 : w9.cell? ⟨bc, 21, none⟩ = some (.bool lo) := (HP9.out.row.cell 21).trans (HK21.out _ _)
  go_upto_if 28 with fail
  clear k21
  go_cut [8, 9] from 29 to 47 (fun u8 u9 wx => ∃ (wv : World) (S : Bool), wv = wx ∧ Hid (PSt w rb B m bc br (ckCells ⟨x1, dg, x3, u, lo, []⟩ (.slice none 0 0)) s4 (mpU (unM l) S lo u x1) wv) ∧ Hid (s4.e = 0 → lo = false → S = true))
  case first =>
    cases lo with
    | true =>
      go_wp2_with fail
      go_meet
      obtain ⟨hu, h4⟩ : u = Chk.z ∧ s4 = sq := by have := HPL.out.2.1; first | exact this rfl | exact this trivial
      refine ⟨_, true, rfl, Lib.hid ?_, Lib.hid (fun _ h => by cases h)⟩
      rw [hu, h4]
      exact HP9.out
    | false =>
      obtain ⟨hu, h4⟩ : u = u0 ∧ s4 = failS su (!(Chk.unitAt l u0).isSome) 6 := by have := HPL.out.2.2; first | exact this rfl | exact this trivial
      subst hu
      have hat := ckCells_at ⟨x1, dg, x3, Chk.z, false, []⟩ (.slice none 0 0) HDG.out
      have HAT := Lib.hid hat
      have HAT2 := Lib.hid (ckCells_at ⟨x1, dg, x3, u, false, []⟩ (.slice none 0 0) HDG.out)
      have HH4 := Lib.hid h4
      have HUV : Hid (unV u = .agg #[.int .i64 u.r, .int .i64 u.g, .int .i64 u.u]) := Lib.hid rfl
      have HRA : Hid (((((ckCells ⟨x1, dg, x3, Chk.z, false, []⟩ (.slice none 0 0)).set 18 (.int .i64 u.r)).set 19 (.int .i64 u.g)).set 20 (.int .i64 u.u)) = ckCells ⟨x1, dg, x3, u, false, []⟩ (.slice none 0 0)) := Lib.hid (by
        rw [(ckCells_put _ _ HDG.out u false).1, (ckCells_put _ _ HDG.out u false).2.1, (ckCells_put _ _ HDG.out u false).2.2.1])
      clear hat h4
      rw [HUV.out] at NU
      go_upto_region 6 with (go_at_call 87; refine (NU.out w9 HP9.out.rd).mono ?_; rintro e' w10 ⟨rfl, hs10, hk10⟩; have HP10 := Lib.hid (HP9.out.read hs10 hk10); clear hs10 hk10; have k18 : w10.cell? ⟨bc, 18, none⟩ = some (.int .i64 0) := (HP10.out.row.cell 18).trans HAT.out.2.2.1; have k19 : w10.cell? ⟨bc, 19, none⟩ = some (.int .i64 0) := (HP10.out.row.cell 19).trans HAT.out.2.2.2.1; have k20 : w10.cell? ⟨bc, 20, none⟩ = some (.int .i64 0) := (HP10.out.row.cell 20).trans HAT.out.2.2.2.2.1; have f18 := HP10.out.row.frozen 18; have f19 := HP10.out.row.frozen 19; have f20 := HP10.out.row.frozen 20)
      have HP11 := Lib.hid (((HP10.out.put 18 (.int .i64 u.r)).put 19 (.int .i64 u.g)).put 20 (.int .i64 u.u))
      obtain ⟨w11, hw11⟩ : ∃ y, (((w10.setCell ⟨bc, 18, none⟩ (.int .i64 u.r)).setCell ⟨bc, 19, none⟩ (.int .i64 u.g)).setCell ⟨bc, 20, none⟩ (.int .i64 u.u)) = y := ⟨_, rfl⟩
      rw [hw11, HRA.out] at HP11
      try rw [hw11]
      clear hw11 k18 k19 k20 f18 f19 f20 HP10 HP9
      obtain ⟨q, hq⟩ : ∃ q, (Chk.unitAt l u).isSome = q := ⟨_, rfl⟩
      obtain ⟨v, hv⟩ : ∃ q, (Chk.unitAt l u).getD 0 = q := ⟨_, rfl⟩
      have hlk : (Instr.lookup 88 (.map (some m)) (unV u) true).run Try.prog w11 = .ok (.tuple #[.int .i64 v, .bool q]) w11 := by
        obtain ⟨N, hN⟩ := HP11.out.mp
        have := hN.look keyT_un Try.underlying88 (zeroInt w11) u true
        rw [this, ← hv, ← hq]
        unfold unM
        cases Chk.unitAt l u <;> rfl
      rw [HUV.out] at hlk
      rw [hq] at HH4
      obtain ⟨S, hS⟩ : ∃ S, ((failS su (!q) 6).e == 0) = S := ⟨_, rfl⟩
      have HF := Lib.hid (fail_any rb B su (!q) 6 S hS w11 HP11.out.rd)
      have HSS := Lib.hid hS
      rw [← HH4.out] at HF HSS
      have k0 : w11.cell? ⟨bc, 0, none⟩ = some (.int .i64 x1) := (HP11.out.row.cell 0).trans HAT2.out.1
      have k18 : w11.cell? ⟨bc, 18, none⟩ = some (.int .i64 u.r) := (HP11.out.row.cell 18).trans HAT2.out.2.2.1
      have k19 : w11.cell? ⟨bc, 19, none⟩ = some (.int .i64 u.g) := (HP11.out.row.cell 19).trans HAT2.out.2.2.2.1
      have k20 : w11.cell? ⟨bc, 20, none⟩ = some (.int .i64 u.u) := (HP11.out.row.cell 20).trans HAT2.out.2.2.2.2.1
      clear hq hv hS
      go_upto_region 7 with fail
      clear hlk k0 k18 k19 k20
      cases S with
      | false =>
        go_wp2_with (go_at_call 63; refine HF.out.mono ?_; rintro e' w12 ⟨rfl, hs12, hk12⟩; have HP12 := Lib.hid (HP11.out.read hs12 hk12); clear hs12 hk12)
        go_meet
        refine ⟨_, false, rfl, Lib.hid ?_, Lib.hid (fun h _ => by have := HSS.out; rw [h] at this; exact absurd this (by decide))⟩
        exact HP12.out
      | true =>
        go_upto_region 8 with (go_at_call 63; refine HF.out.mono ?_; rintro e' w12 ⟨rfl, hs12, hk12⟩; have HP12 := Lib.hid (HP11.out.read hs12 hk12); clear hs12 hk12)
        obtain ⟨N, hN⟩ := HP12.out.mp
        have k0 : w12.cell? ⟨bc, 0, none⟩ = some (.int .i64 x1) := (HP12.out.row.cell 0).trans HAT2.out.1
        have k18 : w12.cell? ⟨bc, 18, none⟩ = some (.int .i64 u.r) := (HP12.out.row.cell 18).trans HAT2.out.2.2.1
        have k19 : w12.cell? ⟨bc, 19, none⟩ = some (.int .i64 u.g) := (HP12.out.row.cell 19).trans HAT2.out.2.2.2.1
        have k20 : w12.cell? ⟨bc, 20, none⟩ = some (.int .i64 u.u) := (HP12.out.row.cell 20).trans HAT2.out.2.2.2.2.1
        go_wp2_with (at_mapUpdate; refine wpList_store rfl (.tmp 43) (.tmp 45) (.tmp 47) 88 rfl keyT_un Try.underlying88 hN rfl u rfl (.int .i64 x1) rfl ?_; intro w13 hm13 ht13)
        go_meet
        exact ⟨_, true, rfl, Lib.hid (HP12.out.turn hm13 ht13), Lib.hid (fun _ _ => rfl)⟩
  case rest =>
    obtain ⟨w14, S, rfl, HP14, HS14⟩ := hcut
    clear HPL NU NQ N3 N2 N1 HP9
    obtain ⟨n, rfl⟩ : ∃ n : Nat, x5 = (n : Int) := ⟨x5.toNat, by have := HX5.out.1; omega⟩
    have hn16 : n ≤ 16 := by have := HX5.out.2; omega
    have hrf := HRF.out
    rw [Int.toNat_natCast] at hrf
    have HRF1 := Lib.hid hrf
    clear hrf HRF HX5
    go_upto_region 11 with (go_at_call 61; refine (N5.out w14 HP14.out.rd).mono ?_; rintro e' w15 ⟨rfl, hs15, hk15⟩; have HP15 := Lib.hid (HP14.out.read hs15 hk15); clear hs15 hk15)
    have HMOST : Hid (Chk.most = 2147483647) := Lib.hid rfl
    go_loopw [10, 50] (fun u10 u50 wx => ∃ (wr : World) (j : Nat) (acc : List Chk.Rf) (t : Int) (sj : Chk.Rdr) (A : Option Addr) (k : Nat), wr = wx ∧ j ≤ n ∧ u50 = .int .i64 (j : Int) ∧ u10 = .int .i64 t ∧ Hid (-1 ≤ t ∧ t ≤ 15) ∧ Hid (acc.length = j ∧ (∀ r ∈ acc, 0 ≤ r.n) ∧ Chk.total acc ≤ Chk.most) ∧ Hid (sj.b.length ≤ 1099511627776) ∧ Hid (Chk.refsN (n - j) acc t sj = (rs, s')) ∧ Hid (PSt w rb B m bc br (ckCells ⟨x1, dg, x3, u, lo, []⟩ (.slice A j k)) sj (mpU (unM l) S lo u x1) wr) ∧ Hid (wr.ownsRow (bc + 1) 83 2 (.slice A j k) j (rfs acc))) (fun _ u50 _ => n - (intOf u50).toNat)
    case atStart => exact ⟨_, 0, [], -1, s5, none, 0, rfl, Nat.zero_le _, rfl, rfl, Lib.hid ⟨by omega, by omega⟩, Lib.hid ⟨rfl, by simp, by simp [Chk.total, Chk.most]⟩, HL5, Lib.hid HRF1.out, HP15, Lib.hid (World.ownsRow_nil _ _ _ _)⟩
    case round =>
      obtain ⟨wr, j, acc, t, sj, A, k, rfl, hj, rfl, rfl, HT, HA, HLJ, HRJ, HPJ, HOJ⟩ := hrel
      by_cases hlt : j < n
      · obtain ⟨x, sa, hxa⟩ : ∃ x y, Chk.num sj (t + 1) 15 = (x, y) := ⟨_, _, rfl⟩
        obtain ⟨T, hT⟩ : ∃ T, Chk.total acc = T := ⟨_, rfl⟩
        obtain ⟨y, sb, hyb⟩ : ∃ x y, Chk.num sa 1 (2147483647 - T) = (x, y) := ⟨_, _, rfl⟩
        have hT0 : 0 ≤ T := by rw [← hT]; exact Chk.total_nonneg0 HA.out.2.1
        have hT1 : T ≤ 2147483647 := by rw [← hT]; exact HA.out.2.2
        have ha := num_len hxa
        have hb := num_len hyb
        have hra := num_range hxa
        have hrb := num_range hyb
        have HRJ2 : Hid (Chk.refsN (n - (j + 1)) (acc ++ [⟨x, y⟩]) x sb = (rs, s')) := Lib.hid (by
          have h0 := HRJ.out
          rw [show n - j = (n - (j + 1)) + 1 by omega] at h0
          have h1 : Chk.refsN (n - (j + 1) + 1) acc t sj = Chk.refsN (n - (j + 1)) (acc ++ [⟨(Chk.num sj (t + 1) 15).1, (Chk.num (Chk.num sj (t + 1) 15).2 1 (Chk.most - Chk.total acc)).1⟩]) (Chk.num sj (t + 1) 15).1 (Chk.num (Chk.num sj (t + 1) 15).2 1 (Chk.most - Chk.total acc)).2 := rfl
          rw [h1, hxa, hT] at h0
          simp only [show Chk.most = 2147483647 from rfl, hyb] at h0
          exact h0)
        have HA2 : Hid ((acc ++ [(⟨x, y⟩ : Chk.Rf)]).length = j + 1 ∧ (∀ r ∈ acc ++ [(⟨x, y⟩ : Chk.Rf)], 0 ≤ r.n) ∧ Chk.total (acc ++ [(⟨x, y⟩ : Chk.Rf)]) ≤ Chk.most) := Lib.hid ⟨by rw [List.length_append, HA.out.1]; rfl, fun r hr => (by
          rcases List.mem_append.1 hr with hr | hr
          · exact HA.out.2.1 r hr
          · rw [List.mem_singleton] at hr; subst hr; show 0 ≤ y; omega), by rw [Chk.total_app, hT]; show T + (y + 0) ≤ 2147483647; omega⟩
        have HT2 : Hid (-1 ≤ x ∧ x ≤ 15) := Lib.hid (by have := HT.out; omega)
        have HLB : Hid (sb.b.length ≤ 1099511627776) := Lib.hid (by have := HLJ.out; omega)
        have NA := Lib.hid (fun W h => number_any rb B sj (t + 1) 15 HLJ.out x sa hxa W h)
        have NB := Lib.hid (fun W h => number_any rb B sa 1 (2147483647 - T) (by have := HLJ.out; omega) y sb hyb W h)
        have HTO := Lib.hid (fun W h1 h2 => total0_any A j k acc HA.out.1 (by omega) HA.out.2.1 HA.out.2.2 W.heap.size W h1 h2)
        rw [hT] at HTO
        have HRS : Hid (rfs acc ++ [.int .i64 x, .int .i64 y] = rfs (acc ++ [⟨x, y⟩])) := Lib.hid (by unfold rfs; simp [rfCells])
        have HON := Lib.hid (fun (v v' : Value) => show (ckCells ⟨x1, dg, x3, u, lo, []⟩ v).set 22 v' = ckCells ⟨x1, dg, x3, u, lo, []⟩ v' from ckCells_set _ v v' HDG.out)
        have et : IntKind.i64.wrap (t + 1) = t + 1 := IntWalk.i64_in _ (by have := HT.out; omega)
        have HEW : Hid (IntKind.i64.wrap (2147483647 - T) = 2147483647 - T) := Lib.hid (IntWalk.i64_in _ (by omega))
        have e2 : (j : Int) < (n : Int) := by omega
        have HK22 := Lib.hid ((ckCells_at ⟨x1, dg, x3, u, lo, []⟩ (.slice A j k) HDG.out).2.2.2.2.2.2)
        clear hxa hT hyb hT0 hT1 ha hb hra hrb
        go_upto_region 13 with (go_at_call 61; refine (NA.out wr HPJ.out.rd).mono ?_; rintro e' w16 ⟨rfl, hs16, hk16⟩; have HP16 := Lib.hid (HPJ.out.read hs16 hk16); have HK16 := Lib.hid hk16; clear hs16 hk16)
        have HO16 : Hid (w16.ownsRow (bc + 1) 83 2 (.slice A j k) j (rfs acc)) := Lib.hid (own_keepS HOJ.out HK16.out (fun g hg => by subst hg; have := HP16.out.o; omega))
        have HABL : Hid (∀ p, A = some p → bc < p.block) := Lib.hid (fun p hp => by
          rcases HO16.out.2 with h0 | ⟨g, cap, cur, hv, hg, _⟩
          · injection h0.1 with h1; rw [hp] at h1; cases h1
          · injection hv with h1; rw [hp] at h1; rw [Option.some.inj h1]; exact hg)
        clear et HPJ HOJ HK16 el
        have hv0 : Keep (fun q => q = rb ∨ ∃ p, A = some p ∧ q = p.block) w16 w16.drew := Keep.of_below (Below.refl _ _).drew
        refine wp_region_late (fun W => Keep (fun q => q = rb ∨ ∃ p, A = some p ∧ q = p.block) w16 W) [13] (by kernel_rfl) (hv0) (fun hHeld => ?_)
        refine wpAnyL_take (i := 0) (oi := { dst := some 56, op := Op.fieldAddr 45 (Operand.tmp 7) 5, type := 0, pos := "code.go:89", after := #[], guard := none }) (v := ?v0_1) rfl (by kernel_rfl) (by kernel_rfl) (by kernel_rfl) (by kernel_rfl) (fun _ _ _ h => h) (Or.inl ⟨by rfl, ?h0_1⟩) (by assumption) ?r0_1
        case h0_1 =>
          intro W hSW
          try dsimp only at hSW
          go_simp
          try with_reducible rfl
        try simp only [Act.put, List.setIfInBounds_toArray, List.set_cons_zero, List.set_cons_succ]
        refine wpAnyL_take (i := 1) (oi := { dst := some 57, op := Op.load 43 (Operand.tmp 56), type := 43, pos := "code.go:89", after := #[{ on := 0, ground := Ground.data }], guard := none }) (v := ?v1_2) rfl (by kernel_rfl) (by kernel_rfl) (by kernel_rfl) (by kernel_rfl) (fun _ _ _ h => h) (Or.inl ⟨by rfl, ?h1_2⟩) (by assumption) ?r1_2
        case h1_2 =>
          intro W hSW
          try dsimp only at hSW
          have k22 := (hSW.cell (p := ⟨bc, 22, none⟩) HP16.out.row.lt (fun e => by have ho := HP16.out.o; rcases e with e | ⟨p, hp, e⟩; (dsimp only at e; omega); (have := HABL.out p hp; dsimp only at e; omega))).trans ((HP16.out.row.cell 22).trans HK22.out)
          go_simp
          try with_reducible rfl
        try simp only [Act.put, List.setIfInBounds_toArray, List.set_cons_zero, List.set_cons_succ]
        refine wpAnyL_take (i := 2) (oi := { dst := some 58, op := Op.move (Operand.tmp 10), type := 3, pos := "code.go:89", after := #[], guard := none }) (v := ?v2_3) rfl (by kernel_rfl) (by kernel_rfl) (by kernel_rfl) (by kernel_rfl) (fun _ _ _ h => h) (Or.inl ⟨by rfl, ?h2_3⟩) (by assumption) ?r2_3
        case h2_3 =>
          intro W hSW
          try dsimp only at hSW
          go_simp
          try with_reducible rfl
        try simp only [Act.put, List.setIfInBounds_toArray, List.set_cons_zero, List.set_cons_succ]
        refine wpAnyL_take (i := 3) (oi := { dst := some 59, op := Op.move (Operand.tmp 0), type := 98, pos := "code.go:89", after := #[], guard := none }) (v := ?v3_4) rfl (by kernel_rfl) (by kernel_rfl) (by kernel_rfl) (by kernel_rfl) (fun _ _ _ h => h) (Or.inl ⟨by rfl, ?h3_4⟩) (by assumption) ?r3_4
        case h3_4 =>
          intro W hSW
          try dsimp only at hSW
          go_simp
          try with_reducible rfl
        try simp only [Act.put, List.setIfInBounds_toArray, List.set_cons_zero, List.set_cons_succ]
        refine wpAnyL_take (i := 4) (oi := { dst := some 60, op := Op.fieldAddr 45 (Operand.tmp 7) 5, type := 0, pos := "code.go:89", after := #[], guard := none }) (v := ?v4_5) rfl (by kernel_rfl) (by kernel_rfl) (by kernel_rfl) (by kernel_rfl) (fun _ _ _ h => h) (Or.inl ⟨by rfl, ?h4_5⟩) (by assumption) ?r4_5
        case h4_5 =>
          intro W hSW
          try dsimp only at hSW
          go_simp
          try with_reducible rfl
        try simp only [Act.put, List.setIfInBounds_toArray, List.set_cons_zero, List.set_cons_succ]
        refine wpAnyL_take (i := 5) (oi := { dst := some 61, op := Op.load 43 (Operand.tmp 60), type := 43, pos := "code.go:89", after := #[{ on := 4, ground := Ground.data }], guard := none }) (v := ?v5_6) rfl (by kernel_rfl) (by kernel_rfl) (by kernel_rfl) (by kernel_rfl) (fun _ _ _ h => h) (Or.inl ⟨by rfl, ?h5_6⟩) (by assumption) ?r5_6
        case h5_6 =>
          intro W hSW
          try dsimp only at hSW
          have k22 := (hSW.cell (p := ⟨bc, 22, none⟩) HP16.out.row.lt (fun e => by have ho := HP16.out.o; rcases e with e | ⟨p, hp, e⟩; (dsimp only at e; omega); (have := HABL.out p hp; dsimp only at e; omega))).trans ((HP16.out.row.cell 22).trans HK22.out)
          go_simp
          try with_reducible rfl
        try simp only [Act.put, List.setIfInBounds_toArray, List.set_cons_zero, List.set_cons_succ]
        refine wpAnyL_ready (rs := [6]) (by kernel_rfl) (by simp) ?_
        refine AllReadyL.cons (o := { dst := some 62, op := Op.call { callee := Callee.value (Operand.func 73), args := #[Operand.tmp 61], argTypes := #[43] }, type := 3, pos := "code.go:89", after := #[{ on := 5, ground := Ground.data }], guard := none }) rfl (fun K hK => ?_) AllReadyL.nil
        go_simp
        have hp0 := HP16.out.below (Below.refl w16.heap.size w16).drew
        have ho0 : w16.drew.ownsRow (bc + 1) 83 2 (.slice A j k) j (rfs acc) := own_below HO16.out (Below.refl w16.heap.size w16).drew
        refine (HTO.out w16.drew (Rd.of_own ho0) (Nat.le_refl _)).mono ?_
        rintro e w60 ⟨rfl, b60⟩
        have hv60 : Keep (fun q => q = rb ∨ ∃ p, A = some p ∧ q = p.block) w16 w60 := (hv0).trans (Keep.of_below b60)
        have HPa := Lib.hid (hp0.below b60)
        have HOa := Lib.hid (own_below ho0 b60)
        clear hp0 ho0 b60
        refine hK.out _ _ (hv60) (fun hHeld => ?_)
        clear hK K
        try simp only [Act.put, List.setIfInBounds_toArray, List.set_cons_zero, List.set_cons_succ]
        refine wpAnyL_take (i := 7) (oi := { dst := some 63, op := Op.binOp BinOp.sub 3 (Operand.const (Value.int IntKind.i64 2147483647)) (Operand.tmp 62) 3, type := 3, pos := "code.go:89", after := #[{ on := 6, ground := Ground.data }], guard := none }) (v := ?v7_7) rfl (by kernel_rfl) (by kernel_rfl) (by kernel_rfl) (by kernel_rfl) (fun _ _ _ h => h) (Or.inl ⟨by rfl, ?h7_7⟩) (by assumption) ?r7_7
        case h7_7 =>
          intro W hSW
          try dsimp only at hSW
          have ew7 := HEW.out
          go_simp
          try with_reducible rfl
        try simp only [Act.put, List.setIfInBounds_toArray, List.set_cons_zero, List.set_cons_succ]
        refine wpAnyL_ready (rs := [8]) (by kernel_rfl) (by simp) ?_
        refine AllReadyL.cons (o := { dst := some 64, op := Op.call { callee := Callee.value (Operand.func 61), args := #[Operand.tmp 59, Operand.const (Value.int IntKind.i64 1), Operand.tmp 63], argTypes := #[98, 3, 3] }, type := 3, pos := "code.go:89", after := #[{ on := 3, ground := Ground.data }, { on := 7, ground := Ground.data }, { on := 6, ground := Ground.chain }], guard := none }) rfl (fun K hK => ?_) AllReadyL.nil
        go_simp
        refine (NB.out w60 HPa.out.rd).mono ?_
        rintro e w61 ⟨rfl, hs61, hk61⟩
        have hv61 : Keep (fun q => q = rb ∨ ∃ p, A = some p ∧ q = p.block) w16 w61 := (hv60).trans (hk61.mono fun _ _ e => .inl e)
        have HPb := Lib.hid (HPa.out.read hs61 hk61)
        have HOb : Hid (w61.ownsRow (bc + 1) 83 2 (.slice A j k) j (rfs acc)) := Lib.hid (own_keepS HOa.out hk61 (fun g hg => by subst hg; have := HPa.out.o; omega))
        clear hs61 hk61
        refine hK.out _ _ (hv61) (fun hHeld => ?_)
        clear hK K
        try simp only [Act.put, List.setIfInBounds_toArray, List.set_cons_zero, List.set_cons_succ]
        refine wpAnyL_take (i := 9) (oi := { dst := some 65, op := Op.build 83 #[(0, Operand.tmp 58), (1, Operand.tmp 64)], type := 83, pos := "code.go:89", after := #[{ on := 2, ground := Ground.data }, { on := 8, ground := Ground.data }], guard := none }) (v := ?v9_8) rfl (by kernel_rfl) (by kernel_rfl) (by kernel_rfl) (by kernel_rfl) (fun _ _ _ h => h) (Or.inl ⟨by rfl, ?h9_8⟩) (by assumption) ?r9_8
        case h9_8 =>
          intro W hSW
          try dsimp only at hSW
          go_simp
          try with_reducible rfl
        try simp only [Act.put, List.setIfInBounds_toArray, List.set_cons_zero, List.set_cons_succ]
        refine wpAnyL_ready (rs := [10]) (by kernel_rfl) (by simp) ?_
        refine AllReadyL.cons (o := { dst := some 66, op := Op.buildSlice 43 1 #[(0, Operand.tmp 65)], type := 43, pos := "code.go:89", after := #[{ on := 9, ground := Ground.data }], guard := none }) rfl (fun K hK => ?_) AllReadyL.nil
        rw [if_pos (by rfl)]
        refine wp_buildR (.tmp 65) rfl x y rfl ?_
        obtain ⟨vb, hvb⟩ : ∃ q, w61.heap.size = q := ⟨_, rfl⟩
        have rv := IsRow.new w61 83 [.int .i64 x, .int .i64 y]
        have hbw : Below w61.heap.size w61 (w61.alloc (.cells [.int .i64 x, .int .i64 y].toArray 83)) := (Below.refl _ _).alloc (Nat.le_refl _) _
        obtain ⟨w62, hw62⟩ : ∃ q, w61.alloc (.cells [.int .i64 x, .int .i64 y].toArray 83) = q := ⟨_, rfl⟩
        rw [hw62, hvb] at rv
        rw [hw62] at hbw
        rw [show w61.alloc (.cells #[.int .i64 x, .int .i64 y] 83) = w62 from hw62, hvb]
        have hv62 : Keep (fun q => q = rb ∨ ∃ p, A = some p ∧ q = p.block) w16 w62 := (hv61).trans (Keep.of_below hbw)
        have HPc := Lib.hid (HPb.out.below hbw)
        have HOc := Lib.hid (own_below HOb.out hbw)
        have HRV := Lib.hid rv
        clear hw62 hvb hbw rv
        refine hK.out _ _ (hv62) (fun hHeld => ?_)
        clear hK K
        try simp only [Act.put, List.setIfInBounds_toArray, List.set_cons_zero, List.set_cons_succ]
        refine wpAnyL_ready (rs := [11]) (by kernel_rfl) (by simp) ?_
        refine AllReadyL.cons (o := { dst := some 67, op := Op.call { callee := Callee.builtin Builtin.append, args := #[Operand.tmp 57, Operand.tmp 66], argTypes := #[43, 43] }, type := 43, pos := "code.go:89", after := #[{ on := 1, ground := Ground.data }, { on := 10, ground := Ground.data }, { on := 8, ground := Ground.chain }], guard := none }) rfl (fun K hK => ?_) AllReadyL.nil
        rw [if_pos (by rfl)]
        have hrv := HRV.out.rd (B := w62.heap.size) (n := 1) (size := 2) rfl HRV.out.lt
        refine wp_app _ (.tmp 57) (.tmp 66) 43 rfl (bc + 1) 83 _ 2 16 refT A j k (rfs acc) rfl HOc.out w62.heap.size (some ⟨vb, 0, none⟩) 1 1 [.int .i64 x, .int .i64 y] rfl hrv (by intro v hv; simp only [List.mem_cons, List.not_mem_nil, or_false] at hv; rcases hv with rfl | rfl <;> rfl) (by omega) (by unfold maxLen; omega) (by have := HPc.out.lt; omega) ?_
        intro A3 c3 w63 own3 g3 hA3
        rw [HRS.out] at own3
        have hv63 : Keep (fun q => q = rb ∨ ∃ p, A = some p ∧ q = p.block) w16 w63 := (hv62).grown g3 (fun i hi => .inl (.inr (ownB_any hi)))
        have HPd := Lib.hid (HPc.out.grow g3 (fun i hi => by obtain ⟨p, hp, e⟩ := ownB_any hi; rw [e]; exact HABL.out p hp))
        have ka := (HPd.out.row.cell 22).trans HK22.out
        have fa := HPd.out.row.frozen 22
        have HOd := Lib.hid own3
        clear own3 g3 hA3 hrv
        refine hK.out _ _ (hv63) (fun hHeld => ?_)
        clear hK K
        try simp only [Act.put, List.setIfInBounds_toArray, List.set_cons_zero, List.set_cons_succ]
        refine wpAnyL_take (i := 12) (oi := { dst := some 68, op := Op.fieldAddr 45 (Operand.tmp 7) 5, type := 0, pos := "code.go:89", after := #[{ on := 0, ground := Ground.phase }, { on := 1, ground := Ground.phase }, { on := 2, ground := Ground.phase }, { on := 3, ground := Ground.phase }, { on := 4, ground := Ground.phase }, { on := 5, ground := Ground.phase }, { on := 6, ground := Ground.phase }, { on := 7, ground := Ground.phase }, { on := 8, ground := Ground.phase }, { on := 9, ground := Ground.phase }, { on := 10, ground := Ground.phase }, { on := 11, ground := Ground.phase }], guard := none }) (v := ?v12_9) rfl (by kernel_rfl) (by kernel_rfl) (by kernel_rfl) (by kernel_rfl) (fun _ _ _ h => h) (Or.inl ⟨by rfl, ?h12_9⟩) (by assumption) ?r12_9
        case h12_9 =>
          intro W hSW
          try dsimp only at hSW
          go_simp
          try with_reducible rfl
        try simp only [Act.put, List.setIfInBounds_toArray, List.set_cons_zero, List.set_cons_succ]
        refine wpAnyL_ready (rs := [13]) (by kernel_rfl) (by simp) ?_
        refine AllReadyL.late (o := { dst := none, op := Op.store 43 (Operand.tmp 68) (Operand.tmp 67), type := 0, pos := "code.go:89", after := #[{ on := 12, ground := Ground.data }, { on := 11, ground := Ground.data }, { on := 11, ground := Ground.chain }, { on := 0, ground := Ground.phase }, { on := 1, ground := Ground.phase }, { on := 2, ground := Ground.phase }, { on := 3, ground := Ground.phase }, { on := 4, ground := Ground.phase }, { on := 5, ground := Ground.phase }, { on := 6, ground := Ground.phase }, { on := 7, ground := Ground.phase }, { on := 8, ground := Ground.phase }, { on := 9, ground := Ground.phase }, { on := 10, ground := Ground.phase }, { on := 11, ground := Ground.phase }], guard := none }) rfl (by rfl) (fun K hK => ?_) AllReadyL.nil
        go_simp
        have HPe := Lib.hid (HPd.out.put 22 (.slice A3 (j + 1) c3))
        rw [HON.out] at HPe
        have hks : Keep (fun q => q = bc) w63 (w63.setCell ⟨bc, 22, none⟩ (.slice A3 (j + 1) c3)) := setE_keep w63 bc 22 _
        have HOe := Lib.hid (own_keepS HOd.out hks (fun g hg => by subst hg; omega))
        obtain ⟨w64, hw64⟩ : ∃ q, w63.setCell ⟨bc, 22, none⟩ (.slice A3 (j + 1) c3) = q := ⟨_, rfl⟩
        rw [hw64] at HPe HOe
        rw [hw64]
        clear ka fa hks hw64
        refine hK.out _ _ ?_
        clear hK K
        try simp only [Act.put, List.setIfInBounds_toArray, List.set_cons_zero, List.set_cons_succ]
        refine wpAnyL_done (by kernel_rfl) ?_ _
        clear HPa HOa HPb HOb HPc HOc HPd HOd
        go_wp2_with fail
        go_roundw
        case rel => exact ⟨_, j + 1, _, x, sb, A3, c3, rfl, by omega, by go_num, rfl, HT2, HA2, HLB, HRJ2, HPe, HOe⟩
        case measure => simp [intOf]; omega

      · obtain rfl : j = n := by omega
        have hrj := HRJ.out
        rw [Nat.sub_self] at hrj
        obtain ⟨rfl, rfl⟩ := Prod.mk.inj (show (acc, sj) = (rs, s') from hrj)
        have hr22 : World.rangeAt wr bc 0 (ckCells ⟨x1, dg, x3, u, lo, []⟩ (.slice A j k)) := fun q v hq => by rw [Nat.zero_add, HPJ.out.row.cell]; exact hq
        have hrs := HPJ.out.res
        have HLN := Lib.hid (ckCells_len (c := ⟨x1, dg, x3, u, lo, []⟩) HDG.out (.slice A j k))
        have HON := Lib.hid (ckCells_one ⟨x1, dg, x3, u, lo, []⟩ (.slice A j k) rfl)
        obtain ⟨cs9, hc9⟩ : ∃ y, ckCells ⟨x1, dg, x3, u, lo, []⟩ (.slice A j k) = y := ⟨_, rfl⟩
        rw [hc9] at hr22 HLN HON
        have HC9 := Lib.hid hc9
        clear hrj hc9
        go_wp2_with (first
          | (refine wpList_load_mid rfl _ (.tmp 7) rfl bc 0 rfl cs9 _ hr22 Try.underlying45 rfl (by rw [HLN.out]; exact sizeCk) ?_)
          | (refine wpList_storeRow rfl _ (.tmp 6) (.tmp 70) rfl (l' := cs9) hrs rfl rfl (by rw [HLN.out]; exact sizeCk) (by rw [HLN.out]; rfl) (List.all_eq_true.2 HON.out) ?_; intro w29 rz29 g29 z29))
        refine bodyPost_ret (resultRowS rfl _ _ rz29 rfl Try.underlying45 (by rw [HLN.out]; exact sizeCk)) rfl ?_
        have ho := HPJ.out.o
        have hlA := HA.out.1
        have hkb : Keep (fun q => q = br) wr w29 := Keep.of_grown g29 fun k e => (Option.some.inj e).symm
        obtain ⟨N, hN⟩ := HPJ.out.mp
        refine ⟨A, k, ?_, ?_, HPJ.out.rd.keep hkb (by show ¬ rb = br; omega) (fun k hk => by show ¬ k = br; omega), HPJ.out.kp.grown g29 (fun k e => .inr (by have := Option.some.inj e; omega)), S, ?_, N, hN.keep hkb (by show ¬ m = br; omega)⟩
        · show _ = Ending.returned (.agg (ckCells ⟨x1, dg, x3, u, lo, []⟩ (.slice A acc.length k)).toArray)
          rw [hlA, HC9.out]
        · show World.ownsRow w29 w.heap.size _ 2 (.slice A acc.length k) acc.length (rfs acc)
          rw [hlA]
          exact own_base (own_keepS HOJ.out hkb (fun g hg => by subst hg; omega)) (by omega)
        · intro he hlo
          refine HS14.out ?_ hlo
          exact HEE.out he
end Go.Proofs.Ytcicfneekmbamaa
