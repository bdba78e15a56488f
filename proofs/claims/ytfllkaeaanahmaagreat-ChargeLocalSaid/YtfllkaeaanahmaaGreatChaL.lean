/- Joined texts: ChaI, ChaJ, ChaL. Conditions: as each part says. -/
import Derived.Test.YtfllkaeaanahmaaGreatChaH
import Derived.Test.YtfllkaeaanahmaaGreatChaG
namespace Go.Proofs.YtfllkaeaanahmaaGreat
set_option linter.unusedVariables false
set_option linter.unusedSimpArgs false
section
open Go.RowKit
namespace Cha
def cf34 : S.Str.Cfg := ⟨6, 2, 2, 1, 4, 5⟩
def rs34 : List S.Str.Rw := [⟨-1, 0, []⟩, ⟨0, 2, [⟨0, 0, 0⟩, ⟨1, 0, 0⟩]⟩]
def ops34 : List Chk.Op := [⟨1, 0, 0, 0, ⟨1, 0, 0⟩, 0, 0⟩, ⟨1, 0, 0, 0, ⟨1, 0, 1⟩, 0, 0⟩, ⟨2, 2, 0, 1, ⟨0, 0, 0⟩, 0, 0⟩, ⟨2, 2, 3, 1, ⟨0, 0, 0⟩, 0, 0⟩]
def c1 : Chk.Ck := ⟨1, Chk.dig 0, 0, ⟨1, 0, 0⟩, false, [⟨0, 1⟩]⟩
def c2 : Chk.Ck := ⟨2, Chk.dig 0, 0, ⟨1, 0, 1⟩, false, [⟨0, 2⟩, ⟨3, 1⟩]⟩
def bs34 : List Int := [0, 0, 0, 1, 0, 0, 0, 0, 0, 0, 0, 0, 0, 0, 0, 0]
def l84 : List Int := [0, 0, 0, 84, 0, 0, 0, 0, 0, 0, 0, 0, 0, 0, 0, 0]
theorem s_run : Chk.run [] ops34 = [c1, c2] := by decide +kernel
theorem s_valid : S.Str.validB cf34 rs34 = true := by decide +kernel
theorem s_ok : cf34.ok = true := by decide +kernel
theorem s_live0 : Chk.live [c1, c2] 1 0 = [1, 2] := by decide +kernel
theorem s_live1 : Chk.live [c1, c2] 1 1 = [] := by decide +kernel
theorem s_c1 : ckOf [c1, c2] 1 = c1 := by decide +kernel
theorem s_c2 : ckOf [c1, c2] 2 = c2 := by decide +kernel
theorem wsh_eval {T : Int} {ws L : List Int} (hg : good T ws) (hs : ∀ s t, s < t → t < ws.length → Spl.Bef (fun t => T * ws.getD t 0 % Spl.sumTo (W.wOf ws) ws.length) s t) (k : Nat) (hk : (k : Int) = T - Spl.sumTo (W.baseOf T (Spl.sumTo (W.wOf ws) ws.length) ws) ws.length) (hkn : k ≤ ws.length)
  (hL : Spl.bump id (W.baseL T (Spl.sumTo (W.wOf ws) ws.length) ws ws.length) k = L) (hl : L.length = ws.length) : wsh T ws = L := by
 rw [wsh_good hg (p := id) (k := k) ⟨fun t h => h, fun _ _ _ _ h => h, hs⟩ hk hkn]
 have : W.shOf T ws ws.length id k = fun j => L.getD j 0 := by funext j; unfold W.shOf; rw [hL]
 rw [this, rowL_getD hl]
theorem s_w1 : wsh 2 [1] = [2] := by
 refine wsh_eval ⟨by decide, by decide, ?_, by decide +kernel⟩ (fun s t h1 h2 => by have h2 : t < 1 := h2; omega) 0 (by decide +kernel) (by decide) (by decide +kernel) rfl
 have : ∀ i, i < 1 → 0 ≤ [(1 : Int)].getD i 0 ∧ Spl.sumTo (W.wOf [1]) (i + 1) ≤ 2147483647 := by decide +kernel
 exact this
theorem s_w2 : wsh 1 [2, 1] = [1, 0] := by
 refine wsh_eval ⟨by decide, by decide, ?_, by decide +kernel⟩ (fun s t h1 h2 => ?_) 1 (by decide +kernel) (by decide) (by decide +kernel) rfl
 ·
  have : ∀ i, i < 2 → 0 ≤ [(2 : Int), 1].getD i 0 ∧ Spl.sumTo (W.wOf [2, 1]) (i + 1) ≤ 2147483647 := by decide +kernel
  exact this
 ·
  have h2 : t < 2 := h2
  obtain ⟨rfl, rfl⟩ : s = 0 ∧ t = 1 := by omega
  left
  decide +kernel
theorem s_sum : Spl.sumTo (W.wOf bs34) bs34.length = 1 := by decide +kernel
theorem s_good : good 84 bs34 := by
 refine ⟨by decide, by decide, ?_, by decide +kernel⟩
 have : ∀ i, i < 16 → 0 ≤ bs34.getD i 0 ∧ Spl.sumTo (W.wOf bs34) (i + 1) ≤ 2147483647 := by decide +kernel
 exact this
theorem s_w84 : wsh 84 bs34 = l84 := by
 refine wsh_eval s_good (fun s t h1 h2 => ?_) 0 (by decide +kernel) (by decide) (by decide +kernel) rfl
 right
 rw [s_sum]
 exact ⟨by simp [Int.emod_one], h1⟩
theorem s_ch1 (t : Nat → Int) : chunkS c1 2 t = put1 t 0 2 := by
 unfold chunkS shares
 rw [show cnts c1.refs = [1] from rfl, s_w1]
 rfl
theorem s_ch2 (t : Nat → Int) : chunkS c2 1 t = put1 (put1 t 0 1) 3 0 := by
 unfold chunkS shares
 rw [show cnts c2.refs = [2, 1] from rfl, s_w2]
 rfl
def t34 : Nat → Int := put1 (put1 (put1 (fun _ => 0) 0 2) 0 1) 3 0
theorem s_st0 : stripeS [c1, c2] 1 0 3 zero = ⟨t34, 0⟩ := by
 unfold stripeS
 rw [s_live0, if_neg (by decide)]
 show Sh.mk (chunkS (ckOf [c1, c2] 2) (W.evenOf 3 2 1) (chunkS (ckOf [c1, c2] 1) (W.evenOf 3 2 0) zero.t)) 0 = _
 rw [s_c1, s_c2, show W.evenOf 3 2 0 = 2 by decide +kernel, show W.evenOf 3 2 1 = 1 by decide +kernel, s_ch1, s_ch2]
 rfl
theorem s_row1 : rowAt [c1, c2] rs34 6 1 = ⟨t34, wr (0 + 3)⟩ := by
 show stripeS [c1, c2] 1 1 (W.evenOf 6 2 1) (stripeS [c1, c2] 1 0 (W.evenOf 6 2 0) zero) = _
 rw [show W.evenOf 6 2 0 = 3 by decide +kernel, show W.evenOf 6 2 1 = 3 by decide +kernel, s_st0]
 unfold stripeS
 rw [s_live1]
 exact if_pos rfl
theorem s_rowF : rowF [c1, c2] cf34 rs34 1 = some ⟨t34, wr (0 + 3)⟩ := by
 unfold rowF
 rw [if_pos ⟨s_valid, by decide, by decide⟩]
 exact congrArg some s_row1
theorem s_rowL : W.rowL 16 t34 = [3, 0, 0, 0, 0, 0, 0, 0, 0, 0, 0, 0, 0, 0, 0, 0] := by decide +kernel
theorem s_row3 : wr (0 + 3) = 3 := by decide +kernel
theorem s_meta : metaT cf34 = 84 := by decide +kernel
theorem s_metaO : metaO cf34 bs34 = some ⟨fun j => l84.getD j 0, 0⟩ := by
 have h := metaO_good (bs := bs34) s_ok (by decide +kernel) (by decide +kernel) (by rw [s_meta]; exact s_good)
 rw [s_meta, s_w84] at h
 exact h
def o34 : Sh := addS (addS ⟨fun j => l84.getD j 0, 0⟩ zero) ⟨t34, wr (0 + 3)⟩
theorem s_ofO : ofO [c1, c2] cf34 rs34 bs34 = some o34 := by
 unfold ofO
 rw [s_metaO]
 show (if S.Str.validB cf34 rs34 = true then some (addS (addS _ (rowAt [c1, c2] rs34 6 0)) (rowAt [c1, c2] rs34 6 1)) else none) = _
 rw [if_pos s_valid, s_row1]
 rfl
theorem s_oL : W.rowL 16 o34.t = [3, 0, 0, 84, 0, 0, 0, 0, 0, 0, 0, 0, 0, 0, 0, 0] := by decide +kernel
theorem s_oh : o34.h = 3 := by decide +kernel
theorem s_oT : totS 3 [3, 0, 0, 84, 0, 0, 0, 0, 0, 0, 0, 0, 0, 0, 0, 0] 16 = 90 := by decide +kernel
theorem s_rT : totS 3 [3, 0, 0, 0, 0, 0, 0, 0, 0, 0, 0, 0, 0, 0, 0, 0] 16 = 6 := by decide +kernel
theorem s_media : mediaV cf34 rs34 = .tuple #[.int .i64 90, .int .i64 0] := by
 unfold mediaV
 rw [if_pos s_valid, show mediaT cf34 rs34 = 90 by decide +kernel]
theorem s_nil : metaO cf34 [] = none := metaO_len (by decide)
end Cha
def zCf34 : List Value := [.int .i64 0, .int .i64 0, .int .i64 0, .int .i64 0, .int .i64 0, .int .i64 0]
theorem infoCf34 : (Tryz.prog.info? 23).map (fun i => (i.zero, i.size)) = some (some (.agg zCf34.toArray), zCf34.length) := by kernel_rfl
theorem config34_any (w : World) : Calls Tryz.prog 36 #[] w fun e w' => e = .returned (S.cfV Cha.cf34) ∧ Below w.heap.size w w' := by
 go_enter Tryz.func36, Tryz.ntmps36
 go_wp2_with (first
  | (refine wpList_allocRow rfl _ rfl _ infoCf34 ?_; intro w2 rz2 b2 z2; clear z2)
  | (refine wpList_storeRow rfl _ (.tmp 0) (.tmp 1) rfl (l' := S.cfL Cha.cf34) rz2 rfl rfl S.sizeCf rfl rfl ?_; intro w4 rz4 g4 z4; clear z4))
 refine bodyPost_ret (resultRowH rfl _ _ rz4 rfl Tryz.underlying23 S.sizeCf) rfl ?_
 exact ⟨rfl, b2.grown g4 b2.size (fun i hi => by have := Option.some.inj hi; omega)⟩
set_option maxRecDepth 100000 in
set_option maxHeartbeats 1600000 in
theorem rows34_any (w : World) :
  Calls Tryz.prog 37 #[] w fun e w' => ∃ A D, e = .returned (.slice A 2 2) ∧ S.RowsIn w' w'.heap.size A 2 D Cha.rs34 ∧ Below w.heap.size w w' := by
 have r1 := Rd.new w [.int .i64 0, .int .i64 0, .int .i64 0, .int .i64 1, .int .i64 0, .int .i64 0] 72 2 (size := 3) rfl
 obtain ⟨w1, h1⟩ : ∃ x, w.alloc (.cells #[.int .i64 0, .int .i64 0, .int .i64 0, .int .i64 1, .int .i64 0, .int .i64 0] 72) = x := ⟨_, rfl⟩
 have s1 : w1.heap.size = w.heap.size + 1 := by rw [← h1]; simp
 have b1 : Below w.heap.size w w1 := by rw [← h1]; exact (Below.refl _ _).alloc (Nat.le_refl _) _
 rw [show w.alloc (.cells [Value.int .i64 0, .int .i64 0, .int .i64 0, .int .i64 1, .int .i64 0, .int .i64 0].toArray 72) = w1 from h1] at r1
 obtain ⟨D, hD⟩ : ∃ D : List S.RR, D = [⟨⟨-1, 0, []⟩, none, 0⟩, ⟨⟨0, 2, [⟨0, 0, 0⟩, ⟨1, 0, 0⟩]⟩, some ⟨w.heap.size, 0, none⟩, 2⟩] := ⟨_, rfl⟩
 have r3 := Rd.new w1 (D.flatMap S.rwL) 102 2 (size := 3) (by rw [hD]; rfl)
 obtain ⟨w3, h3⟩ : ∃ x, w1.alloc (.cells (D.flatMap S.rwL).toArray 102) = x := ⟨_, rfl⟩
 have s3 : w3.heap.size = w1.heap.size + 1 := by rw [← h3]; simp
 have b3 : Below w1.heap.size w1 w3 := by rw [← h3]; exact (Below.refl _ _).alloc (Nat.le_refl _) _
 rw [h3] at r3
 have HW : Hid (w.alloc (.cells #[.int .i64 0, .int .i64 0, .int .i64 0, .int .i64 1, .int .i64 0, .int .i64 0] 72) = w1) := Lib.hid h1
 have HFIN : Hid (S.RowsIn w3 w3.heap.size (some ⟨w1.heap.size, 0, none⟩) 2 D Cha.rs34 ∧ Below w.heap.size w w3) := by
  have q2 : Rd w3 w3.heap.size 3 (some ⟨w.heap.size, 0, none⟩) 2 [.int .i64 0, .int .i64 0, .int .i64 0, .int .i64 1, .int .i64 0, .int .i64 0] := ((r1.more (by omega)).below b3).more (by omega)
  refine Lib.hid ⟨⟨r3.more (by omega), by rw [hD]; rfl, fun x hx => ?_, by omega⟩, b1.trans (b3.mono (by omega))⟩
  rw [hD] at hx
  simp only [List.mem_cons, List.not_mem_nil, or_false] at hx
  rcases hx with rfl | rfl
  ·
   exact ⟨Rd.nil_ _ _ _ _, by simp, by simp⟩
  ·
   exact ⟨q2, by simp, by simp⟩
 have HW3 : Hid (w1.alloc (.cells #[.int .i64 (-1), .int .i64 0, .slice none 0 0, .int .i64 0, .int .i64 2, .slice (some ⟨w.heap.size, 0, none⟩) 2 2] 102) = w3) := Lib.hid (by rw [← h3, hD]; rfl)
 have HS1 := Lib.hid s1
 clear r1 r3 b1 b3 h1 h3 s1 s3 hD
 go_enter Tryz.func37, Tryz.ntmps37
 go_wp2_with fail
 go_ret
 rw [HW.out, ← HS1.out, HW3.out]
 exact ⟨some ⟨w1.heap.size, 0, none⟩, D, rfl, HFIN.out.1, HFIN.out.2⟩
def zUn34 : List Value := [.int .i64 0, .int .i64 0, .int .i64 0]
theorem infoUn34 : (Tryz.prog.info? 65).map (fun i => (i.zero, i.size)) = some (some (.agg zUn34.toArray), zUn34.length) := by kernel_rfl
theorem sizeUn34 : (Tryz.prog.info? 65).map (·.size) = some 3 := by kernel_rfl
theorem at34_any (n : Int) (w : World) : Calls Tryz.prog 74 #[.int .i64 n] w fun e w' => e = .returned (.agg #[.int .i64 1, .int .i64 0, .int .i64 n]) ∧ Below w.heap.size w w' := by
 go_enter Tryz.func74, Tryz.ntmps74
 go_wp2_with (first
  | (refine wpList_allocRow rfl _ rfl _ infoUn34 ?_; intro w2 rz2 b2 z2; clear z2)
  | (refine wpList_storeRow rfl _ (.tmp 2) (.tmp 5) rfl (l' := [.int .i64 1, .int .i64 0, .int .i64 n]) rz2 rfl rfl sizeUn34 rfl rfl ?_; intro w4 rz4 g4 z4; clear z4))
 refine bodyPost_ret (resultRowH rfl _ _ rz4 rfl Tryz.underlying65 sizeUn34) rfl ?_
 exact ⟨rfl, b2.grown g4 b2.size (fun i hi => by have := Option.some.inj hi; omega)⟩
set_option maxRecDepth 100000 in
set_option maxHeartbeats 1600000 in
theorem script34_any (w : World) :
  Calls Tryz.prog 35 #[] w fun e w' => ∃ A c, e = .returned (.slice A 4 c) ∧ OpsAt w' A 4 Cha.ops34 ∧ Below w.heap.size w w' := by
 have hb := Below.refl w.heap.size w
 go_enter Tryz.func35, Tryz.ntmps35
 go_wp2_with (go_at_call 74; refine (at34_any _ _).mono ?_; rintro e wn ⟨rfl, bn⟩; replace hb := hb.trans (bn.mono hb.size); clear bn)
 have rd := Rd.new wn (Cha.ops34.flatMap opL) 78 4 (size := 9) rfl
 have hsz : (wn.alloc (.cells (Cha.ops34.flatMap opL).toArray 78)).heap.size = wn.heap.size + 1 := by simp
 rw [← hsz] at rd
 have hbb := hb.alloc hb.size (.cells (Cha.ops34.flatMap opL).toArray 78)
 go_ret
 refine ⟨_, _, rfl, ⟨rd, rfl, ?_⟩, hbb⟩
 have : ∀ o ∈ Cha.ops34, 0 ≤ o.pr ∧ o.pr < 4294967296 := by decide +kernel
 exact this
end
section
open Go.RowKit
open W (FRow)
theorem pof_any {wz w : World} (hz : Below wz.heap.size wz w) {F T : Nat → Prop} {a : Nat} {t : TM} {l : List Chk.Ck} (ht : TAt wz F T a t l) {B m cp : Nat} {A : Option Addr} {D : List S.RR} {rs : List S.Str.Rw} (h : S.RowsIn w B A m D rs) (hB : B ≤ w.heap.size) (hmc : m ≤ cp) (cf : S.Str.Cfg) (Ab : Option Addr) (nb cb : Nat) (bs : List Int) (hl : bs.length = nb) (hnb : nb ≤ maxLen) {B2 : Nat} (hB2 : B2 ≤ w.heap.size) (hr : Rd w B2 1 Ab nb (ivs bs)) :
  Calls Tryz.prog 11 #[S.cfV cf, .slice A m cp, .pointer (some ⟨a, 0, none⟩), .slice Ab nb cb] w (ShVRes w (Cha.ofO l cf rs bs)) := by
 unfold Cha.ofO
 cases hs : Cha.metaO cf bs with
 | none => exact (pof_bad1 h hB hmc cf Ab nb cb bs hl hnb hB2 hr _ hs).mono fun _ _ h => h.v
 | some s =>
  dsimp only
  by_cases hv : S.Str.validB cf rs = true
  ·
   rw [if_pos hv, h.len.2]; exact (pof_ok hz ht h hB hmc cf Ab nb cb bs hl hnb hB2 hr s hs hv).mono fun _ _ h => h.v
  ·
   rw [if_neg hv]; exact (pof_bad2 h hB hmc cf Ab nb cb bs hl hnb hB2 hr _ s hs (by simpa using hv)).mono fun _ _ h => h.v
set_option maxRecDepth 100000 in
set_option maxHeartbeats 6400000 in
theorem sanity34_any (w : World) : Calls Tryz.prog 10 #[] w fun e w' => e = .returned (.bool true) ∧ Below w.heap.size w w' := by
 have HMD := Lib.hid (fun (W : World) (A : Option Addr) (D : List S.RR) (h : S.RowsIn W W.heap.size A 2 D Cha.rs34) => pmedia_any h (Nat.le_refl _) (Nat.le_refl 2) Cha.cf34)
 rw [Cha.s_media] at HMD
 have HMN := Lib.hid (fun W => pmeta_all Cha.cf34 none 0 0 [] rfl (by unfold maxLen; omega) 0 W (Nat.zero_le _) (Rd.nil_ _ _ _ _))
 rw [Cha.s_nil] at HMN
 unfold ShVRes at HMN
 dsimp only at HMN
 go_enter Tryz.func10, Tryz.ntmps10
 go_upto_region 4 with (first
  | (go_at_call 35; refine (script34_any _).mono ?_; rintro e w1 ⟨A1, c1, rfl, ho, b1⟩; have HO := Lib.hid ho; have HB1 := Lib.hid b1; clear ho b1)
  | (go_at_call 8; refine (build34_any A1 4 c1 Cha.ops34 w1 (by omega) HO.out).mono ?_; rintro e w2 ⟨a, r, rfl, hp⟩; have HP := Lib.hid hp; clear hp))
 rw [Cha.s_run] at HP
 obtain ⟨F, T, F', T', ⟨t, h1⟩, -⟩ := id HP.out
 have HT := Lib.hid h1
 have HB2 := Lib.hid (HB1.out.trans (HP.out.b.mono HB1.out.size))
 have hm := mk16
 have hrw := IsRow.new w2 3 (ivs z16)
 obtain ⟨w3, hw3⟩ : ∃ x, w2.alloc (.cells (ivs z16).toArray 3) = x := ⟨_, rfl⟩
 have b3 : Below w2.heap.size w2 w3 := by rw [← hw3]; exact (Below.refl _ _).alloc (Nat.le_refl _) _
 rw [hw3] at hrw
 have q0 : w3.cell? ⟨w2.heap.size, 3, none⟩ = some (.int .i64 0) := hrw.cell 3
 have q1 := hrw.frozen 3
 have HRW := Lib.hid (hrw.set 3 (.int .i64 1))
 have HB3 := Lib.hid b3
 have HL3 := Lib.hid hrw.lt
 clear hrw b3 HP h1
 go_upto_region 6 with fail
 obtain ⟨bq, hbq⟩ : ∃ y, w2.heap.size = y := ⟨_, rfl⟩
 obtain ⟨w4, hw4⟩ : ∃ x, w3.setCell ⟨bq, 3, none⟩ (.int .i64 1) = x := ⟨_, rfl⟩
 rw [hbq] at HRW HL3 ⊢
 rw [hw4] at HRW ⊢
 have HB4 : Hid (Below w2.heap.size w2 w4) := Lib.hid (by rw [← hw4]; exact HB3.out.grown (grown_set_ w3 bq 3 _) HB3.out.size (fun i hi => by have := Option.some.inj hi; omega))
 have HBS : Hid (Rd w4 w4.heap.size 1 (some ⟨bq, 0, none⟩) 16 (ivs Cha.bs34)) := Lib.hid (IsRow.rd HRW.out rfl HRW.out.lt)
 clear hw3 hw4 q0 q1 hm
 try simp only [PT]
 go_upto_region 7 with (first
  | (go_at_call 36; refine (config34_any _).mono ?_; rintro e w5 ⟨rfl, b5⟩; have HB5 := Lib.hid b5; clear b5)
  | (go_at_call 37; refine (rows34_any _).mono ?_; rintro e w6 ⟨A6, D6, rfl, hr6, b6⟩; have HR6 := Lib.hid hr6; have HB6 := Lib.hid (HB5.out.trans (b6.mono HB5.out.size)); clear b6 hr6)
  | (go_at_call 15; refine (HMD.out _ _ _ HR6.out).mono ?_; rintro e w7 ⟨rfl, b7⟩; have HB7 := Lib.hid (HB6.out.trans (b7.mono HB6.out.size)); clear b7))
 clear HB5 HB6 HR6
 have HOF : Hid (∀ W, Below w4.heap.size w4 W → ∀ (A : Option Addr) (D : List S.RR) (h : S.RowsIn W W.heap.size A 2 D Cha.rs34), Calls Tryz.prog 11 #[S.cfV Cha.cf34, .slice A 2 2, .pointer (some ⟨a, 0, none⟩), .slice (some ⟨bq, 0, none⟩) 16 16] W (ShVRes W (some Cha.o34))) := Lib.hid fun V hW A D h => by
  rw [← Cha.s_ofO]
  exact pof_any (HB4.out.trans (hW.mono HB4.out.size)) HT.out h (Nat.le_refl _) (Nat.le_refl 2) Cha.cf34 (some ⟨bq, 0, none⟩) 16 16 Cha.bs34 rfl (by unfold maxLen; omega) hW.size (HBS.out.below hW)
 have HRO : Hid (∀ W, Below w4.heap.size w4 W → ∀ (A : Option Addr) (D : List S.RR) (h : S.RowsIn W W.heap.size A 2 D Cha.rs34), Calls Tryz.prog 17 #[S.cfV Cha.cf34, .slice A 2 2, .pointer (some ⟨a, 0, none⟩), .int .i64 1] W (ShVRes W (some ⟨Cha.t34, Cha.wr (0 + 3)⟩))) := Lib.hid fun V hW A D h => by
  rw [← Cha.s_rowF]
  exact (prow_any (HB4.out.trans (hW.mono HB4.out.size)) HT.out h (Nat.le_refl _) (Nat.le_refl 2) Cha.cf34 1).mono fun _ _ h => h.v
 unfold ShVRes at HOF HRO
 dsimp only at HOF HRO
 rw [Cha.s_oL, Cha.s_oh] at HOF
 rw [Cha.s_rowL, Cha.s_row3] at HRO
 go_upto_region 8 with (first
  | (have tok := r8; refine wpList_storeRow rfl _ (.tmp 7) (.tmp 36) rfl (l' := [.slice A8 16 c8, .int .i64 3]) r8 rfl rfl sizeSP rfl rfl ?_; intro w85 r85 g85 z85; clear tok)
  | (go_at_call 36; refine (config34_any _).mono ?_; rintro e w81 ⟨rfl, b81⟩; have HB81 := Lib.hid b81; clear b81)
  | (go_at_call 37; refine (rows34_any _).mono ?_; rintro e w82 ⟨A82, D82, rfl, hr82, b82⟩; have HR82 := Lib.hid hr82; have HB82 := Lib.hid (HB81.out.trans (b82.mono HB81.out.size)); clear b82 hr82)
  | (go_at_call 11; refine (HOF.out _ (HB7.out.trans (HB82.out.mono HB7.out.size)) _ _ HR82.out).mono ?_; rintro e w83 ⟨A8, c8, rfl, rd8, b83⟩; have HD8 := Lib.hid rd8; have HB83 := Lib.hid (HB82.out.trans (b83.mono HB82.out.size)); clear rd8 b83)
  | (refine wpList_allocRow rfl _ rfl _ infoSP ?_; intro w84 r8 b8 z8))
 have hc8 : Below w83.heap.size w83 w85 := b8.grown g85 b8.size (fun i hi => by have := Option.some.inj hi; omega)
 have HBR8 := Lib.hid (HB83.out.trans (hc8.mono HB83.out.size))
 have HB8 := Lib.hid (HB7.out.trans (HBR8.out.mono HB7.out.size))
 have HX8 := Lib.hid (And.intro r85 ((HD8.out.below hc8).more hc8.size))
 obtain ⟨b89, hb89⟩ : ∃ y, w83.heap.size = y := ⟨_, rfl⟩
 rw [hb89] at HX8
 try rw [hb89]
 clear r8 b8 z8 r85 g85 z85 hc8 hb89 HB81 HB83 HB82 HR82 HD8
 try simp only [PT]
 go_upto_region 9 with (first
  | (have tok := r9; refine wpList_storeRow rfl _ (.tmp 9) (.tmp 43) rfl (l' := [.slice A9 16 c9, .int .i64 3]) r9 rfl rfl sizeSP rfl rfl ?_; intro w95 r95 g95 z95; clear tok)
  | (go_at_call 36; refine (config34_any _).mono ?_; rintro e w91 ⟨rfl, b91⟩; have HB91 := Lib.hid b91; clear b91)
  | (go_at_call 37; refine (rows34_any _).mono ?_; rintro e w92 ⟨A92, D92, rfl, hr92, b92⟩; have HR92 := Lib.hid hr92; have HB92 := Lib.hid (HB91.out.trans (b92.mono HB91.out.size)); clear b92 hr92)
  | (go_at_call 17; refine (HRO.out _ (HB8.out.trans (HB92.out.mono HB8.out.size)) _ _ HR92.out).mono ?_; rintro e w93 ⟨A9, c9, rfl, rd9, b93⟩; have HD9 := Lib.hid rd9; have HB93 := Lib.hid (HB92.out.trans (b93.mono HB92.out.size)); clear rd9 b93)
  | (refine wpList_allocRow rfl _ rfl _ infoSP ?_; intro w94 r9 b9 z9))
 have hc9 : Below w93.heap.size w93 w95 := b9.grown g95 b9.size (fun i hi => by have := Option.some.inj hi; omega)
 have HBR9 := Lib.hid (HB93.out.trans (hc9.mono HB93.out.size))
 have HB9 := Lib.hid (HB8.out.trans (HBR9.out.mono HB8.out.size))
 have HX9 := Lib.hid (And.intro r95 ((HD9.out.below hc9).more hc9.size))
 obtain ⟨b99, hb99⟩ : ∃ y, w93.heap.size = y := ⟨_, rfl⟩
 rw [hb99] at HX9
 try rw [hb99]
 clear r9 b9 z9 r95 g95 z95 hc9 hb99 HB91 HB93 HB92 HR92 HD9
 have HX8 := Lib.hid (And.intro (HX8.out.1.below' HBR9.out) ((HX8.out.2.below HBR9.out).more HBR9.out.size))
 try simp only [PT]
 go_upto_region 10 with (first
  | (have tok := r10; refine wpList_storeRow rfl _ (.tmp 11) (.tmp 48) rfl (l' := zShL) r10 rfl rfl sizeSP rfl rfl ?_; intro w105 r105 g105 z105; clear tok)
  | (go_at_call 36; refine (config34_any _).mono ?_; rintro e w101 ⟨rfl, b101⟩; have HB101 := Lib.hid b101; clear b101)
  | (go_at_call 19; refine (HMN.out _).mono ?_; rintro e w103 ⟨rfl, b103⟩; have HB103 := Lib.hid (HB101.out.trans (b103.mono HB101.out.size)); clear b103)
  | (refine wpList_allocRow rfl _ rfl _ infoSP ?_; intro w104 r10 b10 z10))
 have hc10 : Below w103.heap.size w103 w105 := b10.grown g105 b10.size (fun i hi => by have := Option.some.inj hi; omega)
 have HBR10 := Lib.hid (HB103.out.trans (hc10.mono HB103.out.size))
 have HB10 := Lib.hid (HB9.out.trans (HBR10.out.mono HB9.out.size))
 obtain ⟨b109, hb109⟩ : ∃ y, w103.heap.size = y := ⟨_, rfl⟩
 try rw [hb109]
 clear r10 b10 z10 r105 g105 z105 hc10 hb109 HB101 HB103 
 have HX8 := Lib.hid (And.intro (HX8.out.1.below' HBR10.out) ((HX8.out.2.below HBR10.out).more HBR10.out.size))
 have HX9 := Lib.hid (And.intro (HX9.out.1.below' HBR10.out) ((HX9.out.2.below HBR10.out).more HBR10.out.size))
 try simp only [PT]
 have HT8 := Lib.hid (ptot_any A8 16 c8 [3, 0, 0, 84, 0, 0, 0, 0, 0, 0, 0, 0, 0, 0, 0, 0] 3 w105 rfl (by unfold maxLen; omega) w105.heap.size (Nat.le_refl _) HX8.out.2)
 have HT9 := Lib.hid (fun (W : World) (hW : Below w105.heap.size w105 W) => ptot_any A9 16 c9 [3, 0, 0, 0, 0, 0, 0, 0, 0, 0, 0, 0, 0, 0, 0, 0] 3 W rfl (by unfold maxLen; omega) w105.heap.size hW.size (HX9.out.2.below hW))
 rw [Cha.s_oT] at HT8
 rw [Cha.s_rT] at HT9
 obtain ⟨b, off, rfl, _, hc⟩ := HX8.out.2.int (ws := [3, 0, 0, 84, 0, 0, 0, 0, 0, 0, 0, 0, 0, 0, 0, 0]) rfl (by omega)
 have c0 : w105.cell? ⟨b, off, none⟩ = some (.int .i64 3) := hc 0 (by omega)
 have c3 : w105.cell? ⟨b, off + 3, none⟩ = some (.int .i64 84) := hc 3 (by omega)
 have k0 := HX8.out.1.cell 0
 have k1 := HX8.out.1.cell 1
 dsimp only [List.getElem?_cons_zero, List.getElem?_cons_succ] at k0 k1
 have hr8 : w105.rangeAt b89 0 [.slice (some ⟨b, off, none⟩) 16 c8, .int .i64 3] := fun q u hq => by rw [Nat.zero_add, HX8.out.1.cell]; exact hq
 have HR9 : Hid (∀ W, Below w105.heap.size w105 W → IsRow W b99 35 [.slice A9 16 c9, .int .i64 3]) := Lib.hid fun W hW => HX9.out.1.below' hW
 clear hc
 go_wp2_with (first
  | (have tok := hr8; refine S.wpList_load_rg rfl _ (.tmp 7) rfl b89 0 rfl [.slice (some ⟨b, off, none⟩) 16 c8, .int .i64 3] _ hr8 Tryz.underlying35 rfl sizeSP ?_; clear tok)
  | (have tok := HT8; go_at_call 21; refine HT8.out.mono ?_; rintro e wa ⟨rfl, ba⟩; have HBA := Lib.hid ba; have hr9 : wa.rangeAt b99 0 [.slice A9 16 c9, .int .i64 3] := fun q u hq => (by rw [Nat.zero_add, (HR9.out wa ba).cell]; exact hq); clear ba hr8 tok HT8)
  | (have tok := hr9; refine S.wpList_load_rg rfl _ (.tmp 9) rfl b99 0 rfl [.slice A9 16 c9, .int .i64 3] _ hr9 Tryz.underlying35 rfl sizeSP ?_; clear tok)
  | (have tok := hr9; go_at_call 21; refine (HT9.out _ HBA.out).mono ?_; rintro e wb ⟨rfl, bb⟩; have HBB := Lib.hid (HBA.out.trans (bb.mono HBA.out.size)); have k9 : wb.cell? ⟨b99, 1, none⟩ = some (.int .i64 3) := (HR9.out wb (HBA.out.trans (bb.mono HBA.out.size))).cell 1; clear bb hr9 tok))
 go_ret
 have hb4 := HB2.out.trans (HB4.out.mono HB2.out.size)
 have hb10 := hb4.trans (HB10.out.mono hb4.size)
 exact ⟨rfl, hb10.trans (HBB.out.mono hb10.size)⟩
end
section
open Go.RowKit
open W (FRow)
def ShU (w : World) (N : Nat) (X : List Int) (H E : Int) (e : Ending) (w' : World) : Prop := ∃ A c, e = .returned (.tuple #[.agg #[.slice A N c, .int .i64 H], .int .i64 E]) ∧ Rd w' w'.heap.size 1 A N (ivs X) ∧ Below w.heap.size w w'
theorem shU (o : Option Cha.Sh) : ∃ (N : Nat) (X : List Int) (H E : Int), X.length = N ∧ N ≤ 16 ∧ (∀ w e w', ShVRes w o e w' → ShU w N X H E e w') ∧ (o = none → E = 1) ∧ (∀ s, o = some s → N = 16 ∧ X = W.rowL 16 s.t ∧ H = s.h ∧ E = 0) := by
 cases o with
 | none => exact ⟨0, [], 0, 1, rfl, by omega, fun w e w' h => ⟨none, 0, h.1, Rd.nil_ _ _ _ _, h.2⟩, fun _ => rfl, fun s e => (by cases e)⟩
 | some s => exact ⟨16, W.rowL 16 s.t, s.h, 0, W.rowL_len _ _, by omega, fun w e w' ⟨A, c, h1, h2, h3⟩ => ⟨A, c, h1, h2, h3⟩, fun e => (by cases e), fun s' e => (by cases e; exact ⟨rfl, rfl, rfl, rfl⟩)⟩
end
end Go.Proofs.YtfllkaeaanahmaaGreat
