/- StripesBounded: its walk. Conditions: the script lies in memory. -/
import Derived.Test.YtcmgnjdhjnclkaaStrLawV
namespace Go.Proofs.Ytcmgnjdhjnclkaa.S
set_option linter.unusedVariables false
set_option linter.unusedSimpArgs false
open Go.RowKit
theorem Str.free_bnd {cf : Str.Cfg} (h : cf.ok = true) (code width : Int) : Str.Bnd cf code width (List.replicate cf.rows.toNat Str.free) 0 := by
  have key : ∀ m, Str.tot (List.replicate m Str.free) code = 0 ∧ (0 ≤ code → Str.held (List.replicate m Str.free) code = 0) := fun m => by
    induction m with
    | zero => exact ⟨rfl, fun _ => rfl⟩
    | succ m ih =>
      rw [List.replicate_succ, Str.tot_cons, Str.held_cons, ih.1]
      refine ⟨by split <;> rfl, fun hc => ?_⟩
      rw [ih.2 hc, if_neg (fun e => by have : (-1 : Int) = code := e; omega)]
  obtain ⟨k1, k2⟩ := key cf.rows.toNat
  exact ⟨Str.free_valid h, by rw [k1]; exact Int.le_refl 0, fun h1 h2 => by rw [k2 h1] at h2; exact absurd h2 (Nat.lt_irrefl 0)⟩
set_option maxRecDepth 100000 in
set_option maxHeartbeats 16000000 in
theorem lawBounded (cf : Str.Cfg) (A : Option Addr) (n c : Nat) (L : List Str.SOp) (hL : L.length = n) (hnc : n ≤ c) (hcc : c ≤ 140737488355328) (code : Int) (lc : -9223372036854775808 ≤ code) (uc : code ≤ 9223372036854775807) (width : Int) (lw : -9223372036854775808 ≤ width) (uw : width ≤ 9223372036854775807) (w : World) (hrd : Rd w w.heap.size 6 A n (L.flatMap sopL)) :
    Calls Try.prog 5 #[cfV cf, .slice A n c, .int .i64 code, .int .i64 width] w fun e w' => e = .returned (.bool true) ∧ Below w.heap.size w w' := by
  clear lc uc lw uw
  have HRD := Lib.hid hrd
  have HLN := Lib.hid hL
  have HSA := Lib.hid (fun W => sanity_any W)
  have HSM := Lib.hid (fun W => small_any cf W)
  have HGR := Lib.hid (fun W => groups_any cf width W)
  have hnn := new_cases cf w
  obtain ⟨F, hF⟩ : ∃ F, Str.small cf = F := ⟨_, rfl⟩
  rw [hF] at HSM
  have HCV : Hid (cfV cf = .agg (cfL cf).toArray) := Lib.hid rfl
  have HCL : Hid ((cfL cf).length = 6) := Lib.hid rfl
  have HPY := Lib.hid (fun (W : World) (A : Option Addr) (c : Nat) (l : List Str.Rw) (h : RAt W A cf.rows.toNat c l) (hv : Str.Valid cf l) (o : Str.SOp) => play_any cf h hv o)
  rw [HCV.out] at HSM HPY HGR hnn ⊢
  obtain ⟨N, hN⟩ : ∃ N, cf.rows.toNat = N := ⟨_, rfl⟩
  rw [hN] at hnn HPY
  have HN := Lib.hid hN
  obtain ⟨cl, hcl⟩ : ∃ y, cfL cf = y := ⟨_, rfl⟩
  rw [hcl] at HSM HCL HPY HGR hnn ⊢
  obtain ⟨G, hG⟩ : ∃ G, Str.grp cf width = G := ⟨_, rfl⟩
  rw [hG] at HGR
  have HG := Lib.hid hG
  clear hcl hF hN hrd hL hG
  rcases hnn with ⟨hok, hnw⟩ | ⟨hok, hnw⟩
  · have HNW := Lib.hid hnw
    clear hok hnw
    cases F
    all_goals
      go_enter Try.func5, Try.ntmps5
      go_upto_region 1 with (refine wpList_boxRow rfl _ (.tmp 0) rfl cl rfl rfl ?_; intro w1 r1 b1 z1; clear z1; simp only [put_some, List.setIfInBounds_toArray, List.set_cons_succ, List.set_cons_zero])
      go_wp2_with (first
        | (refine wpList_load_rg rfl _ (.tmp 4) rfl w.heap.size 0 rfl cl _ (fun j v hv => by rw [Nat.zero_add, (r1).cell]; exact hv) Try.underlying23 rfl (by rw [HCL.out]; exact sizeCf) ?_)
        | (go_at_call 6; refine (HSM.out _).mono ?_; rintro e w2 ⟨rfl, b2⟩; have r2 := r1.below' b2; have hb2 := b1.trans (b2.mono b1.size))
        | (refine wpList_load_rg rfl _ (.tmp 4) rfl w.heap.size 0 rfl cl _ (fun j v hv => by rw [Nat.zero_add, r2.cell]; exact hv) Try.underlying23 rfl (by rw [HCL.out]; exact sizeCf) ?_)
        | (go_at_call 13; refine (HNW.out _).mono ?_; rintro e w3 ⟨rfl, b3⟩; have hb3 := hb2.trans (b3.mono hb2.size); have r3 := r2.below' b3)
        | (refine wpList_load_rg rfl _ (.tmp 4) rfl w.heap.size 0 rfl cl _ (fun j v hv => by rw [Nat.zero_add, r3.cell]; exact hv) Try.underlying23 rfl (by rw [HCL.out]; exact sizeCf) ?_)
        | (go_at_call 15; refine (HGR.out _).mono ?_; rintro e w35 ⟨rfl, b35⟩)
        | (go_at_call 8; refine (HSA.out _).mono ?_; rintro e w4 ⟨rfl, b4⟩))
      go_ret
      exact ⟨rfl, hb3.trans (b4.mono hb3.size)⟩
  · have HNW := Lib.hid hnw
    have HV0 := Lib.hid (Str.free_bnd hok code width)
    rw [HN.out] at HV0
    clear hok hnw
    by_cases hgo : F = true ∧ n ≤ 60 ∧ 1 ≤ width ∧ width ≤ 32
    · obtain ⟨rfl, hn60, hw1, hw2⟩ := hgo
      have hwl : ¬ width < 1 := by omega
      have hwg : ¬ width > 32 := by omega
      go_enter Try.func5, Try.ntmps5
      go_upto_region 1 with (refine wpList_boxRow rfl _ (.tmp 0) rfl cl rfl rfl ?_; intro w1 r1 b1 z1; clear z1; simp only [put_some, List.setIfInBounds_toArray, List.set_cons_succ, List.set_cons_zero])
      go_upto_region 8 with (first
        | (refine wpList_load_rg rfl _ (.tmp 4) rfl w.heap.size 0 rfl cl _ (fun j v hv => by rw [Nat.zero_add, (r1).cell]; exact hv) Try.underlying23 rfl (by rw [HCL.out]; exact sizeCf) ?_)
        | (go_at_call 6; refine (HSM.out _).mono ?_; rintro e w2 ⟨rfl, b2⟩; have r2 := r1.below' b2; have hb2 := b1.trans (b2.mono b1.size))
        | (refine wpList_load_rg rfl _ (.tmp 4) rfl w.heap.size 0 rfl cl _ (fun j v hv => by rw [Nat.zero_add, r2.cell]; exact hv) Try.underlying23 rfl (by rw [HCL.out]; exact sizeCf) ?_)
        | (go_at_call 13; refine (HNW.out _).mono ?_; rintro e w3 ⟨A3, c3, rfl, ra3, b3⟩; have hb3 := hb2.trans (b3.mono hb2.size); have r3 := r2.below' b3)
        | (refine wpList_load_rg rfl _ (.tmp 4) rfl w.heap.size 0 rfl cl _ (fun j v hv => by rw [Nat.zero_add, r3.cell]; exact hv) Try.underlying23 rfl (by rw [HCL.out]; exact sizeCf) ?_)
        | (go_at_call 15; refine (HGR.out _).mono ?_; rintro e w35 ⟨rfl, b35⟩)
        | (go_at_call 8; refine (HSA.out _).mono ?_; rintro e w4 ⟨rfl, b4⟩))
      have HCF := Lib.hid (r3.below' b35)
      have HB3 := Lib.hid (hb3.trans (b35.mono hb3.size))
      have HST : Hid (RAt w35 A3 N c3 (List.replicate N Str.free) ∧ Str.Bnd cf code width (List.replicate N Str.free) 0) := Lib.hid ⟨ra3.below b35, HV0.out⟩
      clear r1 b1 r2 b2 hb2 ra3 b3 hb3 r3 b35
      go_loopw [10, 13, 14, 15] (fun u10 u13 u14 _ wr => ∃ (i : Nat) (A' : Option Addr) (c' : Nat) (l : List Str.Rw) (pk : Int), i ≤ n ∧ u14 = .int .i64 (i : Int) ∧ u10 = .slice A' N c' ∧ u13 = .int .i64 pk ∧ 0 ≤ pk ∧ pk ≤ 4194304 ∧ Hid (RAt wr A' N c' l ∧ Str.Bnd cf code width l pk) ∧ Hid (Below w35.heap.size w35 wr)) (fun _ _ u14 _ _ => n - (intOf u14).toNat)
      case atStart => exact ⟨0, A3, c3, _, 0, Nat.zero_le _, rfl, rfl, rfl, by omega, by omega, HST, Lib.hid (Below.refl _ _)⟩
      case round =>
        obtain ⟨i, A', c', l, pk, hi, rfl, rfl, rfl, hpk0, hpk1, HS, HB⟩ := hrel
        by_cases hlt : i < n
        · have hil : i < L.length := by rw [HLN.out]; exact hlt
          obtain ⟨b, off, rfl, hbb, hrg⟩ := HRD.out.elem (f := sopL) (fun _ _ => rfl) hil hlt
          obtain ⟨o, ho⟩ : ∃ o, L[i] = o := ⟨_, rfl⟩
          rw [ho] at hrg
          have hbw := HB3.out.trans (HB.out.mono HB3.out.size)
          have HRG : Hid (∀ V, Below wr.heap.size wr V → V.rangeAt b (off + i * 6) (sopL o)) := Lib.hid fun V hV j v hv => ((hbw.trans (hV.mono hbw.size)).cell (p := ⟨b, off + i * 6 + j, none⟩) hbb).trans (hrg j v hv)
          have k1 : wr.cell? ⟨b, off + i * 6 + 1, none⟩ = some (.int .i64 o.code) := HRG.out wr (Below.refl _ _) 1 _ rfl
          have k2 : wr.cell? ⟨b, off + i * 6 + 2, none⟩ = some (.int .i64 o.width) := HRG.out wr (Below.refl _ _) 2 _ rfl
          have HPL := Lib.hid (fun (W : World) (hW : Below wr.heap.size wr W) => HPY.out W A' c' l (HS.out.1.below hW) HS.out.2.valid o)
          have HBP := Lib.hid (fun hab => Str.playL_bnd HS.out.2 o hab)
          obtain ⟨l', hl'⟩ : ∃ l', Str.playL cf l o = l' := ⟨_, rfl⟩
          rw [hl'] at HPL HBP
          obtain ⟨oc, hoc⟩ : ∃ y, o.code = y := ⟨_, rfl⟩
          obtain ⟨ow, how⟩ : ∃ y, o.width = y := ⟨_, rfl⟩
          rw [hoc] at k1
          rw [how] at k2
          rw [hoc, how] at HBP
          obtain ⟨ol, hol⟩ : ∃ y, sopL o = y := ⟨_, rfl⟩
          have HOL : Hid (ol.length = 6) := Lib.hid (by rw [← hol]; rfl)
          rw [hol] at HRG HPL
          have e1 : (0 : Int) ≤ (i : Int) := by omega
          have e2 : (i : Int) < (n : Int) := by omega
          clear ho hrg hbw hl' hol hbb hoc how
          by_cases hsk : oc = code ∧ ow ≠ width
          · have hq1 : (oc == code) = true := by simp [hsk.1]
            have hq2 : (ow != width) = true := by simp [hsk.2]
            clear hsk
            go_wp2_with fail
            go_roundw
            case rel => exact ⟨i + 1, A', c', l, pk, by omega, by go_num, rfl, rfl, hpk0, hpk1, HS, HB⟩
            case measure => simp [intOf]; omega
          · have hq : (oc == code) = false ∨ ((oc == code) = true ∧ (ow != width) = false) := by
              by_cases h1 : oc = code
              · have h2 : ow = width := Classical.byContradiction fun h2 => hsk ⟨h1, h2⟩
                exact .inr ⟨by simp [h1], by simp [h2]⟩
              · exact .inl (by simp [h1])
            have HBP2 := Lib.hid (HBP.out (fun h1 => Classical.byContradiction fun h2 => hsk ⟨h1, h2⟩))
            clear hsk HBP
            rcases hq with hq1 | ⟨hq1, hq2⟩
            · go_upto_region 11 with fail
              have hv0 : Below wr.heap.size wr wr.drew := (Below.refl _ _).drew
              refine wp_region_held_drew (S := fun W => Below wr.heap.size wr W) (by kernel_rfl) (hv0) (fun hHeld => ?_)
              refine wpAnyH_take (i := 0) (oi := { dst := some 68, op := Op.load 23 (Operand.tmp 4), type := 23, pos := "law.go:131", after := #[], guard := none }) (v := .agg cl.toArray) rfl (by kernel_rfl) (by kernel_rfl) (by kernel_rfl) (fun _ _ _ h => h) (yieldsIf_load_mid (by rfl) 23 (.tmp 4) rfl w.heap.size 0 rfl cl _ (fun V hV => fun j v hv => by rw [Nat.zero_add, (HCF.out.below' (HB.out.trans (hV.mono HB.out.size))).cell]; exact hv) Try.underlying23 rfl (by rw [HCL.out]; exact sizeCf)) (by assumption) ?_
              try simp only [Act.put, List.setIfInBounds_toArray, List.set_cons_zero, List.set_cons_succ]
              refine wpAnyH_take (i := 1) (oi := { dst := some 69, op := Op.move (Operand.tmp 10), type := 25, pos := "law.go:131", after := #[], guard := none }) (v := ?v1_1002) rfl (by kernel_rfl) (by kernel_rfl) (by kernel_rfl) (fun _ _ _ h => h) (Or.inl ⟨by rfl, ?h1_1002⟩) (by assumption) ?r1_1002
              case h1_1002 =>
                intro W hSW
                try dsimp only at hSW
                go_simp
                try with_reducible rfl
              try simp only [Act.put, List.setIfInBounds_toArray, List.set_cons_zero, List.set_cons_succ]
              refine wpAnyH_take (i := 2) (oi := { dst := some 70, op := Op.move (Operand.tmp 1), type := 44, pos := "law.go:131", after := #[], guard := none }) (v := ?v2_1003) rfl (by kernel_rfl) (by kernel_rfl) (by kernel_rfl) (fun _ _ _ h => h) (Or.inl ⟨by rfl, ?h2_1003⟩) (by assumption) ?r2_1003
              case h2_1003 =>
                intro W hSW
                try dsimp only at hSW
                go_simp
                try with_reducible rfl
              try simp only [Act.put, List.setIfInBounds_toArray, List.set_cons_zero, List.set_cons_succ]
              refine wpAnyH_take (i := 3) (oi := { dst := some 71, op := Op.move (Operand.tmp 14), type := 3, pos := "law.go:131", after := #[], guard := none }) (v := ?v3_1004) rfl (by kernel_rfl) (by kernel_rfl) (by kernel_rfl) (fun _ _ _ h => h) (Or.inl ⟨by rfl, ?h3_1004⟩) (by assumption) ?r3_1004
              case h3_1004 =>
                intro W hSW
                try dsimp only at hSW
                go_simp
                try with_reducible rfl
              try simp only [Act.put, List.setIfInBounds_toArray, List.set_cons_zero, List.set_cons_succ]
              refine wpAnyH_take (i := 4) (oi := { dst := some 72, op := Op.indexAddr 44 (Operand.tmp 70) (Operand.tmp 71), type := 0, pos := "law.go:131", after := #[{ on := 2, ground := Ground.data }, { on := 3, ground := Ground.data }], guard := none }) (v := ?v4_1005) rfl (by kernel_rfl) (by kernel_rfl) (by kernel_rfl) (fun _ _ _ h => h) (Or.inl ⟨by rfl, ?h4_1005⟩) (by assumption) ?r4_1005
              case h4_1005 =>
                intro W hSW
                try dsimp only at hSW
                go_simp
                try with_reducible rfl
              try simp only [Act.put, List.setIfInBounds_toArray, List.set_cons_zero, List.set_cons_succ]
              refine wpAnyH_take (i := 5) (oi := { dst := some 73, op := Op.load 48 (Operand.tmp 72), type := 48, pos := "law.go:131", after := #[{ on := 4, ground := Ground.data }], guard := none }) (v := .agg ol.toArray) rfl (by kernel_rfl) (by kernel_rfl) (by kernel_rfl) (fun _ _ _ h => h) (yieldsIf_load_mid (by rfl) 48 (.tmp 72) rfl b (off + i * 6) rfl ol _ (fun V hV => HRG.out V hV) Try.underlying48 rfl (by rw [HOL.out]; exact sizeOp)) (by assumption) ?_
              try simp only [Act.put, List.setIfInBounds_toArray, List.set_cons_zero, List.set_cons_succ]
              refine wpAnyH_ready (rs := [6]) (by kernel_rfl) (by simp) ?_
              refine AllReadyH.cons (o := { dst := some 74, op := Op.call { callee := Callee.value (Operand.func 14), args := #[Operand.tmp 68, Operand.tmp 69, Operand.tmp 73], argTypes := #[23, 25, 48] }, type := 25, pos := "law.go:131", after := #[{ on := 0, ground := Ground.data }, { on := 1, ground := Ground.data }, { on := 5, ground := Ground.data }], guard := none }) rfl (fun K hK => ?_) AllReadyH.nil
              go_simp
              go_at_call 14
              refine (HPL.out wr.drew hv0).mono ?_
              rintro e w30 ⟨A4, c4, rfl, ra4, b30⟩
              have hv30 : Below wr.heap.size wr w30 := hv0.trans (b30.mono hv0.size)
              have RA4 := Lib.hid ra4
              clear b30 ra4
              refine hK.out _ _ (hv30) (fun hHeld => ?_)
              clear hK K
              try simp only [Act.put, List.setIfInBounds_toArray, List.set_cons_zero, List.set_cons_succ]
              refine wpAnyH_take (i := 7) (oi := { dst := some 10, op := Op.assign (Operand.tmp 74), type := 25, pos := "law.go:131", after := #[{ on := 6, ground := Ground.data }, { on := 6, ground := Ground.chain }, { on := 0, ground := Ground.phase }, { on := 1, ground := Ground.phase }, { on := 2, ground := Ground.phase }, { on := 3, ground := Ground.phase }, { on := 4, ground := Ground.phase }, { on := 5, ground := Ground.phase }, { on := 6, ground := Ground.phase }], guard := none }) (v := ?v7_1007) rfl (by kernel_rfl) (by kernel_rfl) (by kernel_rfl) (fun _ _ _ h => h) (Or.inl ⟨by rfl, ?h7_1007⟩) (by assumption) ?r7_1007
              case h7_1007 =>
                intro W hSW
                try dsimp only at hSW
                go_simp
                try with_reducible rfl
              try simp only [Act.put, List.setIfInBounds_toArray, List.set_cons_zero, List.set_cons_succ]
              refine wpAnyH_done (by kernel_rfl) ?_ _
              have HBR := Lib.hid hv30
              obtain ⟨wn, hwn⟩ : ∃ y, w30 = y := ⟨_, rfl⟩
              rw [hwn] at HBR RA4 ⊢
              clear hv30 hHeld hwn
              have HBW := Lib.hid (HB.out.trans (HBR.out.mono HB.out.size))
              have HSTR := Lib.hid (fun (W : World) (hW : Below wn.heap.size wn W) => stripes_r (RA4.out.below hW) code)
              have HHE := Lib.hid (fun (W : World) (hW : Below wn.heap.size wn W) => held_r (RA4.out.below hW) code)
              have hm := Str.strs_len code l' 0
              have hmu := strs_small RA4.out.len RA4.out.most.1 HBP2.out.valid.small code 0
              have hmm := RA4.out.most.1
              have hBD := fun pk' (h : max pk (Str.tot l' code : Int) = pk') (h1 : 0 ≤ code) (h2 : 0 < Str.held l' code) => (h ▸ HBP2.out).bound h1 h2
              obtain ⟨M, hM⟩ : ∃ M, (Str.strs code l' 0).length = M := ⟨_, rfl⟩
              rw [hM] at HSTR hm hmu
              rw [← hm] at hBD
              have HBQ : Hid (∀ pk', max pk (M : Int) = pk' → Str.Bnd cf code width l' pk') := Lib.hid fun pk' h => by rw [← h, hm]; exact HBP2.out
              obtain ⟨E, hE⟩ : ∃ E, Str.held l' code = E := ⟨_, rfl⟩
              rw [hE] at HHE hBD
              have hg1 : G ≤ 64 := by
                rw [← HG.out]; unfold Str.grp
                split
                · rename_i hf
                  have hd := Str.Cfg.ok_d (by unfold Str.Cfg.fits at hf; simp only [Bool.and_eq_true] at hf; exact hf.1.1)
                  have := Int.tdiv_le_self width (show 0 ≤ cf.d - cf.sp by omega)
                  omega
                · omega
              rw [HG.out] at hBD
              have hml : M ≤ 4194304 := by omega
              have HBD := Lib.hid hBD
              have hEn : E ≤ 65536 := by rw [← hE]; unfold Str.held; exact Nat.le_trans List.countP_le_length (by rw [RA4.out.len]; exact hmm)
              clear hBD hm hmu hM hE k1 k2
              go_upto_region 13 with (go_at_call 16; refine (HSTR.out _ (Below.refl _ _)).mono ?_; rintro e w5 ⟨A5, c5, rfl, o5, b5⟩; clear o5)
              obtain ⟨pk', hpk⟩ : ∃ x, max pk (M : Int) = x := ⟨_, rfl⟩
              rw [hpk]
              have hp0 : 0 ≤ pk' := by omega
              have hp1 : pk' ≤ 4194304 := by omega
              have HBN := Lib.hid (HBQ.out pk' hpk)
              by_cases q1 : code < 0
              · clear hpk
                go_wp2_with (go_at_call 17; refine (HHE.out _ b5).mono ?_; rintro e w6 ⟨rfl, b6⟩)
                go_roundw
                case rel => exact ⟨i + 1, A4, c4, l', pk', by omega, by go_num, rfl, rfl, by omega, by omega, Lib.hid ⟨(RA4.out.below b5).below b6, HBN.out⟩, Lib.hid ((HBW.out.trans (b5.mono HBW.out.size)).trans (b6.mono (HBW.out.trans (b5.mono HBW.out.size)).size))⟩
                case measure => simp [intOf]; omega
              · by_cases q2 : E = 0
                · clear hpk
                  go_wp2_with (go_at_call 17; refine (HHE.out _ b5).mono ?_; rintro e w6 ⟨rfl, b6⟩)
                  go_roundw
                  case rel => exact ⟨i + 1, A4, c4, l', pk', by omega, by go_num, rfl, rfl, by omega, by omega, Lib.hid ⟨(RA4.out.below b5).below b6, HBN.out⟩, Lib.hid ((HBW.out.trans (b5.mono HBW.out.size)).trans (b6.mono (HBW.out.trans (b5.mono HBW.out.size)).size))⟩
                  case measure => simp [intOf]; omega
                · obtain ⟨g1, g2⟩ := HBD.out pk' hpk (by omega) (by omega)
                  clear hpk
                  have g3 : ¬ G < 1 := by omega
                  have g4 : ¬ (E : Int) > (pk' + G - 1) / G := by omega
                  have g5 : ¬ G = 0 := by omega
                  have g6 : (0 : Int) ≤ (pk' + G - 1) / G ∧ (pk' + G - 1) / G ≤ 4194400 := ⟨Int.ediv_nonneg (by omega) (by omega), Int.le_trans (Int.ediv_le_self _ (by omega)) (by omega)⟩
                  clear g2
                  go_wp2_with (go_at_call 17; refine (HHE.out _ b5).mono ?_; rintro e w6 ⟨rfl, b6⟩)
                  go_roundw
                  case rel => exact ⟨i + 1, A4, c4, l', pk', by omega, by go_num, rfl, rfl, by omega, by omega, Lib.hid ⟨(RA4.out.below b5).below b6, HBN.out⟩, Lib.hid ((HBW.out.trans (b5.mono HBW.out.size)).trans (b6.mono (HBW.out.trans (b5.mono HBW.out.size)).size))⟩
                  case measure => simp [intOf]; omega
            · go_upto_region 11 with fail
              have hv0 : Below wr.heap.size wr wr.drew := (Below.refl _ _).drew
              refine wp_region_held_drew (S := fun W => Below wr.heap.size wr W) (by kernel_rfl) (hv0) (fun hHeld => ?_)
              refine wpAnyH_take (i := 0) (oi := { dst := some 68, op := Op.load 23 (Operand.tmp 4), type := 23, pos := "law.go:131", after := #[], guard := none }) (v := .agg cl.toArray) rfl (by kernel_rfl) (by kernel_rfl) (by kernel_rfl) (fun _ _ _ h => h) (yieldsIf_load_mid (by rfl) 23 (.tmp 4) rfl w.heap.size 0 rfl cl _ (fun V hV => fun j v hv => by rw [Nat.zero_add, (HCF.out.below' (HB.out.trans (hV.mono HB.out.size))).cell]; exact hv) Try.underlying23 rfl (by rw [HCL.out]; exact sizeCf)) (by assumption) ?_
              try simp only [Act.put, List.setIfInBounds_toArray, List.set_cons_zero, List.set_cons_succ]
              refine wpAnyH_take (i := 1) (oi := { dst := some 69, op := Op.move (Operand.tmp 10), type := 25, pos := "law.go:131", after := #[], guard := none }) (v := ?v1_1102) rfl (by kernel_rfl) (by kernel_rfl) (by kernel_rfl) (fun _ _ _ h => h) (Or.inl ⟨by rfl, ?h1_1102⟩) (by assumption) ?r1_1102
              case h1_1102 =>
                intro W hSW
                try dsimp only at hSW
                go_simp
                try with_reducible rfl
              try simp only [Act.put, List.setIfInBounds_toArray, List.set_cons_zero, List.set_cons_succ]
              refine wpAnyH_take (i := 2) (oi := { dst := some 70, op := Op.move (Operand.tmp 1), type := 44, pos := "law.go:131", after := #[], guard := none }) (v := ?v2_1103) rfl (by kernel_rfl) (by kernel_rfl) (by kernel_rfl) (fun _ _ _ h => h) (Or.inl ⟨by rfl, ?h2_1103⟩) (by assumption) ?r2_1103
              case h2_1103 =>
                intro W hSW
                try dsimp only at hSW
                go_simp
                try with_reducible rfl
              try simp only [Act.put, List.setIfInBounds_toArray, List.set_cons_zero, List.set_cons_succ]
              refine wpAnyH_take (i := 3) (oi := { dst := some 71, op := Op.move (Operand.tmp 14), type := 3, pos := "law.go:131", after := #[], guard := none }) (v := ?v3_1104) rfl (by kernel_rfl) (by kernel_rfl) (by kernel_rfl) (fun _ _ _ h => h) (Or.inl ⟨by rfl, ?h3_1104⟩) (by assumption) ?r3_1104
              case h3_1104 =>
                intro W hSW
                try dsimp only at hSW
                go_simp
                try with_reducible rfl
              try simp only [Act.put, List.setIfInBounds_toArray, List.set_cons_zero, List.set_cons_succ]
              refine wpAnyH_take (i := 4) (oi := { dst := some 72, op := Op.indexAddr 44 (Operand.tmp 70) (Operand.tmp 71), type := 0, pos := "law.go:131", after := #[{ on := 2, ground := Ground.data }, { on := 3, ground := Ground.data }], guard := none }) (v := ?v4_1105) rfl (by kernel_rfl) (by kernel_rfl) (by kernel_rfl) (fun _ _ _ h => h) (Or.inl ⟨by rfl, ?h4_1105⟩) (by assumption) ?r4_1105
              case h4_1105 =>
                intro W hSW
                try dsimp only at hSW
                go_simp
                try with_reducible rfl
              try simp only [Act.put, List.setIfInBounds_toArray, List.set_cons_zero, List.set_cons_succ]
              refine wpAnyH_take (i := 5) (oi := { dst := some 73, op := Op.load 48 (Operand.tmp 72), type := 48, pos := "law.go:131", after := #[{ on := 4, ground := Ground.data }], guard := none }) (v := .agg ol.toArray) rfl (by kernel_rfl) (by kernel_rfl) (by kernel_rfl) (fun _ _ _ h => h) (yieldsIf_load_mid (by rfl) 48 (.tmp 72) rfl b (off + i * 6) rfl ol _ (fun V hV => HRG.out V hV) Try.underlying48 rfl (by rw [HOL.out]; exact sizeOp)) (by assumption) ?_
              try simp only [Act.put, List.setIfInBounds_toArray, List.set_cons_zero, List.set_cons_succ]
              refine wpAnyH_ready (rs := [6]) (by kernel_rfl) (by simp) ?_
              refine AllReadyH.cons (o := { dst := some 74, op := Op.call { callee := Callee.value (Operand.func 14), args := #[Operand.tmp 68, Operand.tmp 69, Operand.tmp 73], argTypes := #[23, 25, 48] }, type := 25, pos := "law.go:131", after := #[{ on := 0, ground := Ground.data }, { on := 1, ground := Ground.data }, { on := 5, ground := Ground.data }], guard := none }) rfl (fun K hK => ?_) AllReadyH.nil
              go_simp
              go_at_call 14
              refine (HPL.out wr.drew hv0).mono ?_
              rintro e w30 ⟨A4, c4, rfl, ra4, b30⟩
              have hv30 : Below wr.heap.size wr w30 := hv0.trans (b30.mono hv0.size)
              have RA4 := Lib.hid ra4
              clear b30 ra4
              refine hK.out _ _ (hv30) (fun hHeld => ?_)
              clear hK K
              try simp only [Act.put, List.setIfInBounds_toArray, List.set_cons_zero, List.set_cons_succ]
              refine wpAnyH_take (i := 7) (oi := { dst := some 10, op := Op.assign (Operand.tmp 74), type := 25, pos := "law.go:131", after := #[{ on := 6, ground := Ground.data }, { on := 6, ground := Ground.chain }, { on := 0, ground := Ground.phase }, { on := 1, ground := Ground.phase }, { on := 2, ground := Ground.phase }, { on := 3, ground := Ground.phase }, { on := 4, ground := Ground.phase }, { on := 5, ground := Ground.phase }, { on := 6, ground := Ground.phase }], guard := none }) (v := ?v7_1107) rfl (by kernel_rfl) (by kernel_rfl) (by kernel_rfl) (fun _ _ _ h => h) (Or.inl ⟨by rfl, ?h7_1107⟩) (by assumption) ?r7_1107
              case h7_1107 =>
                intro W hSW
                try dsimp only at hSW
                go_simp
                try with_reducible rfl
              try simp only [Act.put, List.setIfInBounds_toArray, List.set_cons_zero, List.set_cons_succ]
              refine wpAnyH_done (by kernel_rfl) ?_ _
              have HBR := Lib.hid hv30
              obtain ⟨wn, hwn⟩ : ∃ y, w30 = y := ⟨_, rfl⟩
              rw [hwn] at HBR RA4 ⊢
              clear hv30 hHeld hwn
              have HBW := Lib.hid (HB.out.trans (HBR.out.mono HB.out.size))
              have HSTR := Lib.hid (fun (W : World) (hW : Below wn.heap.size wn W) => stripes_r (RA4.out.below hW) code)
              have HHE := Lib.hid (fun (W : World) (hW : Below wn.heap.size wn W) => held_r (RA4.out.below hW) code)
              have hm := Str.strs_len code l' 0
              have hmu := strs_small RA4.out.len RA4.out.most.1 HBP2.out.valid.small code 0
              have hmm := RA4.out.most.1
              have hBD := fun pk' (h : max pk (Str.tot l' code : Int) = pk') (h1 : 0 ≤ code) (h2 : 0 < Str.held l' code) => (h ▸ HBP2.out).bound h1 h2
              obtain ⟨M, hM⟩ : ∃ M, (Str.strs code l' 0).length = M := ⟨_, rfl⟩
              rw [hM] at HSTR hm hmu
              rw [← hm] at hBD
              have HBQ : Hid (∀ pk', max pk (M : Int) = pk' → Str.Bnd cf code width l' pk') := Lib.hid fun pk' h => by rw [← h, hm]; exact HBP2.out
              obtain ⟨E, hE⟩ : ∃ E, Str.held l' code = E := ⟨_, rfl⟩
              rw [hE] at HHE hBD
              have hg1 : G ≤ 64 := by
                rw [← HG.out]; unfold Str.grp
                split
                · rename_i hf
                  have hd := Str.Cfg.ok_d (by unfold Str.Cfg.fits at hf; simp only [Bool.and_eq_true] at hf; exact hf.1.1)
                  have := Int.tdiv_le_self width (show 0 ≤ cf.d - cf.sp by omega)
                  omega
                · omega
              rw [HG.out] at hBD
              have hml : M ≤ 4194304 := by omega
              have HBD := Lib.hid hBD
              have hEn : E ≤ 65536 := by rw [← hE]; unfold Str.held; exact Nat.le_trans List.countP_le_length (by rw [RA4.out.len]; exact hmm)
              clear hBD hm hmu hM hE k1 k2
              go_upto_region 13 with (go_at_call 16; refine (HSTR.out _ (Below.refl _ _)).mono ?_; rintro e w5 ⟨A5, c5, rfl, o5, b5⟩; clear o5)
              obtain ⟨pk', hpk⟩ : ∃ x, max pk (M : Int) = x := ⟨_, rfl⟩
              rw [hpk]
              have hp0 : 0 ≤ pk' := by omega
              have hp1 : pk' ≤ 4194304 := by omega
              have HBN := Lib.hid (HBQ.out pk' hpk)
              by_cases q1 : code < 0
              · clear hpk
                go_wp2_with (go_at_call 17; refine (HHE.out _ b5).mono ?_; rintro e w6 ⟨rfl, b6⟩)
                go_roundw
                case rel => exact ⟨i + 1, A4, c4, l', pk', by omega, by go_num, rfl, rfl, by omega, by omega, Lib.hid ⟨(RA4.out.below b5).below b6, HBN.out⟩, Lib.hid ((HBW.out.trans (b5.mono HBW.out.size)).trans (b6.mono (HBW.out.trans (b5.mono HBW.out.size)).size))⟩
                case measure => simp [intOf]; omega
              · by_cases q2 : E = 0
                · clear hpk
                  go_wp2_with (go_at_call 17; refine (HHE.out _ b5).mono ?_; rintro e w6 ⟨rfl, b6⟩)
                  go_roundw
                  case rel => exact ⟨i + 1, A4, c4, l', pk', by omega, by go_num, rfl, rfl, by omega, by omega, Lib.hid ⟨(RA4.out.below b5).below b6, HBN.out⟩, Lib.hid ((HBW.out.trans (b5.mono HBW.out.size)).trans (b6.mono (HBW.out.trans (b5.mono HBW.out.size)).size))⟩
                  case measure => simp [intOf]; omega
                · obtain ⟨g1, g2⟩ := HBD.out pk' hpk (by omega) (by omega)
                  clear hpk
                  have g3 : ¬ G < 1 := by omega
                  have g4 : ¬ (E : Int) > (pk' + G - 1) / G := by omega
                  have g5 : ¬ G = 0 := by omega
                  have g6 : (0 : Int) ≤ (pk' + G - 1) / G ∧ (pk' + G - 1) / G ≤ 4194400 := ⟨Int.ediv_nonneg (by omega) (by omega), Int.le_trans (Int.ediv_le_self _ (by omega)) (by omega)⟩
                  clear g2
                  go_wp2_with (go_at_call 17; refine (HHE.out _ b5).mono ?_; rintro e w6 ⟨rfl, b6⟩)
                  go_roundw
                  case rel => exact ⟨i + 1, A4, c4, l', pk', by omega, by go_num, rfl, rfl, by omega, by omega, Lib.hid ⟨(RA4.out.below b5).below b6, HBN.out⟩, Lib.hid ((HBW.out.trans (b5.mono HBW.out.size)).trans (b6.mono (HBW.out.trans (b5.mono HBW.out.size)).size))⟩
                  case measure => simp [intOf]; omega
        · obtain rfl : i = n := by omega
          go_wp2_with (go_at_call 8; refine (HSA.out _).mono ?_; rintro e w4 ⟨rfl, b4⟩)
          go_ret
          have hbw := HB3.out.trans (HB.out.mono HB3.out.size)
          exact ⟨rfl, hbw.trans (b4.mono hbw.size)⟩
    · have hc : F = false ∨ (F = true ∧ ¬ n ≤ 60) ∨ (F = true ∧ n ≤ 60 ∧ width < 1) ∨ (F = true ∧ n ≤ 60 ∧ ¬ width < 1 ∧ width > 32) := by
        cases F
        · exact .inl rfl
        · by_cases h1 : n ≤ 60
          · by_cases h2 : width < 1
            · exact .inr (.inr (.inl ⟨rfl, h1, h2⟩))
            · by_cases h3 : width > 32
              · exact .inr (.inr (.inr ⟨rfl, h1, h2, h3⟩))
              · exact absurd ⟨rfl, h1, by omega, by omega⟩ hgo
          · exact .inr (.inl ⟨rfl, h1⟩)
      clear hgo
      rcases hc with rfl | ⟨rfl, hn60⟩ | ⟨rfl, hn60, hw1⟩ | ⟨rfl, hn60, hw1, hw2⟩
      all_goals
        go_enter Try.func5, Try.ntmps5
        go_upto_region 1 with (refine wpList_boxRow rfl _ (.tmp 0) rfl cl rfl rfl ?_; intro w1 r1 b1 z1; clear z1; simp only [put_some, List.setIfInBounds_toArray, List.set_cons_succ, List.set_cons_zero])
        go_wp2_with (first
          | (refine wpList_load_rg rfl _ (.tmp 4) rfl w.heap.size 0 rfl cl _ (fun j v hv => by rw [Nat.zero_add, (r1).cell]; exact hv) Try.underlying23 rfl (by rw [HCL.out]; exact sizeCf) ?_)
          | (go_at_call 6; refine (HSM.out _).mono ?_; rintro e w2 ⟨rfl, b2⟩; have r2 := r1.below' b2; have hb2 := b1.trans (b2.mono b1.size))
          | (refine wpList_load_rg rfl _ (.tmp 4) rfl w.heap.size 0 rfl cl _ (fun j v hv => by rw [Nat.zero_add, r2.cell]; exact hv) Try.underlying23 rfl (by rw [HCL.out]; exact sizeCf) ?_)
          | (go_at_call 13; refine (HNW.out _).mono ?_; rintro e w3 ⟨A3, c3, rfl, ra3, b3⟩; have hb3 := hb2.trans (b3.mono hb2.size); have r3 := r2.below' b3)
          | (refine wpList_load_rg rfl _ (.tmp 4) rfl w.heap.size 0 rfl cl _ (fun j v hv => by rw [Nat.zero_add, r3.cell]; exact hv) Try.underlying23 rfl (by rw [HCL.out]; exact sizeCf) ?_)
          | (go_at_call 15; refine (HGR.out _).mono ?_; rintro e w35 ⟨rfl, b35⟩)
          | (go_at_call 8; refine (HSA.out _).mono ?_; rintro e w4 ⟨rfl, b4⟩))
        go_ret
        exact ⟨rfl, hb3.trans (b4.mono hb3.size)⟩
end Go.Proofs.Ytcmgnjdhjnclkaa.S
