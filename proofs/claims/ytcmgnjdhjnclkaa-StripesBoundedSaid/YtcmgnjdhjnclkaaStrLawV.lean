/- StripesStayValid: its walk. Conditions: the script lies in memory. -/
import Derived.Test.YtcmgnjdhjnclkaaStrPl
import Derived.Test.YtcmgnjdhjnclkaaStrSan
namespace Go.Proofs.Ytcmgnjdhjnclkaa.S
set_option linter.unusedVariables false
set_option linter.unusedSimpArgs false
open Go.RowKit
theorem new_cases (cf : Str.Cfg) (w : World) : (cf.ok = false ∧ ∀ W : World, Calls Try.prog 13 #[cfV cf] W fun e w' => e = .returned (.tuple #[.slice none 0 0, .int .i64 1]) ∧ Below W.heap.size W w') ∨
    (cf.ok = true ∧ ∀ W : World, Calls Try.prog 13 #[cfV cf] W fun e w' => ∃ A c, e = .returned (.tuple #[.slice A cf.rows.toNat c, .int .i64 0]) ∧ RAt w' A cf.rows.toNat c (List.replicate cf.rows.toNat Str.free) ∧ Below W.heap.size W w') := by
  by_cases h : cf.ok = true
  · refine .inr ⟨h, fun W => (new_any cf W).mono fun e w' h' => ?_⟩
    unfold NewIs at h'
    rw [if_pos h] at h'
    obtain ⟨A, c, E, he, ho, hb⟩ := h'
    exact ⟨A, c, he, .of_own ho, hb⟩
  · refine .inl ⟨by simpa using h, fun W => (new_any cf W).mono fun e w' h' => ?_⟩
    unfold NewIs at h'
    rw [if_neg h] at h'
    exact h'
theorem Str.free_valid {cf : Str.Cfg} (h : cf.ok = true) : Str.Valid cf (List.replicate cf.rows.toNat Str.free) := by
  have hd := (Str.Cfg.ok_d h).2.2
  refine ⟨h, by rw [List.length_replicate]; omega, fun r hr => ?_, fun r hr s hs _ => ?_⟩
  · rw [List.eq_of_mem_replicate hr]; exact ⟨.inl rfl⟩
  · rw [List.eq_of_mem_replicate hr, List.eq_of_mem_replicate hs]
set_option maxRecDepth 100000 in
set_option maxHeartbeats 6400000 in
theorem lawStayValid (cf : Str.Cfg) (A : Option Addr) (n c : Nat) (L : List Str.SOp) (hL : L.length = n) (hnc : n ≤ c) (hcc : c ≤ 140737488355328) (w : World) (hrd : Rd w w.heap.size 6 A n (L.flatMap sopL)) :
    Calls Try.prog 4 #[cfV cf, .slice A n c] w fun e w' => e = .returned (.bool true) ∧ Below w.heap.size w w' := by
  have HRD := Lib.hid hrd
  have HLN := Lib.hid hL
  have HSA := Lib.hid (fun W => sanity_any W)
  have HSM := Lib.hid (fun W => small_any cf W)
  have hnn := new_cases cf w
  obtain ⟨F, hF⟩ : ∃ F, Str.small cf = F := ⟨_, rfl⟩
  rw [hF] at HSM
  have HCV : Hid (cfV cf = .agg (cfL cf).toArray) := Lib.hid rfl
  have HCL : Hid ((cfL cf).length = 6) := Lib.hid rfl
  have HRV := Lib.hid (fun (W : World) (A : Option Addr) (c : Nat) (l : List Str.Rw) (h : RAt W A cf.rows.toNat c l) (hv : Str.Valid cf l) => (rvalid_r h cf).mono (R' := fun e w' => e = .returned (.bool true) ∧ Below W.heap.size W w') fun e w' ⟨he, hb⟩ => ⟨by rw [he, Str.validB_iff.2 hv], hb⟩)
  have HPY := Lib.hid (fun (W : World) (A : Option Addr) (c : Nat) (l : List Str.Rw) (h : RAt W A cf.rows.toNat c l) (hv : Str.Valid cf l) (o : Str.SOp) => play_any cf h hv o)
  rw [HCV.out] at HSM HRV HPY hnn ⊢
  obtain ⟨N, hN⟩ : ∃ N, cf.rows.toNat = N := ⟨_, rfl⟩
  rw [hN] at hnn HRV HPY
  have HN := Lib.hid hN
  obtain ⟨cl, hcl⟩ : ∃ y, cfL cf = y := ⟨_, rfl⟩
  rw [hcl] at HSM HCL HRV HPY hnn ⊢
  clear hcl hF hN hrd hL
  rcases hnn with ⟨hok, hnw⟩ | ⟨hok, hnw⟩
  · have HNW := Lib.hid hnw
    clear hok hnw
    cases F
    all_goals
      go_enter Try.func4, Try.ntmps4
      go_upto_region 1 with (refine wpList_boxRow rfl _ (.tmp 0) rfl cl rfl rfl ?_; intro w1 r1 b1 z1; clear z1; simp only [put_some, List.setIfInBounds_toArray, List.set_cons_succ, List.set_cons_zero])
      go_wp2_with (first
        | (refine wpList_load_rg rfl _ (.tmp 2) rfl w.heap.size 0 rfl cl _ (fun j v hv => by rw [Nat.zero_add, (r1).cell]; exact hv) Try.underlying23 rfl (by rw [HCL.out]; exact sizeCf) ?_)
        | (go_at_call 6; refine (HSM.out _).mono ?_; rintro e w2 ⟨rfl, b2⟩; have r2 := r1.below' b2; have hb2 := b1.trans (b2.mono b1.size))
        | (refine wpList_load_rg rfl _ (.tmp 2) rfl w.heap.size 0 rfl cl _ (fun j v hv => by rw [Nat.zero_add, r2.cell]; exact hv) Try.underlying23 rfl (by rw [HCL.out]; exact sizeCf) ?_)
        | (go_at_call 13; refine (HNW.out _).mono ?_; rintro e w3 ⟨rfl, b3⟩; have hb3 := hb2.trans (b3.mono hb2.size))
        | (go_at_call 8; refine (HSA.out _).mono ?_; rintro e w4 ⟨rfl, b4⟩))
      go_ret
      exact ⟨rfl, hb3.trans (b4.mono hb3.size)⟩
  · have HNW := Lib.hid hnw
    have HV0 := Lib.hid (Str.free_valid hok)
    rw [HN.out] at HV0
    clear hok hnw
    by_cases hgo : F = true ∧ n ≤ 60
    · obtain ⟨rfl, hn60⟩ := hgo
      go_enter Try.func4, Try.ntmps4
      go_upto_region 1 with (refine wpList_boxRow rfl _ (.tmp 0) rfl cl rfl rfl ?_; intro w1 r1 b1 z1; clear z1; simp only [put_some, List.setIfInBounds_toArray, List.set_cons_succ, List.set_cons_zero])
      go_upto_region 6 with (first
        | (refine wpList_load_rg rfl _ (.tmp 2) rfl w.heap.size 0 rfl cl _ (fun j v hv => by rw [Nat.zero_add, (r1).cell]; exact hv) Try.underlying23 rfl (by rw [HCL.out]; exact sizeCf) ?_)
        | (go_at_call 6; refine (HSM.out _).mono ?_; rintro e w2 ⟨rfl, b2⟩; have r2 := r1.below' b2; have hb2 := b1.trans (b2.mono b1.size))
        | (refine wpList_load_rg rfl _ (.tmp 2) rfl w.heap.size 0 rfl cl _ (fun j v hv => by rw [Nat.zero_add, r2.cell]; exact hv) Try.underlying23 rfl (by rw [HCL.out]; exact sizeCf) ?_)
        | (go_at_call 13; refine (HNW.out _).mono ?_; rintro e w3 ⟨A3, c3, rfl, ra3, b3⟩; have hb3 := hb2.trans (b3.mono hb2.size)))
      have HCF := Lib.hid (r2.below' b3)
      have HB3 := Lib.hid hb3
      have HST : Hid (RAt w3 A3 N c3 (List.replicate N Str.free) ∧ Str.Valid cf (List.replicate N Str.free)) := Lib.hid ⟨ra3, HV0.out⟩
      clear r1 b1 r2 b2 hb2 ra3 b3 hb3
      go_loopw [6, 8, 9] (fun u6 u8 _ wr => ∃ (i : Nat) (A' : Option Addr) (c' : Nat) (l : List Str.Rw), i ≤ n ∧ u8 = .int .i64 (i : Int) ∧ u6 = .slice A' N c' ∧ Hid (RAt wr A' N c' l ∧ Str.Valid cf l) ∧ Hid (Below w3.heap.size w3 wr)) (fun _ u8 _ _ => n - (intOf u8).toNat)
      case atStart => exact ⟨0, A3, c3, _, Nat.zero_le _, rfl, rfl, HST, Lib.hid (Below.refl _ _)⟩
      case round =>
        obtain ⟨i, A', c', l, hi, rfl, rfl, HS, HB⟩ := hrel
        by_cases hlt : i < n
        · have hil : i < L.length := by rw [HLN.out]; exact hlt
          obtain ⟨b, off, rfl, hbb, hrg⟩ := HRD.out.elem (f := sopL) (fun _ _ => rfl) hil hlt
          obtain ⟨o, ho⟩ : ∃ o, L[i] = o := ⟨_, rfl⟩
          rw [ho] at hrg
          have hbw := HB3.out.trans (HB.out.mono HB3.out.size)
          have HRG : Hid (∀ V, Below wr.heap.size wr V → V.rangeAt b (off + i * 6) (sopL o)) := Lib.hid fun V hV j v hv => ((hbw.trans (hV.mono hbw.size)).cell (p := ⟨b, off + i * 6 + j, none⟩) hbb).trans (hrg j v hv)
          have HPL := Lib.hid (fun (W : World) (hW : Below wr.heap.size wr W) => HPY.out W A' c' l (HS.out.1.below hW) HS.out.2 o)
          have HVN := Lib.hid (Str.playL_valid HS.out.2 o)
          obtain ⟨l', hl'⟩ : ∃ l', Str.playL cf l o = l' := ⟨_, rfl⟩
          rw [hl'] at HPL HVN
          obtain ⟨ol, hol⟩ : ∃ y, sopL o = y := ⟨_, rfl⟩
          have HOL : Hid (ol.length = 6) := Lib.hid (by rw [← hol]; rfl)
          rw [hol] at HRG HPL
          have e1 : (0 : Int) ≤ (i : Int) := by omega
          have e2 : (i : Int) < (n : Int) := by omega
          clear ho hrg hbw hl' hol hbb
          go_upto_region 8 with fail
          have hv0 : Below wr.heap.size wr wr.drew := (Below.refl _ _).drew
          refine wp_region_held_drew (S := fun W => Below wr.heap.size wr W) (by kernel_rfl) (hv0) (fun hHeld => ?_)
          refine wpAnyH_take (i := 0) (oi := { dst := some 35, op := Op.load 23 (Operand.tmp 2), type := 23, pos := "law.go:109", after := #[], guard := none }) (v := .agg cl.toArray) rfl (by kernel_rfl) (by kernel_rfl) (by kernel_rfl) (fun _ _ _ h => h) (yieldsIf_load_mid (by rfl) 23 (.tmp 2) rfl w.heap.size 0 rfl cl _ (fun V hV => fun j v hv => by rw [Nat.zero_add, (HCF.out.below' (HB.out.trans (hV.mono HB.out.size))).cell]; exact hv) Try.underlying23 rfl (by rw [HCL.out]; exact sizeCf)) (by assumption) ?_
          try simp only [Act.put, List.setIfInBounds_toArray, List.set_cons_zero, List.set_cons_succ]
          refine wpAnyH_take (i := 1) (oi := { dst := some 36, op := Op.move (Operand.tmp 6), type := 25, pos := "law.go:109", after := #[], guard := none }) (v := ?v1_802) rfl (by kernel_rfl) (by kernel_rfl) (by kernel_rfl) (fun _ _ _ h => h) (Or.inl ⟨by rfl, ?h1_802⟩) (by assumption) ?r1_802
          case h1_802 =>
            intro W hSW
            try dsimp only at hSW
            go_simp
            try with_reducible rfl
          try simp only [Act.put, List.setIfInBounds_toArray, List.set_cons_zero, List.set_cons_succ]
          refine wpAnyH_take (i := 2) (oi := { dst := some 37, op := Op.move (Operand.tmp 1), type := 44, pos := "law.go:109", after := #[], guard := none }) (v := ?v2_803) rfl (by kernel_rfl) (by kernel_rfl) (by kernel_rfl) (fun _ _ _ h => h) (Or.inl ⟨by rfl, ?h2_803⟩) (by assumption) ?r2_803
          case h2_803 =>
            intro W hSW
            try dsimp only at hSW
            go_simp
            try with_reducible rfl
          try simp only [Act.put, List.setIfInBounds_toArray, List.set_cons_zero, List.set_cons_succ]
          refine wpAnyH_take (i := 3) (oi := { dst := some 38, op := Op.move (Operand.tmp 8), type := 3, pos := "law.go:109", after := #[], guard := none }) (v := ?v3_804) rfl (by kernel_rfl) (by kernel_rfl) (by kernel_rfl) (fun _ _ _ h => h) (Or.inl ⟨by rfl, ?h3_804⟩) (by assumption) ?r3_804
          case h3_804 =>
            intro W hSW
            try dsimp only at hSW
            go_simp
            try with_reducible rfl
          try simp only [Act.put, List.setIfInBounds_toArray, List.set_cons_zero, List.set_cons_succ]
          refine wpAnyH_take (i := 4) (oi := { dst := some 39, op := Op.indexAddr 44 (Operand.tmp 37) (Operand.tmp 38), type := 0, pos := "law.go:109", after := #[{ on := 2, ground := Ground.data }, { on := 3, ground := Ground.data }], guard := none }) (v := ?v4_805) rfl (by kernel_rfl) (by kernel_rfl) (by kernel_rfl) (fun _ _ _ h => h) (Or.inl ⟨by rfl, ?h4_805⟩) (by assumption) ?r4_805
          case h4_805 =>
            intro W hSW
            try dsimp only at hSW
            go_simp
            try with_reducible rfl
          try simp only [Act.put, List.setIfInBounds_toArray, List.set_cons_zero, List.set_cons_succ]
          refine wpAnyH_take (i := 5) (oi := { dst := some 40, op := Op.load 48 (Operand.tmp 39), type := 48, pos := "law.go:109", after := #[{ on := 4, ground := Ground.data }], guard := none }) (v := .agg ol.toArray) rfl (by kernel_rfl) (by kernel_rfl) (by kernel_rfl) (fun _ _ _ h => h) (yieldsIf_load_mid (by rfl) 48 (.tmp 39) rfl b (off + i * 6) rfl ol _ (fun V hV => HRG.out V hV) Try.underlying48 rfl (by rw [HOL.out]; exact sizeOp)) (by assumption) ?_
          try simp only [Act.put, List.setIfInBounds_toArray, List.set_cons_zero, List.set_cons_succ]
          refine wpAnyH_ready (rs := [6]) (by kernel_rfl) (by simp) ?_
          refine AllReadyH.cons (o := { dst := some 41, op := Op.call { callee := Callee.value (Operand.func 14), args := #[Operand.tmp 35, Operand.tmp 36, Operand.tmp 40], argTypes := #[23, 25, 48] }, type := 25, pos := "law.go:109", after := #[{ on := 0, ground := Ground.data }, { on := 1, ground := Ground.data }, { on := 5, ground := Ground.data }], guard := none }) rfl (fun K hK => ?_) AllReadyH.nil
          go_simp
          go_at_call 14
          refine (HPL.out wr.drew hv0).mono ?_
          rintro e w30 ⟨A4, c4, rfl, ra4, b30⟩
          have hv30 : Below wr.heap.size wr w30 := hv0.trans (b30.mono hv0.size)
          have RA4 := Lib.hid ra4
          clear b30 ra4
          refine hK.out _ _ (hv30) (fun hHeld => ?_)
          clear hK K
          try simp only [Act.put, List.setIfInBounds_toArray, List.set_cons_zero, List.set_cons_succ]
          refine wpAnyH_take (i := 7) (oi := { dst := some 6, op := Op.assign (Operand.tmp 41), type := 25, pos := "law.go:109", after := #[{ on := 6, ground := Ground.data }, { on := 6, ground := Ground.chain }, { on := 0, ground := Ground.phase }, { on := 1, ground := Ground.phase }, { on := 2, ground := Ground.phase }, { on := 3, ground := Ground.phase }, { on := 4, ground := Ground.phase }, { on := 5, ground := Ground.phase }, { on := 6, ground := Ground.phase }], guard := none }) (v := ?v7_807) rfl (by kernel_rfl) (by kernel_rfl) (by kernel_rfl) (fun _ _ _ h => h) (Or.inl ⟨by rfl, ?h7_807⟩) (by assumption) ?r7_807
          case h7_807 =>
            intro W hSW
            try dsimp only at hSW
            go_simp
            try with_reducible rfl
          try simp only [Act.put, List.setIfInBounds_toArray, List.set_cons_zero, List.set_cons_succ]
          refine wpAnyH_done (by kernel_rfl) ?_ _
          have HBR := Lib.hid hv30
          obtain ⟨wn, hwn⟩ : ∃ y, w30 = y := ⟨_, rfl⟩
          rw [hwn] at HBR RA4 ⊢
          clear hv30 hHeld hwn
          have HBW := Lib.hid (HB.out.trans (HBR.out.mono HB.out.size))
          have rcn := HCF.out.below' HBW.out
          go_wp2_with (first
            | (refine wpList_load_rg rfl _ (.tmp 2) rfl w.heap.size 0 rfl cl _ (fun j v hv => by rw [Nat.zero_add, rcn.cell]; exact hv) Try.underlying23 rfl (by rw [HCL.out]; exact sizeCf) ?_)
            | (go_at_call 7; refine (HRV.out _ _ _ _ RA4.out HVN.out).mono ?_; rintro e w5 ⟨rfl, b5⟩))
          go_roundw
          case rel => exact ⟨i + 1, A4, c4, l', by omega, by go_num, rfl, Lib.hid ⟨RA4.out.below b5, HVN.out⟩, Lib.hid (HBW.out.trans (b5.mono HBW.out.size))⟩
          case measure => simp [intOf]; omega
        · obtain rfl : i = n := by omega
          go_wp2_with (go_at_call 8; refine (HSA.out _).mono ?_; rintro e w4 ⟨rfl, b4⟩)
          go_ret
          have hbw := HB3.out.trans (HB.out.mono HB3.out.size)
          exact ⟨rfl, hbw.trans (b4.mono hbw.size)⟩
    · have hc : F = false ∨ (F = true ∧ ¬ n ≤ 60) := by
        cases F
        · exact .inl rfl
        · exact .inr ⟨rfl, fun h => hgo ⟨rfl, h⟩⟩
      clear hgo
      rcases hc with rfl | ⟨rfl, hn60⟩
      all_goals
        go_enter Try.func4, Try.ntmps4
        go_upto_region 1 with (refine wpList_boxRow rfl _ (.tmp 0) rfl cl rfl rfl ?_; intro w1 r1 b1 z1; clear z1; simp only [put_some, List.setIfInBounds_toArray, List.set_cons_succ, List.set_cons_zero])
        go_wp2_with (first
          | (refine wpList_load_rg rfl _ (.tmp 2) rfl w.heap.size 0 rfl cl _ (fun j v hv => by rw [Nat.zero_add, (r1).cell]; exact hv) Try.underlying23 rfl (by rw [HCL.out]; exact sizeCf) ?_)
          | (go_at_call 6; refine (HSM.out _).mono ?_; rintro e w2 ⟨rfl, b2⟩; have r2 := r1.below' b2; have hb2 := b1.trans (b2.mono b1.size))
          | (refine wpList_load_rg rfl _ (.tmp 2) rfl w.heap.size 0 rfl cl _ (fun j v hv => by rw [Nat.zero_add, r2.cell]; exact hv) Try.underlying23 rfl (by rw [HCL.out]; exact sizeCf) ?_)
          | (go_at_call 13; refine (HNW.out _).mono ?_; rintro e w3 ⟨A3, c3, rfl, ra3, b3⟩; have hb3 := hb2.trans (b3.mono hb2.size))
          | (go_at_call 8; refine (HSA.out _).mono ?_; rintro e w4 ⟨rfl, b4⟩))
        go_ret
        exact ⟨rfl, hb3.trans (b4.mono hb3.size)⟩
end Go.Proofs.Ytcmgnjdhjnclkaa.S
