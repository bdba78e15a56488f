/- digest.VerifyPrefix: a walk of its text. -/
import Derived.Test.YtfnbcchmembomaaDoorPrefP
import Derived.Test.YtfnbcchmembomaaDoorVerify
import Derived.Test.YtfnbcchmembomaaDoorHeld2
namespace Go.Proofs.YtfnbcchmembomaaDoor
set_option linter.unusedVariables false
set_option linter.unusedSimpArgs false
open Go.RowKit
theorem grown_l_drew {a w : World} {row : Option Nat} (h : a.drew.grownBy w row) : a.grownBy w row := ⟨h.os, h.tape, h.output, h.size, h.block⟩
theorem ne_some {g b : Nat} (h : g < b) : some g ≠ some b := fun e => by have := Option.some.inj e; omega
theorem digE : ElemT Tryd.prog 34 30 (.agg (List.replicate 16 (Value.int .u8 0)).toArray) 16 16 := ⟨Tryd.underlying34, by kernel_rfl, by rfl, by decide, by decide⟩
set_option maxRecDepth 100000 in
set_option maxHeartbeats 1000000 in
theorem vpre_out (n m : Int) (hi : m < 1 ∨ n < m) (old r : List UInt8) (P : Value) (w : World) :
    Calls Tryd.prog 28 #[dv old, dv r, .int .i64 m, .int .i64 n, P] w fun e w' => e = .returned (.bool false) ∧ Below w.heap.size w w' := by
  have hbw : Below w.heap.size w ((w.alloc (.cells (bvs old).toArray 30)).alloc (.cells (bvs r).toArray 30)) := ((Below.refl _ w).alloc (Nat.le_refl _) _).alloc (by rw [alloc_size1]; omega) _
  by_cases h0 : m < 1
  · go_enter Tryd.func28, Tryd.ntmps28
    go_wp2
    exact bodyPost_ret (results_tmp rfl _ _ _) rfl ⟨rfl, hbw⟩
  · have h1 : n < m := by omega
    go_enter Tryd.func28, Tryd.ntmps28
    go_wp2
    exact bodyPost_ret (results_tmp rfl _ _ _) rfl ⟨rfl, hbw⟩
set_option maxRecDepth 100000 in
set_option maxHeartbeats 4000000 in
theorem vpre_in (n m : Nat) (hm1 : 1 ≤ m) (hmn : m ≤ n) (hn : n ≤ 9223372036854775807) (old r : List UInt8) (ho : old.length = 16) (hr : r.length = 16) (A : Option Addr) (pl c : Nat) (hpc : pl ≤ c) (hcm : c ≤ maxLen) (proof : List (List UInt8)) (hpl : proof.length = pl) (hp : D16 proof) (B : Nat) (w : World) (hrd : Rd w B 16 A pl (dvs proof)) (hB : B ≤ w.heap.size) (hT : Tabs w) :
    Calls Tryd.prog 28 #[dv old, dv r, .int .i64 (m : Int), .int .i64 (n : Int), .slice A pl c] w fun e w' => e = .returned (.bool (Mk.verifyN old r m n proof)) ∧ Below w.heap.size w w' := by
  obtain ⟨W0, hW0⟩ : ∃ W0, ((w.alloc (.cells (bvs old).toArray 30)).alloc (.cells (bvs r).toArray 30)) = W0 := ⟨_, rfl⟩
  have h2 := rows2 w 30 30 (bvs old) (bvs r)
  rw [hW0] at h2
  have r5 := h2.1
  have r6 := h2.2
  have hbW : Below w.heap.size w W0 := by rw [← hW0]; exact ((Below.refl _ w).alloc (Nat.le_refl _) _).alloc (by rw [alloc_size1]; omega) _
  have HWS : Hid (W0.heap.size = w.heap.size + 2) := Lib.hid (by rw [← hW0]; simp)
  have HT0 := Lib.hid (hT.below hbW)
  have rdW : Rd W0 W0.heap.size 16 A pl (dvs proof) := ((hrd.more hB).below hbW).more hbW.size
  have h63 := Mk.sideD_63 n m true hn hm1
  have HPRL := Lib.hid hpl
  have HPD := Lib.hid hp
  have HO16 := Lib.hid ho
  have HR16 := Lib.hid hr
  have HW0 := Lib.hid hW0
  obtain ⟨res, hres⟩ : ∃ res, Mk.verifyN old r m n proof = res := ⟨_, rfl⟩
  have HRES0 := Lib.hid hres
  rw [hres]
  obtain ⟨tot, htot⟩ : ∃ tot, (Mk.sideD n m true).1.length = tot := ⟨_, rfl⟩
  rw [htot] at h63
  have HTOT := Lib.hid htot
  have i0 : ¬ ((m : Int) < 1) := by omega
  have i1 : ¬ ((n : Int) < (m : Int)) := by omega
  unfold maxLen at hcm
  clear hrd hT h2 hpl hp ho hr hW0 hres htot
  go_enter Tryd.func28, Tryd.ntmps28
  go_wp2
  go_loopw [2, 3, 11, 12] (fun u2 u3 u11 u12 wr => ∃ (nn mm kk : Nat) (bs : List Bool) (vo : Value) (wh : Bool), u2 = .int .i64 mm ∧ u3 = .int .i64 nn ∧ u11 = vo ∧ u12 = .bool wh ∧ 1 ≤ mm ∧ mm ≤ nn ∧ nn ≤ n ∧ kk ≤ tot ∧ Hid (bs.length = kk) ∧ wr.ownsRow W0.heap.size 4 1 vo kk (bs.map .bool) ∧ Hid (kk = 0 → vo = .slice none 0 0) ∧ Hid (Below W0.heap.size W0 wr) ∧ Hid ((bs ++ (Mk.sideD nn mm wh).1, (Mk.sideD nn mm wh).2) = Mk.sideD n m true))
    (fun _ u3 _ _ _ => (intOf u3).toNat)
  case atStart => exact ⟨n, m, 0, [], .slice none 0 0, true, rfl, rfl, rfl, rfl, hm1, hmn, Nat.le_refl _, by omega, Lib.hid rfl, ⟨rfl, .inl ⟨rfl, rfl⟩⟩, Lib.hid fun _ => rfl, Lib.hid (by rw [HW0.out]; exact Below.refl _ _), Lib.hid rfl⟩
  case round =>
    obtain ⟨nn, mm, kk, bs, vo, wh, rfl, rfl, rfl, rfl, hmm1, hmn', hnn, hkt, HBL, own, HNIL, HB1, HP⟩ := hrel
    have hBw : W0.heap.size ≤ wr.heap.size := HB1.out.size
    by_cases hlt : mm < nn
    · have hsp := split_any nn (by omega) (by omega)
      have hs1 := Mk.split_pos nn
      have hs2 := Mk.split_lt (n := nn) (by omega)
      have hlo := Mk.sideD_lo (n := nn) (m := mm) wh hmm1 hlt
      have hhi := Mk.sideD_hi (n := nn) (m := mm) wh hmm1 hlt
      generalize Mk.split nn = sp at *
      have HSP := Lib.hid hsp
      have HLO := Lib.hid hlo
      have HHI := Lib.hid hhi
      have hkt' : kk + 1 ≤ tot := by
        have h1 := congrArg (fun x => x.1.length) HP.out
        simp only [List.length_append, HBL.out, HTOT.out] at h1
        by_cases hms : mm ≤ sp
        · rw [HLO.out hms] at h1; simp only [List.length_cons] at h1; omega
        · rw [HHI.out hms] at h1; simp only [List.length_cons] at h1; omega
      clear hsp hlo hhi
      obtain ⟨A0, c0, rfl⟩ := own_slice own
      by_cases hms : mm ≤ sp
      · go_wp2_with (first
          | (go_at_call 43; refine (HSP.out _).mono ?_; rintro e w' ⟨rfl, rfl⟩)
          | (at_builtin; refine wpList_app1 rfl (.tmp 30) (.tmp 34) 85 rfl W0.heap.size 4 _ 1 boolsE A0 kk c0 _ _ rfl rfl own HB1.out rfl (by omega) (Nat.le_refl _) hBw ?_; intro g4 c4 w4 own4 hb4 hg4)
          | fail)
        go_roundw
        case rel => exact ⟨sp, mm, kk + 1, bs ++ [false], _, wh, rfl, rfl, rfl, rfl, hmm1, hms, by omega, hkt', Lib.hid (by rw [List.length_append, HBL.out]; rfl), by rw [List.map_append]; rw [decide_eq_false (by omega)] at own4; exact own4, Lib.hid (by intro h; omega), Lib.hid hb4, Lib.hid (by rw [← HP.out, HLO.out hms]; simp)⟩
        case measure => simp [intOf]; omega
      · go_wp2_with (first
          | (go_at_call 43; refine (HSP.out _).mono ?_; rintro e w' ⟨rfl, rfl⟩)
          | (at_builtin; refine wpList_app1 rfl (.tmp 30) (.tmp 34) 85 rfl W0.heap.size 4 _ 1 boolsE A0 kk c0 _ _ rfl rfl own HB1.out rfl (by omega) (Nat.le_refl _) hBw ?_; intro g4 c4 w4 own4 hb4 hg4)
          | fail)
        go_roundw
        case rel => exact ⟨nn - sp, mm - sp, kk + 1, bs ++ [true], _, false, by go_num, by go_num, rfl, rfl, by omega, by omega, by omega, hkt', Lib.hid (by rw [List.length_append, HBL.out]; rfl), by rw [List.map_append]; rw [decide_eq_true (by omega)] at own4; exact own4, Lib.hid (by intro h; omega), Lib.hid hb4, Lib.hid (by rw [← HP.out, HHI.out hms]; simp)⟩
        case measure => simp [intOf]; omega
    · have hmq : mm = nn := by omega
      subst hmq
      have hend : Mk.sideD n m true = (bs, wh) := by
        have := HP.out
        rw [Mk.sideD_end wh (Nat.le_refl _)] at this
        simpa using this.symm
      have HEND := Lib.hid hend
      clear hend HP
      have HK63 : Hid (kk ≤ 63) := Lib.hid (by omega)
      cases wh with
      | true =>
        have HRES : Hid (res = Mk.check old old r bs proof) := Lib.hid (by rw [← HRES0.out]; unfold Mk.verifyN; rw [HEND.out]; rfl)
        by_cases hlen : pl = kk
        · subst hlen
          go_wp2_with (first
            | (have tok := rx4; refine wpList_allocRow rfl _ rfl _ info16 ?_; intro u6 r6y q6 z6; have hby : W0.heap.size ≤ u4.heap.size := hq4.size; obtain ⟨byy, hbyy⟩ : ∃ byy, u4.heap.size = byy := ⟨_, rfl⟩; rw [hbyy] at r6y hby; rw [hbyy]; have HBY := Lib.hid hbyy; clear z6 hbyy tok)
            | (refine wpList_storeRow rfl _ (.tmp 15) (.tmp 64) rfl r6y rfl rfl (by rw [bvs_len, HO16.out]; exact size16) (by rw [bvs_len, List.length_replicate]; exact HO16.out.symm) (bvs_all _) ?_; intro u7 ry7 g7 z7; clear z7)
            | (refine wpList_loadRow rfl _ (.tmp 14) rfl rx4 rfl Tryd.underlying30 (by rw [bvs_len, HO16.out]; exact size16) ?_)
            | (go_at_call 52; refine (reverseB_own wr _ pl bs HBL.out (by omega) W0.heap.size own HNIL.out).mono ?_; rintro e w3 ⟨⟨v3, rfl⟩, g3, A3, c3, rfl, hbits⟩; have hq3 : Below W0.heap.size W0 w3 := HB1.out.grown g3 hBw (fun j hj => (own.lt j hj).1); have r53 := r5.below' hq3; have r63 := r6.below' hq3)
            | (refine wpList_loadRow rfl _ (.tmp 5) rfl r53 rfl Tryd.underlying30 (by rw [bvs_len, HO16.out]; exact size16) ?_)
            | (refine wpList_allocRow rfl _ rfl _ info16 ?_; intro u3 rx3 q3 z3; obtain ⟨bx, hbx⟩ : ∃ bx, w3.heap.size = bx := ⟨_, rfl⟩; rw [hbx] at rx3; rw [hbx]; have HBX := Lib.hid hbx; clear z3 hbx)
            | (refine wpList_storeRow rfl _ (.tmp 14) (.tmp 48) rfl rx3 rfl rfl (by rw [bvs_len, HO16.out]; exact size16) (by rw [bvs_len, List.length_replicate]; exact HO16.out.symm) (bvs_all _) ?_; intro u4 rx4 g4 z4; have hq4 : Below W0.heap.size W0 u4 := (hq3.trans (q3.mono hq3.size)).grown g4 (by have := hq3.size; have := q3.size; omega) (fun j hj => by have hj := Option.some.inj hj; have := hq3.size; have := HBX.out; omega); clear z4)
            | fail)
          have HC4 : Hid (∀ g t, A3 = some ⟨g, 0, none⟩ → t < pl → u4.cell? ⟨g, t, none⟩ = some (.bool (bs.reverse.getD t false)) ∧ g < bx) := Lib.hid fun g t hA ht => by
            obtain ⟨g', hA', _, hg2, hc⟩ := hbits (by omega)
            have e : g' = g := by have := hA'.symm.trans hA; simpa using this
            subst e
            have hb := HBX.out
            refine ⟨?_, by omega⟩
            have h1 := (q3.cell (p := ⟨g', t, none⟩) hg2).trans (hc t ht)
            exact (World.cell?_of_block (a := ⟨g', t, none⟩) (g4.block g' (by have := q3.size; omega) (ne_some (by omega)))).trans h1
          have rx5 := rx4
          have HX0 := HO16
          have HPL := HPRL
          have HD16 := HPD
          have rdq := rdW
          have hq5 := hq4
          have HC5 := HC4
          have rx7 : IsRow u7 bx 30 (bvs old) := (rx5.below' q6).grown g7 (fun e => by have e := Option.some.inj e; have := rx5.lt; have := HBY.out; omega)
          have hq7 : Below W0.heap.size W0 u7 := (hq5.trans (q6.mono hq5.size)).grown g7 (by have := hq5.size; have := q6.size; omega) (fun j hj => by have hj := Option.some.inj hj; have := HBY.out; omega)
          have hb57 : Below u4.heap.size u4 u7 := q6.grown g7 q6.size (fun j hj => by have hj := Option.some.inj hj; have := HBY.out; omega)
          have hbx5 := rx5.lt
          have hne : bx ≠ byy := by have := HBY.out; omega
          go_loopw [67] (fun u67 wr => ∃ k : Nat, k ≤ pl ∧ u67 = .int .i64 k ∧ IsRow wr bx 30 (bvs (Mk.foldN old bs.reverse proof k).1) ∧ IsRow wr byy 30 (bvs (Mk.foldN old bs.reverse proof k).2) ∧ Hid (Below W0.heap.size W0 wr) ∧ Hid (∀ g t, A3 = some ⟨g, 0, none⟩ → t < pl → wr.cell? ⟨g, t, none⟩ = some (.bool (bs.reverse.getD t false)) ∧ g < bx))
            (fun u67 _ => pl - (intOf u67).toNat)
          case atStart =>
            refine ⟨0, by omega, rfl, rx7, ry7, Lib.hid hq7, Lib.hid fun g t hA ht => ?_⟩
            obtain ⟨h1, h2⟩ := HC5.out g t hA ht
            exact ⟨(hb57.cell (p := ⟨g, t, none⟩) (show g < u4.heap.size by have := HBY.out; omega)).trans h1, h2⟩
          case round =>
            obtain ⟨k, hk, rfl, rx, ry, HB, HC⟩ := hrel
            by_cases hpl : k < pl
            · have HKK := Lib.hid hpl
              have hk63 : k ≤ 63 := by have := HK63.out; omega
              have hbxy : bx < byy := by have := HBY.out; omega
              obtain ⟨gb3, hA3, _⟩ := hbits (by omega)
              have hcb := (HC.out gb3 k hA3 hpl).1
              have hg3 := (HC.out gb3 k hA3 hpl).2
              obtain ⟨bp0, off0, rfl, hbp0, _⟩ := rdq.2 (by omega)
              have hp16 : (proof.getD k []).length = 16 := by
                simp only [List.getD]
                rw [List.getElem?_eq_getElem (by rw [HPL.out]; exact hpl)]
                exact HD16.out _ (List.getElem_mem _)
              have hrg : wr.rangeAt bp0 (off0 + k * 16) (bvs (proof.getD k [])) := fun j v hv => (HB.out.cell (p := ⟨bp0, _, none⟩) hbp0).trans (Rd.ranges HD16.out HPL.out rdq k hpl j v hv)
              have hf16 := Mk.foldN_16 old HX0.out bs.reverse proof k
              have hfs := Mk.foldN_succ old bs.reverse proof k (by rw [List.length_reverse, HBL.out]; exact hpl) (by rw [HPL.out]; exact hpl)
              have hbxl := rx.lt
              have hbyl := ry.lt
              subst hA3
              generalize proof.getD k [] = p at *
              generalize bs.reverse.getD k false = bit at *
              generalize Mk.foldN old bs.reverse proof k = xy at rx ry hf16 hfs
              obtain ⟨x, y⟩ := xy
              dsimp only at rx ry hf16 hfs
              have HP16 := Lib.hid hp16
              have HX16 : Hid (x.length = 16) := Lib.hid hf16.1
              have HY16 : Hid (y.length = 16) := Lib.hid hf16.2
              clear hp16 hf16
              obtain ⟨N1, hN1⟩ : ∃ N1, (Mk.node p x).length = N1 := ⟨_, rfl⟩
              obtain ⟨N2, hN2⟩ : ∃ N2, (Mk.node p y).length = N2 := ⟨_, rfl⟩
              obtain ⟨N3, hN3⟩ : ∃ N3, (Mk.node y p).length = N3 := ⟨_, rfl⟩
              have hl1 : N1 ≤ 1000 := by rw [← hN1]; exact node_le _ _ HP16.out HX16.out
              have hl2 : N2 ≤ 1000 := by rw [← hN2]; exact node_le _ _ HP16.out HY16.out
              have hl3 : N3 ≤ 1000 := by rw [← hN3]; exact node_le _ _ HY16.out HP16.out
              have HN1 := Lib.hid hN1
              have HN2 := Lib.hid hN2
              have HN3 := Lib.hid hN3
              have HS1 := Lib.hid (Mk.short_len (Mk.node p x))
              have HS2 := Lib.hid (Mk.short_len (Mk.node p y))
              have HS3 := Lib.hid (Mk.short_len (Mk.node y p))
              clear hN1 hN2 hN3
              have HTV := Lib.hid (fun (v : World) (h : Below wr.heap.size wr v) => (HT0.out.below HB.out).below h)
              cases bit with
              | true =>
                have HF : Hid (Mk.foldN old bs.reverse proof (k + 1) = (Mk.short (Mk.node p x), Mk.short (Mk.node p y))) := Lib.hid hfs
                clear hfs
                go_wp2_with (first
                  | (refine wpList_load_mid rfl _ (.tmp 70) rfl bp0 (off0 + k * 16) rfl (bvs p) _ hrg Tryd.underlying30 rfl (by rw [bvs_len, HP16.out]; exact size16) ?_)
                  | (refine wpList_allocRow rfl _ rfl _ info16 ?_; intro v1 r1 q1 z1; clear z1)
                  | (refine wpList_storeRow rfl _ (.tmp 17) (.tmp 71) rfl r1 rfl rfl (by rw [bvs_len, HP16.out]; exact size16) (by rw [bvs_len, List.length_replicate]; exact HP16.out.symm) (bvs_all _) ?_; intro vq rp gq zq; have QQ : Below wr.heap.size wr vq := q1.grown gq q1.size (by intro j hj; have hj := Option.some.inj hj; omega); have cbq := (QQ.cell (p := ⟨gb3, k, none⟩) (show gb3 < wr.heap.size by omega)).trans hcb; clear zq)
                  | fail)
                have rx' := rx.below' QQ
                have ry' := ry.below' QQ
                clear rx ry
                have rx := rx'
                have ry := ry'
                have HVQ := Lib.hid QQ
                have HBQ : Hid (Below W0.heap.size W0 vq) := Lib.hid (HB.out.trans (QQ.mono HB.out.size))
                have HTQ := Lib.hid (fun (v : World) (h : Below vq.heap.size vq v) => (HTV.out vq QQ).below h)
                have hv0 : Below vq.heap.size vq vq.drew := (Below.refl _ _).drew
                refine wp_region_late (fun W => Below vq.heap.size vq W) [8, 9] (by kernel_rfl) (hv0) (fun hHeld => ?_)
                refine wpAnyL_take (i := 0) (oi := { dst := some 76, op := Op.load 30 (Operand.tmp 17), type := 30, pos := "digest.go:241", after := #[], guard := none }) (v := _) rfl (by kernel_rfl) (by kernel_rfl) (by kernel_rfl) (by kernel_rfl) (fun _ _ _ h => h) (yi_row rfl _ (.tmp 17) rfl rfl (fun W hW => rp.below' hW) Tryd.underlying30 (by rw [bvs_len, HP16.out]; exact size16)) (by assumption) ?_
                try simp only [Act.put, List.setIfInBounds_toArray, List.set_cons_zero, List.set_cons_succ]
                refine wpAnyL_take (i := 1) (oi := { dst := some 77, op := Op.load 30 (Operand.tmp 14), type := 30, pos := "digest.go:241", after := #[], guard := none }) (v := _) rfl (by kernel_rfl) (by kernel_rfl) (by kernel_rfl) (by kernel_rfl) (fun _ _ _ h => h) (yi_row rfl _ (.tmp 14) rfl rfl (fun W hW => rx.below' hW) Tryd.underlying30 (by rw [bvs_len, HX16.out]; exact size16)) (by assumption) ?_
                try simp only [Act.put, List.setIfInBounds_toArray, List.set_cons_zero, List.set_cons_succ]
                refine wpAnyL_take (i := 4) (oi := { dst := some 80, op := Op.load 30 (Operand.tmp 17), type := 30, pos := "digest.go:241", after := #[], guard := none }) (v := _) rfl (by kernel_rfl) (by kernel_rfl) (by kernel_rfl) (by kernel_rfl) (fun _ _ _ h => h) (yi_row rfl _ (.tmp 17) rfl rfl (fun W hW => rp.below' hW) Tryd.underlying30 (by rw [bvs_len, HP16.out]; exact size16)) (by assumption) ?_
                try simp only [Act.put, List.setIfInBounds_toArray, List.set_cons_zero, List.set_cons_succ]
                refine wpAnyL_take (i := 5) (oi := { dst := some 81, op := Op.load 30 (Operand.tmp 15), type := 30, pos := "digest.go:241", after := #[], guard := none }) (v := _) rfl (by kernel_rfl) (by kernel_rfl) (by kernel_rfl) (by kernel_rfl) (fun _ _ _ h => h) (yi_row rfl _ (.tmp 15) rfl rfl (fun W hW => ry.below' hW) Tryd.underlying30 (by rw [bvs_len, HY16.out]; exact size16)) (by assumption) ?_
                try simp only [Act.put, List.setIfInBounds_toArray, List.set_cons_zero, List.set_cons_succ]
                refine wpAnyL_ready (rs := [2]) (by kernel_rfl) (by simp) ?_
                refine AllReadyL.cons (o := { dst := some 78, op := Op.call { callee := Callee.value (Operand.func 46), args := #[Operand.tmp 76, Operand.tmp 77], argTypes := #[30, 30] }, type := 22, pos := "digest.go:241", after := #[{ on := 0, ground := Ground.data }, { on := 1, ground := Ground.data }], guard := none }) rfl (fun K hK => ?_) AllReadyL.nil
                go_simp
                refine (node_any p x HP16.out HX16.out vq.drew N1 HN1.out).mono ?_
                rintro e w11 ⟨A11, c11, rfl, own11, b11⟩
                have hv11 : Below vq.heap.size vq w11 := hv0.trans (b11.mono hv0.size)
                have rd11 := Rd.of_own own11
                go_wp2_with fail
                refine hK.out _ _ (hv11) (fun hHeld => ?_)
                clear hK K
                try simp only [Act.put, List.setIfInBounds_toArray, List.set_cons_zero, List.set_cons_succ]
                refine wpAnyL_ready (rs := [3]) (by kernel_rfl) (by simp) ?_
                refine AllReadyL.cons (o := { dst := some 79, op := Op.call { callee := Callee.value (Operand.func 36), args := #[Operand.tmp 78], argTypes := #[22] }, type := 30, pos := "digest.go:241", after := #[{ on := 2, ground := Ground.data }, { on := 2, ground := Ground.chain }], guard := none }) rfl (fun K hK => ?_) AllReadyL.nil
                go_simp
                refine (short_any A11 N1 c11 _ HN1.out (by omega) _ w11 rd11 (Nat.le_refl _) (HTQ.out _ hv11)).mono ?_
                rintro e w12 ⟨rfl, b12⟩
                have hv12 : Below vq.heap.size vq w12 := hv11.trans (b12.mono hv11.size)
                go_wp2_with fail
                refine hK.out _ _ (hv12) (fun hHeld => ?_)
                clear hK K
                try simp only [Act.put, List.setIfInBounds_toArray, List.set_cons_zero, List.set_cons_succ]
                refine wpAnyL_ready (rs := [6]) (by kernel_rfl) (by simp) ?_
                refine AllReadyL.cons (o := { dst := some 82, op := Op.call { callee := Callee.value (Operand.func 46), args := #[Operand.tmp 80, Operand.tmp 81], argTypes := #[30, 30] }, type := 22, pos := "digest.go:241", after := #[{ on := 4, ground := Ground.data }, { on := 5, ground := Ground.data }, { on := 3, ground := Ground.chain }], guard := none }) rfl (fun K hK => ?_) AllReadyL.nil
                go_simp
                refine (node_any p y HP16.out HY16.out w12 N2 HN2.out).mono ?_
                rintro e w13 ⟨A13, c13, rfl, own13, b13⟩
                have hv13 : Below vq.heap.size vq w13 := hv12.trans (b13.mono hv12.size)
                have rd13 := Rd.of_own own13
                go_wp2_with fail
                refine hK.out _ _ (hv13) (fun hHeld => ?_)
                clear hK K
                try simp only [Act.put, List.setIfInBounds_toArray, List.set_cons_zero, List.set_cons_succ]
                refine wpAnyL_ready (rs := [7]) (by kernel_rfl) (by simp) ?_
                refine AllReadyL.cons (o := { dst := some 83, op := Op.call { callee := Callee.value (Operand.func 36), args := #[Operand.tmp 82], argTypes := #[22] }, type := 30, pos := "digest.go:241", after := #[{ on := 6, ground := Ground.data }, { on := 6, ground := Ground.chain }], guard := none }) rfl (fun K hK => ?_) AllReadyL.nil
                go_simp
                refine (short_any A13 N2 c13 _ HN2.out (by omega) _ w13 rd13 (Nat.le_refl _) (HTQ.out _ hv13)).mono ?_
                rintro e w14 ⟨rfl, b14⟩
                have hv14 : Below vq.heap.size vq w14 := hv13.trans (b14.mono hv13.size)
                go_wp2_with fail
                refine hK.out _ _ (hv14) (fun hHeld => ?_)
                clear hK K
                try simp only [Act.put, List.setIfInBounds_toArray, List.set_cons_zero, List.set_cons_succ]
                refine wpAnyL_ready (rs := [8]) (by kernel_rfl) (by simp) ?_
                refine AllReadyL.late (o := { dst := none, op := Op.store 30 (Operand.tmp 14) (Operand.tmp 79), type := 0, pos := "digest.go:241", after := #[{ on := 3, ground := Ground.data }, { on := 7, ground := Ground.chain }, { on := 0, ground := Ground.phase }, { on := 1, ground := Ground.phase }, { on := 2, ground := Ground.phase }, { on := 3, ground := Ground.phase }, { on := 4, ground := Ground.textOnly Departure.lateStores }, { on := 5, ground := Ground.textOnly Departure.lateStores }, { on := 6, ground := Ground.textOnly Departure.lateStoresUnsure }, { on := 7, ground := Ground.textOnly Departure.lateStoresUnsure }], guard := none }) rfl (by rfl) (fun K hK => ?_) AllReadyL.nil
                rw [if_pos (by rfl)]
                refine wp_storeRow _ (.tmp 14) (.tmp 79) rfl (rx.below' hv14) rfl rfl (by rw [bvs_len, HS1.out]; exact size16) (by rw [bvs_len, bvs_len, HS1.out]; exact HX16.out) (bvs_all _) ?_
                intro w15 rx15 g15 z15
                have ry15 := (ry.below' hv14).grown g15 (fun e => hne (Option.some.inj e))
                clear z15
                refine hK.out _ _ ?_
                clear hK K
                try simp only [Act.put, List.setIfInBounds_toArray, List.set_cons_zero, List.set_cons_succ]
                refine wpAnyL_ready (rs := [9]) (by kernel_rfl) (by simp) ?_
                refine AllReadyL.late (o := { dst := none, op := Op.store 30 (Operand.tmp 15) (Operand.tmp 83), type := 0, pos := "digest.go:241", after := #[{ on := 7, ground := Ground.data }, { on := 8, ground := Ground.chain }, { on := 0, ground := Ground.phase }, { on := 1, ground := Ground.phase }, { on := 2, ground := Ground.phase }, { on := 3, ground := Ground.phase }, { on := 4, ground := Ground.phase }, { on := 5, ground := Ground.phase }, { on := 6, ground := Ground.phase }, { on := 7, ground := Ground.phase }, { on := 8, ground := Ground.phase }], guard := none }) rfl (by rfl) (fun K hK => ?_) AllReadyL.nil
                rw [if_pos (by rfl)]
                refine wp_storeRow _ (.tmp 15) (.tmp 83) rfl ry15 rfl rfl (by rw [bvs_len, HS2.out]; exact size16) (by rw [bvs_len, bvs_len, HS2.out]; exact HY16.out) (bvs_all _) ?_
                intro w16 ry16 g16 z16
                have rx16 := rx15.grown g16 (fun e => hne (Option.some.inj e).symm)
                clear z16
                refine hK.out _ _ ?_
                clear hK K
                try simp only [Act.put, List.setIfInBounds_toArray, List.set_cons_zero, List.set_cons_succ]
                refine wpAnyL_done (by kernel_rfl) ?_ _
                try simp only [List.toList_toArray]
                go_wp2_with fail
                go_roundw
                case rel =>
                  have q14 : Below W0.heap.size W0 w14 := HBQ.out.trans (hv14.mono HBQ.out.size)
                  have q15 : Below W0.heap.size W0 w15 := q14.grown g15 q14.size (fun j hj => by have hj := Option.some.inj hj; omega)
                  have q16 : Below W0.heap.size W0 w16 := q15.grown g16 q15.size (fun j hj => by have hj := Option.some.inj hj; omega)
                  refine ⟨k + 1, HKK.out, by go_num, by rw [HF.out]; exact rx16, by rw [HF.out]; exact ry16, Lib.hid q16, Lib.hid fun g t hA ht => ?_⟩
                  have h1 := HC.out g t hA ht
                  have h2 := h1.2
                  refine ⟨?_, h2⟩
                  have h3 := ((HVQ.out.trans (hv14.mono HVQ.out.size)).cell (p := ⟨g, t, none⟩) (show g < wr.heap.size by have := hbxl; omega)).trans h1.1
                  have h4 := (World.cell?_of_block (a := ⟨g, t, none⟩) (g15.block g (by have := hv14.size; have := HVQ.out.size; have := hbxl; omega) (ne_some (by omega)))).trans h3
                  exact (World.cell?_of_block (a := ⟨g, t, none⟩) (g16.block g (by have := g15.size; have := hv14.size; have := HVQ.out.size; have := hbxl; omega) (ne_some (by omega)))).trans h4
                case measure => (have := HKK.out; simp [intOf]; omega)
              | false =>
                have HF : Hid (Mk.foldN old bs.reverse proof (k + 1) = (x, Mk.short (Mk.node y p))) := Lib.hid hfs
                clear hfs
                go_wp2_with (first
                  | (refine wpList_load_mid rfl _ (.tmp 70) rfl bp0 (off0 + k * 16) rfl (bvs p) _ hrg Tryd.underlying30 rfl (by rw [bvs_len, HP16.out]; exact size16) ?_)
                  | (refine wpList_allocRow rfl _ rfl _ info16 ?_; intro v1 r1 q1 z1; clear z1)
                  | (refine wpList_storeRow rfl _ (.tmp 17) (.tmp 71) rfl r1 rfl rfl (by rw [bvs_len, HP16.out]; exact size16) (by rw [bvs_len, List.length_replicate]; exact HP16.out.symm) (bvs_all _) ?_; intro vq rp gq zq; have QQ : Below wr.heap.size wr vq := q1.grown gq q1.size (by intro j hj; have hj := Option.some.inj hj; omega); have cbq := (QQ.cell (p := ⟨gb3, k, none⟩) (show gb3 < wr.heap.size by omega)).trans hcb; have ryq := ry.below' QQ; clear zq)
                  | (refine wpList_loadRow rfl _ (.tmp 15) rfl ryq rfl Tryd.underlying30 (by rw [bvs_len, HY16.out]; exact size16) ?_)
                  | (refine wpList_loadRow rfl _ (.tmp 17) rfl rp rfl Tryd.underlying30 (by rw [bvs_len, HP16.out]; exact size16) ?_)
                  | (go_at_call 46; refine (node_any y p HY16.out HP16.out vq N3 HN3.out).mono ?_; rintro e v8 ⟨A8, c8, rfl, own8, q8⟩; have Q8 := QQ.trans (q8.mono QQ.size); have rd8 := Rd.of_own own8)
                  | (go_at_call 36; refine (short_any A8 N3 c8 _ HN3.out (by omega) _ v8 rd8 (Nat.le_refl _) (HTV.out _ Q8)).mono ?_; rintro e v9 ⟨rfl, q9⟩; have Q9 := Q8.trans (q9.mono Q8.size); have ry9 := ry.below' Q9)
                  | (refine wpList_storeRow rfl _ (.tmp 15) (.tmp 87) rfl ry9 rfl rfl (by rw [bvs_len, HS3.out]; exact size16) (by rw [bvs_len, bvs_len, HS3.out]; exact HY16.out) (bvs_all _) ?_; intro v10 ry10 g10 z10; clear z10)
                  | fail)
                go_roundw
                case rel =>
                  have rx10 := (rx.below' Q9).grown g10 (fun e => hne (Option.some.inj e).symm)
                  have q9' : Below W0.heap.size W0 v9 := HB.out.trans (Q9.mono HB.out.size)
                  have q10 : Below W0.heap.size W0 v10 := q9'.grown g10 q9'.size (fun j hj => by have hj := Option.some.inj hj; omega)
                  refine ⟨k + 1, HKK.out, by go_num, by rw [HF.out]; exact rx10, by rw [HF.out]; exact ry10, Lib.hid q10, Lib.hid fun g t hA ht => ?_⟩
                  have h1 := HC.out g t hA ht
                  refine ⟨?_, h1.2⟩
                  have h2 := h1.2
                  have h3 := (Q9.cell (p := ⟨g, t, none⟩) (show g < wr.heap.size by omega)).trans h1.1
                  exact (World.cell?_of_block (a := ⟨g, t, none⟩) (g10.block g (by have := Q9.size; omega) (ne_some (by omega)))).trans h3
                case measure => (have := HKK.out; simp [intOf]; omega)
            · have hpl' : k = pl := by omega
              subst hpl'
              have hfd := Mk.foldN_done old bs.reverse proof k (by rw [HPL.out]; exact Nat.le_refl _)
              have hf16 := Mk.foldN_16 old HX0.out bs.reverse proof k
              rw [hfd] at rx ry hf16
              have hres : res = ((Mk.fold old bs.reverse proof).1 == old && (Mk.fold old bs.reverse proof).2 == r) := by rw [HRES.out]; unfold Mk.check; rw [if_pos (by rw [HPL.out, HBL.out])]
              generalize Mk.fold old bs.reverse proof = xy at rx ry hf16 hres
              obtain ⟨x, y⟩ := xy
              dsimp only at rx ry hf16 hres
              have HX16 : Hid (x.length = 16) := Lib.hid hf16.1
              have HY16 : Hid (y.length = 16) := Lib.hid hf16.2
              have r5' := r5.below' HB.out
              have r6' := r6.below' HB.out
              have hq1 : ∀ W, (binOp .eql 30 (.agg (bvs x).toArray) (.agg (bvs old).toArray)).run Tryd.prog W = .ok (.bool (x == old)) W := fun W => run_eql_digE W HX16.out HO16.out
              have hq2 : ∀ W, (binOp .eql 30 (.agg (bvs y).toArray) (.agg (bvs r).toArray)).run Tryd.prog W = .ok (.bool (y == r)) W := fun W => run_eql_digE W HY16.out HR16.out
              generalize (x == old) = e1 at *
              generalize (y == r) = e2 at *
              have HRE := Lib.hid hres
              clear hres hfd hf16
              cases e1 with
              | false =>
                go_wp2_with (first
                  | (refine wpList_loadRow rfl _ (.tmp 14) rfl rx rfl Tryd.underlying30 (by rw [bvs_len, HX16.out]; exact size16) ?_)
                  | (refine wpList_loadRow rfl _ (.tmp 5) rfl r5' rfl Tryd.underlying30 (by rw [bvs_len, HO16.out]; exact size16) ?_)
                  | fail)
                have hre := HRE.out
                subst hre
                exact bodyPost_ret (results_tmp rfl _ _ _) rfl ⟨rfl, hbW.trans (HB.out.mono hbW.size)⟩
              | true =>
                go_wp2_with (first
                  | (refine wpList_loadRow rfl _ (.tmp 14) rfl rx rfl Tryd.underlying30 (by rw [bvs_len, HX16.out]; exact size16) ?_)
                  | (refine wpList_loadRow rfl _ (.tmp 5) rfl r5' rfl Tryd.underlying30 (by rw [bvs_len, HO16.out]; exact size16) ?_)
                  | (refine wpList_loadRowG rfl _ (.tmp 15) rfl ry rfl Tryd.underlying30 (by rw [bvs_len, HY16.out]; exact size16) ?_)
                  | (refine wpList_loadRowG rfl _ (.tmp 6) rfl r6' rfl Tryd.underlying30 (by rw [bvs_len, HR16.out]; exact size16) ?_)
                  | fail)
                have hre := HRE.out
                subst hre
                exact bodyPost_ret (results_tmp rfl _ _ _) rfl ⟨rfl, hbW.trans (HB.out.mono hbW.size)⟩
        · have hne : ((pl : Int) != (kk : Int)) = true := by rw [bne_iff_ne]; omega
          have hres : res = false := by rw [HRES.out]; unfold Mk.check; rw [if_neg (by rw [HPRL.out, HBL.out]; exact hlen)]
          go_wp2_with (first
            | (go_at_call 52; refine (reverseB_own wr _ kk bs HBL.out (by omega) W0.heap.size own HNIL.out).mono ?_; rintro e w3 ⟨⟨v3, rfl⟩, g3, A3, c3, rfl, hbits⟩; have hq3 : Below W0.heap.size W0 w3 := HB1.out.grown g3 hBw (fun j hj => (own.lt j hj).1); have r53 := r5.below' hq3; have r63 := r6.below' hq3)
            | (refine wpList_loadRow rfl _ (.tmp 5) rfl r53 rfl Tryd.underlying30 (by rw [bvs_len, HO16.out]; exact size16) ?_)
            | (refine wpList_allocRow rfl _ rfl _ info16 ?_; intro u3 rx3 q3 z3; obtain ⟨bx, hbx⟩ : ∃ bx, w3.heap.size = bx := ⟨_, rfl⟩; rw [hbx] at rx3; rw [hbx]; have HBX := Lib.hid hbx; clear z3 hbx)
            | (refine wpList_storeRow rfl _ (.tmp 14) (.tmp 48) rfl rx3 rfl rfl (by rw [bvs_len, HO16.out]; exact size16) (by rw [bvs_len, List.length_replicate]; exact HO16.out.symm) (bvs_all _) ?_; intro u4 rx4 g4 z4; have hq4 : Below W0.heap.size W0 u4 := (hq3.trans (q3.mono hq3.size)).grown g4 (by have := hq3.size; have := q3.size; omega) (fun j hj => by have hj := Option.some.inj hj; have := hq3.size; have := HBX.out; omega); clear z4)
            | fail)
          subst hres
          exact bodyPost_ret (results_tmp rfl _ _ _) rfl ⟨rfl, hbW.trans (hq4.mono hbW.size)⟩
      | false =>
        by_cases hp0 : pl = 0
        · have hres : res = false := by
            rw [← HRES0.out]; unfold Mk.verifyN; rw [HEND.out]
            have : proof = [] := List.eq_nil_of_length_eq_zero (by rw [HPRL.out, hp0])
            rw [this]; rfl
          subst hp0
          go_wp2_with (first
            | (go_at_call 52; refine (reverseB_own wr _ kk bs HBL.out (by omega) W0.heap.size own HNIL.out).mono ?_; rintro e w3 ⟨⟨v3, rfl⟩, g3, A3, c3, rfl, hbits⟩; have hq3 : Below W0.heap.size W0 w3 := HB1.out.grown g3 hBw (fun j hj => (own.lt j hj).1); have r53 := r5.below' hq3; have r63 := r6.below' hq3)
            | (refine wpList_loadRow rfl _ (.tmp 5) rfl r53 rfl Tryd.underlying30 (by rw [bvs_len, HO16.out]; exact size16) ?_)
            | (refine wpList_allocRow rfl _ rfl _ info16 ?_; intro u3 rx3 q3 z3; obtain ⟨bx, hbx⟩ : ∃ bx, w3.heap.size = bx := ⟨_, rfl⟩; rw [hbx] at rx3; rw [hbx]; have HBX := Lib.hid hbx; clear z3 hbx)
            | (refine wpList_storeRow rfl _ (.tmp 14) (.tmp 48) rfl rx3 rfl rfl (by rw [bvs_len, HO16.out]; exact size16) (by rw [bvs_len, List.length_replicate]; exact HO16.out.symm) (bvs_all _) ?_; intro u4 rx4 g4 z4; have hq4 : Below W0.heap.size W0 u4 := (hq3.trans (q3.mono hq3.size)).grown g4 (by have := hq3.size; have := q3.size; omega) (fun j hj => by have hj := Option.some.inj hj; have := hq3.size; have := HBX.out; omega); clear z4)
            | fail)
          subst hres
          exact bodyPost_ret (results_tmp rfl _ _ _) rfl ⟨rfl, hbW.trans (hq4.mono hbW.size)⟩
        · obtain ⟨x0, ps, hps⟩ : ∃ x0 ps, proof = x0 :: ps := by
            cases proof with
            | nil => exact absurd HPRL.out (by simp; omega)
            | cons x0 ps => exact ⟨x0, ps, rfl⟩
          subst hps
          obtain ⟨qn, rfl⟩ : ∃ qn, pl = qn + 1 := ⟨pl - 1, by omega⟩
          have HX0 : Hid (x0.length = 16) := Lib.hid (HPD.out x0 (by simp))
          have HD16 : Hid (D16 ps) := Lib.hid fun d hd => HPD.out d (by simp [hd])
          have HPL : Hid (ps.length = qn) := Lib.hid (by have := HPRL.out; simpa using this)
          have HRES : Hid (res = Mk.check x0 old r bs ps) := Lib.hid (by rw [← HRES0.out]; unfold Mk.verifyN; rw [HEND.out]; rfl)
          obtain ⟨bp1, off1, rfl, hbp1, _⟩ := rdW.2 (by omega)
          have hrg0 : W0.rangeAt bp1 off1 (bvs x0) := by
            have := Rd.ranges HPD.out HPRL.out rdW 0 (by omega)
            simpa using this
          obtain ⟨Aq, hAq⟩ : ∃ Aq, (if c = 1 then some (⟨bp1, off1, none⟩ : Addr) else (some (⟨bp1, off1, none⟩ : Addr)).map (·.add (1 * 16))) = Aq := ⟨_, rfl⟩
          have rdq : Rd W0 W0.heap.size 16 Aq qn (dvs ps) := by
            have := rdW.cut (k := 1) (cap := c) (by omega) hpc
            rw [hAq, dvs_drop HPD.out] at this
            exact this
          have HAQ : Hid (Value.slice (if c = 1 then some (⟨bp1, off1, none⟩ : Addr) else (some (⟨bp1, off1, none⟩ : Addr)).map (·.add (1 * 16))) (qn + 1 - 1) (c - 1) = .slice Aq qn (c - 1)) := Lib.hid (by rw [hAq]; rfl)
          have hpl1 : 1 ≤ qn + 1 := by omega
          clear hAq
          go_wp2_with (first
            | (go_at_call 52; refine (reverseB_own wr _ kk bs HBL.out (by omega) W0.heap.size own HNIL.out).mono ?_; rintro e w3 ⟨⟨v3, rfl⟩, g3, A3, c3, rfl, hbits⟩; have hq3 : Below W0.heap.size W0 w3 := HB1.out.grown g3 hBw (fun j hj => (own.lt j hj).1); have r53 := r5.below' hq3; have r63 := r6.below' hq3)
            | (refine wpList_loadRow rfl _ (.tmp 5) rfl r53 rfl Tryd.underlying30 (by rw [bvs_len, HO16.out]; exact size16) ?_)
            | (refine wpList_allocRow rfl _ rfl _ info16 ?_; intro u3 rx3 q3 z3; obtain ⟨bx, hbx⟩ : ∃ bx, w3.heap.size = bx := ⟨_, rfl⟩; rw [hbx] at rx3; rw [hbx]; have HBX := Lib.hid hbx; clear z3 hbx)
            | (refine wpList_storeRow rfl _ (.tmp 14) (.tmp 48) rfl rx3 rfl rfl (by rw [bvs_len, HO16.out]; exact size16) (by rw [bvs_len, List.length_replicate]; exact HO16.out.symm) (bvs_all _) ?_; intro u4 rx4 g4 z4; have hq4 : Below W0.heap.size W0 u4 := (hq3.trans (q3.mono hq3.size)).grown g4 (by have := hq3.size; have := q3.size; omega) (fun j hj => by have hj := Option.some.inj hj; have := hq3.size; have := HBX.out; omega); clear z4)
            | fail)
          have HC4 : Hid (∀ g t, A3 = some ⟨g, 0, none⟩ → t < kk → u4.cell? ⟨g, t, none⟩ = some (.bool (bs.reverse.getD t false)) ∧ g < bx) := Lib.hid fun g t hA ht => by
            obtain ⟨g', hA', _, hg2, hc⟩ := hbits (by omega)
            have e : g' = g := by have := hA'.symm.trans hA; simpa using this
            subst e
            have hb := HBX.out
            refine ⟨?_, by omega⟩
            have h1 := (q3.cell (p := ⟨g', t, none⟩) hg2).trans (hc t ht)
            exact (World.cell?_of_block (a := ⟨g', t, none⟩) (g4.block g' (by have := q3.size; omega) (ne_some (by omega)))).trans h1
          have hrg1 : u4.rangeAt bp1 off1 (bvs x0) := fun j v hv => (hq4.cell (p := ⟨bp1, _, none⟩) hbp1).trans (hrg0 j v hv)
          have hv0 : Below u4.heap.size u4 u4.drew := (Below.refl _ _).drew
          refine wp_region_late (fun W => W.rangeAt bp1 off1 (bvs x0)) [3, 4, 5, 6] (by kernel_rfl) (hrg1) (fun hHeld => ?_)
          refine wpAnyL_takeE (i := 3) (oi := { dst := some 57, op := Op.move (Operand.tmp 4), type := 34, pos := "digest.go:233", after := #[], guard := none }) (v := ?v3_1) rfl (by kernel_rfl) (by kernel_rfl) (by kernel_rfl) (by kernel_rfl) (fun _ _ _ h => h) (Or.inl ⟨by rfl, ?h3_1⟩) ?r3_1
          case h3_1 =>
            intro W
            go_simp
            try with_reducible rfl
          try simp only [Act.put, List.setIfInBounds_toArray, List.set_cons_zero, List.set_cons_succ]
          refine wpAnyL_takeE (i := 4) (oi := { dst := some 58, op := Op.slice 34 (Operand.tmp 57) (some (Operand.const (Value.int IntKind.i64 1))) none none, type := 34, pos := "digest.go:233", after := #[{ on := 3, ground := Ground.data }], guard := none }) (v := .slice Aq qn (c - 1)) rfl (by kernel_rfl) (by kernel_rfl) (by kernel_rfl) (by kernel_rfl) (fun _ _ _ h => h) (yas (y_cutFrom rfl _ (.tmp 57) _ rfl digE _ _ _ 1 .i64 1 rfl rfl rfl hpl1) HAQ.out) ?_
          try simp only [Act.put, List.setIfInBounds_toArray, List.set_cons_zero, List.set_cons_succ]
          refine wpAnyL_take (i := 0) (oi := { dst := some 54, op := Op.move (Operand.tmp 4), type := 34, pos := "digest.go:233", after := #[], guard := none }) (v := ?v0_3) rfl (by kernel_rfl) (by kernel_rfl) (by kernel_rfl) (by kernel_rfl) (fun _ _ _ h => h) (Or.inl ⟨by rfl, ?h0_3⟩) (by assumption) ?r0_3
          case h0_3 =>
            intro W hSW
            try dsimp only at hSW
            go_simp
            try with_reducible rfl
          try simp only [Act.put, List.setIfInBounds_toArray, List.set_cons_zero, List.set_cons_succ]
          refine wpAnyL_take (i := 1) (oi := { dst := some 55, op := Op.indexAddr 34 (Operand.tmp 54) (Operand.const (Value.int IntKind.i64 0)), type := 0, pos := "digest.go:233", after := #[{ on := 0, ground := Ground.data }], guard := none }) (v := ?v1_4) rfl (by kernel_rfl) (by kernel_rfl) (by kernel_rfl) (by kernel_rfl) (fun _ _ _ h => h) (Or.inl ⟨by rfl, ?h1_4⟩) (by assumption) ?r1_4
          case h1_4 =>
            intro W hSW
            try dsimp only at hSW
            go_simp
            try with_reducible rfl
          try simp only [Act.put, List.setIfInBounds_toArray, List.set_cons_zero, List.set_cons_succ]
          refine wpAnyL_take (i := 2) (oi := { dst := some 56, op := Op.load 30 (Operand.tmp 55), type := 30, pos := "digest.go:233", after := #[{ on := 1, ground := Ground.data }], guard := none }) (v := _) rfl (by kernel_rfl) (by kernel_rfl) (by kernel_rfl) (by kernel_rfl) (fun _ _ _ h => h) (yieldsIf_load_mid rfl _ (.tmp 55) rfl bp1 off1 rfl (bvs x0) _ (fun W hW => hW) Tryd.underlying30 rfl (by rw [bvs_len, HX0.out]; exact size16)) (by assumption) ?_
          try simp only [Act.put, List.setIfInBounds_toArray, List.set_cons_zero, List.set_cons_succ]
          refine wpAnyL_ready (rs := [5]) (by kernel_rfl) (by simp) ?_
          refine AllReadyL.late (o := { dst := none, op := Op.store 30 (Operand.tmp 14) (Operand.tmp 56), type := 0, pos := "digest.go:233", after := #[{ on := 2, ground := Ground.data }, { on := 0, ground := Ground.phase }, { on := 1, ground := Ground.phase }, { on := 2, ground := Ground.phase }, { on := 3, ground := Ground.textOnly Departure.lateStores }, { on := 4, ground := Ground.textOnly Departure.lateStoresUnsure }], guard := none }) rfl (by rfl) (fun K hK => ?_) AllReadyL.nil
          rw [if_pos (by rfl)]
          refine wp_storeRow _ (.tmp 14) (.tmp 56) rfl rx4 rfl rfl (by rw [bvs_len, HX0.out]; exact size16) (by rw [bvs_len, bvs_len, HX0.out]; exact HO16.out) (bvs_all _) ?_
          intro w5 rx5 g5 z5
          clear z5
          refine hK.out _ _ ?_
          clear hK K
          try simp only [Act.put, List.setIfInBounds_toArray, List.set_cons_zero, List.set_cons_succ]
          refine wpAnyL_takeE (i := 6) (oi := { dst := some 4, op := Op.assign (Operand.tmp 58), type := 34, pos := "digest.go:233", after := #[{ on := 4, ground := Ground.data }, { on := 5, ground := Ground.chain }, { on := 0, ground := Ground.phase }, { on := 1, ground := Ground.phase }, { on := 2, ground := Ground.phase }, { on := 3, ground := Ground.phase }, { on := 4, ground := Ground.phase }, { on := 5, ground := Ground.phase }], guard := none }) (v := ?v6_6) rfl (by kernel_rfl) (by kernel_rfl) (by kernel_rfl) (by kernel_rfl) (fun _ _ _ h => h) (Or.inl ⟨by rfl, ?h6_6⟩) ?r6_6
          case h6_6 =>
            intro W
            go_simp
            try with_reducible rfl
          try simp only [Act.put, List.setIfInBounds_toArray, List.set_cons_zero, List.set_cons_succ]
          refine wpAnyL_done (by kernel_rfl) ?_ _
          try simp only [List.toList_toArray]
          have g5 := grown_l_drew g5
          have hq5 : Below W0.heap.size W0 w5 := hq4.grown g5 hq4.size (fun j hj => by have hj := Option.some.inj hj; have := HBX.out; have := hq3.size; omega)
          have HC5 : Hid (∀ g t, A3 = some ⟨g, 0, none⟩ → t < kk → w5.cell? ⟨g, t, none⟩ = some (.bool (bs.reverse.getD t false)) ∧ g < bx) := Lib.hid fun g t hA ht => by
            obtain ⟨h1, h2⟩ := HC4.out g t hA ht
            exact ⟨(World.cell?_of_block (a := ⟨g, t, none⟩) (g5.block g (by have := rx4.lt; omega) (ne_some (by omega)))).trans h1, h2⟩
          by_cases hlen : qn = kk
          · subst hlen
            go_wp2_with (first
              | (refine wpList_loadRow rfl _ (.tmp 14) rfl rx5 rfl Tryd.underlying30 (by rw [bvs_len, HX0.out]; exact size16) ?_)
              | (refine wpList_allocRow rfl _ rfl _ info16 ?_; intro u6 r6y q6 z6; have hby : W0.heap.size ≤ w5.heap.size := hq5.size; obtain ⟨byy, hbyy⟩ : ∃ byy, w5.heap.size = byy := ⟨_, rfl⟩; rw [hbyy] at r6y hby; rw [hbyy]; have HBY := Lib.hid hbyy; clear z6 hbyy)
              | (refine wpList_storeRow rfl _ (.tmp 15) (.tmp 64) rfl r6y rfl rfl (by rw [bvs_len, HX0.out]; exact size16) (by rw [bvs_len, List.length_replicate]; exact HX0.out.symm) (bvs_all _) ?_; intro u7 ry7 g7 z7; clear z7)
              | fail)
            have rx7 : IsRow u7 bx 30 (bvs x0) := (rx5.below' q6).grown g7 (fun e => by have e := Option.some.inj e; have := rx5.lt; have := HBY.out; omega)
            have hq7 : Below W0.heap.size W0 u7 := (hq5.trans (q6.mono hq5.size)).grown g7 (by have := hq5.size; have := q6.size; omega) (fun j hj => by have hj := Option.some.inj hj; have := HBY.out; omega)
            have hb57 : Below w5.heap.size w5 u7 := q6.grown g7 q6.size (fun j hj => by have hj := Option.some.inj hj; have := HBY.out; omega)
            have hbx5 := rx5.lt
            have hne : bx ≠ byy := by have := HBY.out; omega
            go_loopw [67] (fun u67 wr => ∃ k : Nat, k ≤ qn ∧ u67 = .int .i64 k ∧ IsRow wr bx 30 (bvs (Mk.foldN x0 bs.reverse ps k).1) ∧ IsRow wr byy 30 (bvs (Mk.foldN x0 bs.reverse ps k).2) ∧ Hid (Below W0.heap.size W0 wr) ∧ Hid (∀ g t, A3 = some ⟨g, 0, none⟩ → t < qn → wr.cell? ⟨g, t, none⟩ = some (.bool (bs.reverse.getD t false)) ∧ g < bx))
              (fun u67 _ => qn - (intOf u67).toNat)
            case atStart =>
              refine ⟨0, by omega, rfl, rx7, ry7, Lib.hid hq7, Lib.hid fun g t hA ht => ?_⟩
              obtain ⟨h1, h2⟩ := HC5.out g t hA ht
              exact ⟨(hb57.cell (p := ⟨g, t, none⟩) (show g < w5.heap.size by have := HBY.out; omega)).trans h1, h2⟩
            case round =>
              obtain ⟨k, hk, rfl, rx, ry, HB, HC⟩ := hrel
              by_cases hqn : k < qn
              · have HKK := Lib.hid hqn
                have hk63 : k ≤ 63 := by have := HK63.out; omega
                have hbxy : bx < byy := by have := HBY.out; omega
                obtain ⟨gb3, hA3, _⟩ := hbits (by omega)
                have hcb := (HC.out gb3 k hA3 hqn).1
                have hg3 := (HC.out gb3 k hA3 hqn).2
                obtain ⟨bp0, off0, rfl, hbp0, _⟩ := rdq.2 (by omega)
                have hp16 : (ps.getD k []).length = 16 := by
                  simp only [List.getD]
                  rw [List.getElem?_eq_getElem (by rw [HPL.out]; exact hqn)]
                  exact HD16.out _ (List.getElem_mem _)
                have hrg : wr.rangeAt bp0 (off0 + k * 16) (bvs (ps.getD k [])) := fun j v hv => (HB.out.cell (p := ⟨bp0, _, none⟩) hbp0).trans (Rd.ranges HD16.out HPL.out rdq k hqn j v hv)
                have hf16 := Mk.foldN_16 x0 HX0.out bs.reverse ps k
                have hfs := Mk.foldN_succ x0 bs.reverse ps k (by rw [List.length_reverse, HBL.out]; exact hqn) (by rw [HPL.out]; exact hqn)
                have hbxl := rx.lt
                have hbyl := ry.lt
                subst hA3
                generalize ps.getD k [] = p at *
                generalize bs.reverse.getD k false = bit at *
                generalize Mk.foldN x0 bs.reverse ps k = xy at rx ry hf16 hfs
                obtain ⟨x, y⟩ := xy
                dsimp only at rx ry hf16 hfs
                have HP16 := Lib.hid hp16
                have HX16 : Hid (x.length = 16) := Lib.hid hf16.1
                have HY16 : Hid (y.length = 16) := Lib.hid hf16.2
                clear hp16 hf16
                obtain ⟨N1, hN1⟩ : ∃ N1, (Mk.node p x).length = N1 := ⟨_, rfl⟩
                obtain ⟨N2, hN2⟩ : ∃ N2, (Mk.node p y).length = N2 := ⟨_, rfl⟩
                obtain ⟨N3, hN3⟩ : ∃ N3, (Mk.node y p).length = N3 := ⟨_, rfl⟩
                have hl1 : N1 ≤ 1000 := by rw [← hN1]; exact node_le _ _ HP16.out HX16.out
                have hl2 : N2 ≤ 1000 := by rw [← hN2]; exact node_le _ _ HP16.out HY16.out
                have hl3 : N3 ≤ 1000 := by rw [← hN3]; exact node_le _ _ HY16.out HP16.out
                have HN1 := Lib.hid hN1
                have HN2 := Lib.hid hN2
                have HN3 := Lib.hid hN3
                have HS1 := Lib.hid (Mk.short_len (Mk.node p x))
                have HS2 := Lib.hid (Mk.short_len (Mk.node p y))
                have HS3 := Lib.hid (Mk.short_len (Mk.node y p))
                clear hN1 hN2 hN3
                have HTV := Lib.hid (fun (v : World) (h : Below wr.heap.size wr v) => (HT0.out.below HB.out).below h)
                cases bit with
                | true =>
                  have HF : Hid (Mk.foldN x0 bs.reverse ps (k + 1) = (Mk.short (Mk.node p x), Mk.short (Mk.node p y))) := Lib.hid hfs
                  clear hfs
                  go_wp2_with (first
                    | (refine wpList_load_mid rfl _ (.tmp 70) rfl bp0 (off0 + k * 16) rfl (bvs p) _ hrg Tryd.underlying30 rfl (by rw [bvs_len, HP16.out]; exact size16) ?_)
                    | (refine wpList_allocRow rfl _ rfl _ info16 ?_; intro v1 r1 q1 z1; clear z1)
                    | (refine wpList_storeRow rfl _ (.tmp 17) (.tmp 71) rfl r1 rfl rfl (by rw [bvs_len, HP16.out]; exact size16) (by rw [bvs_len, List.length_replicate]; exact HP16.out.symm) (bvs_all _) ?_; intro vq rp gq zq; have QQ : Below wr.heap.size wr vq := q1.grown gq q1.size (by intro j hj; have hj := Option.some.inj hj; omega); have cbq := (QQ.cell (p := ⟨gb3, k, none⟩) (show gb3 < wr.heap.size by omega)).trans hcb; clear zq)
                    | fail)
                  have rx' := rx.below' QQ
                  have ry' := ry.below' QQ
                  clear rx ry
                  have rx := rx'
                  have ry := ry'
                  have HVQ := Lib.hid QQ
                  have HBQ : Hid (Below W0.heap.size W0 vq) := Lib.hid (HB.out.trans (QQ.mono HB.out.size))
                  have HTQ := Lib.hid (fun (v : World) (h : Below vq.heap.size vq v) => (HTV.out vq QQ).below h)
                  have hv0 : Below vq.heap.size vq vq.drew := (Below.refl _ _).drew
                  refine wp_region_late (fun W => Below vq.heap.size vq W) [8, 9] (by kernel_rfl) (hv0) (fun hHeld => ?_)
                  refine wpAnyL_take (i := 0) (oi := { dst := some 76, op := Op.load 30 (Operand.tmp 17), type := 30, pos := "digest.go:241", after := #[], guard := none }) (v := _) rfl (by kernel_rfl) (by kernel_rfl) (by kernel_rfl) (by kernel_rfl) (fun _ _ _ h => h) (yi_row rfl _ (.tmp 17) rfl rfl (fun W hW => rp.below' hW) Tryd.underlying30 (by rw [bvs_len, HP16.out]; exact size16)) (by assumption) ?_
                  try simp only [Act.put, List.setIfInBounds_toArray, List.set_cons_zero, List.set_cons_succ]
                  refine wpAnyL_take (i := 1) (oi := { dst := some 77, op := Op.load 30 (Operand.tmp 14), type := 30, pos := "digest.go:241", after := #[], guard := none }) (v := _) rfl (by kernel_rfl) (by kernel_rfl) (by kernel_rfl) (by kernel_rfl) (fun _ _ _ h => h) (yi_row rfl _ (.tmp 14) rfl rfl (fun W hW => rx.below' hW) Tryd.underlying30 (by rw [bvs_len, HX16.out]; exact size16)) (by assumption) ?_
                  try simp only [Act.put, List.setIfInBounds_toArray, List.set_cons_zero, List.set_cons_succ]
                  refine wpAnyL_take (i := 4) (oi := { dst := some 80, op := Op.load 30 (Operand.tmp 17), type := 30, pos := "digest.go:241", after := #[], guard := none }) (v := _) rfl (by kernel_rfl) (by kernel_rfl) (by kernel_rfl) (by kernel_rfl) (fun _ _ _ h => h) (yi_row rfl _ (.tmp 17) rfl rfl (fun W hW => rp.below' hW) Tryd.underlying30 (by rw [bvs_len, HP16.out]; exact size16)) (by assumption) ?_
                  try simp only [Act.put, List.setIfInBounds_toArray, List.set_cons_zero, List.set_cons_succ]
                  refine wpAnyL_take (i := 5) (oi := { dst := some 81, op := Op.load 30 (Operand.tmp 15), type := 30, pos := "digest.go:241", after := #[], guard := none }) (v := _) rfl (by kernel_rfl) (by kernel_rfl) (by kernel_rfl) (by kernel_rfl) (fun _ _ _ h => h) (yi_row rfl _ (.tmp 15) rfl rfl (fun W hW => ry.below' hW) Tryd.underlying30 (by rw [bvs_len, HY16.out]; exact size16)) (by assumption) ?_
                  try simp only [Act.put, List.setIfInBounds_toArray, List.set_cons_zero, List.set_cons_succ]
                  refine wpAnyL_ready (rs := [2]) (by kernel_rfl) (by simp) ?_
                  refine AllReadyL.cons (o := { dst := some 78, op := Op.call { callee := Callee.value (Operand.func 46), args := #[Operand.tmp 76, Operand.tmp 77], argTypes := #[30, 30] }, type := 22, pos := "digest.go:241", after := #[{ on := 0, ground := Ground.data }, { on := 1, ground := Ground.data }], guard := none }) rfl (fun K hK => ?_) AllReadyL.nil
                  go_simp
                  refine (node_any p x HP16.out HX16.out vq.drew N1 HN1.out).mono ?_
                  rintro e w11 ⟨A11, c11, rfl, own11, b11⟩
                  have hv11 : Below vq.heap.size vq w11 := hv0.trans (b11.mono hv0.size)
                  have rd11 := Rd.of_own own11
                  go_wp2_with fail
                  refine hK.out _ _ (hv11) (fun hHeld => ?_)
                  clear hK K
                  try simp only [Act.put, List.setIfInBounds_toArray, List.set_cons_zero, List.set_cons_succ]
                  refine wpAnyL_ready (rs := [3]) (by kernel_rfl) (by simp) ?_
                  refine AllReadyL.cons (o := { dst := some 79, op := Op.call { callee := Callee.value (Operand.func 36), args := #[Operand.tmp 78], argTypes := #[22] }, type := 30, pos := "digest.go:241", after := #[{ on := 2, ground := Ground.data }, { on := 2, ground := Ground.chain }], guard := none }) rfl (fun K hK => ?_) AllReadyL.nil
                  go_simp
                  refine (short_any A11 N1 c11 _ HN1.out (by omega) _ w11 rd11 (Nat.le_refl _) (HTQ.out _ hv11)).mono ?_
                  rintro e w12 ⟨rfl, b12⟩
                  have hv12 : Below vq.heap.size vq w12 := hv11.trans (b12.mono hv11.size)
                  go_wp2_with fail
                  refine hK.out _ _ (hv12) (fun hHeld => ?_)
                  clear hK K
                  try simp only [Act.put, List.setIfInBounds_toArray, List.set_cons_zero, List.set_cons_succ]
                  refine wpAnyL_ready (rs := [6]) (by kernel_rfl) (by simp) ?_
                  refine AllReadyL.cons (o := { dst := some 82, op := Op.call { callee := Callee.value (Operand.func 46), args := #[Operand.tmp 80, Operand.tmp 81], argTypes := #[30, 30] }, type := 22, pos := "digest.go:241", after := #[{ on := 4, ground := Ground.data }, { on := 5, ground := Ground.data }, { on := 3, ground := Ground.chain }], guard := none }) rfl (fun K hK => ?_) AllReadyL.nil
                  go_simp
                  refine (node_any p y HP16.out HY16.out w12 N2 HN2.out).mono ?_
                  rintro e w13 ⟨A13, c13, rfl, own13, b13⟩
                  have hv13 : Below vq.heap.size vq w13 := hv12.trans (b13.mono hv12.size)
                  have rd13 := Rd.of_own own13
                  go_wp2_with fail
                  refine hK.out _ _ (hv13) (fun hHeld => ?_)
                  clear hK K
                  try simp only [Act.put, List.setIfInBounds_toArray, List.set_cons_zero, List.set_cons_succ]
                  refine wpAnyL_ready (rs := [7]) (by kernel_rfl) (by simp) ?_
                  refine AllReadyL.cons (o := { dst := some 83, op := Op.call { callee := Callee.value (Operand.func 36), args := #[Operand.tmp 82], argTypes := #[22] }, type := 30, pos := "digest.go:241", after := #[{ on := 6, ground := Ground.data }, { on := 6, ground := Ground.chain }], guard := none }) rfl (fun K hK => ?_) AllReadyL.nil
                  go_simp
                  refine (short_any A13 N2 c13 _ HN2.out (by omega) _ w13 rd13 (Nat.le_refl _) (HTQ.out _ hv13)).mono ?_
                  rintro e w14 ⟨rfl, b14⟩
                  have hv14 : Below vq.heap.size vq w14 := hv13.trans (b14.mono hv13.size)
                  go_wp2_with fail
                  refine hK.out _ _ (hv14) (fun hHeld => ?_)
                  clear hK K
                  try simp only [Act.put, List.setIfInBounds_toArray, List.set_cons_zero, List.set_cons_succ]
                  refine wpAnyL_ready (rs := [8]) (by kernel_rfl) (by simp) ?_
                  refine AllReadyL.late (o := { dst := none, op := Op.store 30 (Operand.tmp 14) (Operand.tmp 79), type := 0, pos := "digest.go:241", after := #[{ on := 3, ground := Ground.data }, { on := 7, ground := Ground.chain }, { on := 0, ground := Ground.phase }, { on := 1, ground := Ground.phase }, { on := 2, ground := Ground.phase }, { on := 3, ground := Ground.phase }, { on := 4, ground := Ground.textOnly Departure.lateStores }, { on := 5, ground := Ground.textOnly Departure.lateStores }, { on := 6, ground := Ground.textOnly Departure.lateStoresUnsure }, { on := 7, ground := Ground.textOnly Departure.lateStoresUnsure }], guard := none }) rfl (by rfl) (fun K hK => ?_) AllReadyL.nil
                  rw [if_pos (by rfl)]
                  refine wp_storeRow _ (.tmp 14) (.tmp 79) rfl (rx.below' hv14) rfl rfl (by rw [bvs_len, HS1.out]; exact size16) (by rw [bvs_len, bvs_len, HS1.out]; exact HX16.out) (bvs_all _) ?_
                  intro w15 rx15 g15 z15
                  have ry15 := (ry.below' hv14).grown g15 (fun e => hne (Option.some.inj e))
                  clear z15
                  refine hK.out _ _ ?_
                  clear hK K
                  try simp only [Act.put, List.setIfInBounds_toArray, List.set_cons_zero, List.set_cons_succ]
                  refine wpAnyL_ready (rs := [9]) (by kernel_rfl) (by simp) ?_
                  refine AllReadyL.late (o := { dst := none, op := Op.store 30 (Operand.tmp 15) (Operand.tmp 83), type := 0, pos := "digest.go:241", after := #[{ on := 7, ground := Ground.data }, { on := 8, ground := Ground.chain }, { on := 0, ground := Ground.phase }, { on := 1, ground := Ground.phase }, { on := 2, ground := Ground.phase }, { on := 3, ground := Ground.phase }, { on := 4, ground := Ground.phase }, { on := 5, ground := Ground.phase }, { on := 6, ground := Ground.phase }, { on := 7, ground := Ground.phase }, { on := 8, ground := Ground.phase }], guard := none }) rfl (by rfl) (fun K hK => ?_) AllReadyL.nil
                  rw [if_pos (by rfl)]
                  refine wp_storeRow _ (.tmp 15) (.tmp 83) rfl ry15 rfl rfl (by rw [bvs_len, HS2.out]; exact size16) (by rw [bvs_len, bvs_len, HS2.out]; exact HY16.out) (bvs_all _) ?_
                  intro w16 ry16 g16 z16
                  have rx16 := rx15.grown g16 (fun e => hne (Option.some.inj e).symm)
                  clear z16
                  refine hK.out _ _ ?_
                  clear hK K
                  try simp only [Act.put, List.setIfInBounds_toArray, List.set_cons_zero, List.set_cons_succ]
                  refine wpAnyL_done (by kernel_rfl) ?_ _
                  try simp only [List.toList_toArray]
                  go_wp2_with fail
                  go_roundw
                  case rel =>
                    have q14 : Below W0.heap.size W0 w14 := HBQ.out.trans (hv14.mono HBQ.out.size)
                    have q15 : Below W0.heap.size W0 w15 := q14.grown g15 q14.size (fun j hj => by have hj := Option.some.inj hj; omega)
                    have q16 : Below W0.heap.size W0 w16 := q15.grown g16 q15.size (fun j hj => by have hj := Option.some.inj hj; omega)
                    refine ⟨k + 1, HKK.out, by go_num, by rw [HF.out]; exact rx16, by rw [HF.out]; exact ry16, Lib.hid q16, Lib.hid fun g t hA ht => ?_⟩
                    have h1 := HC.out g t hA ht
                    have h2 := h1.2
                    refine ⟨?_, h2⟩
                    have h3 := ((HVQ.out.trans (hv14.mono HVQ.out.size)).cell (p := ⟨g, t, none⟩) (show g < wr.heap.size by have := hbxl; omega)).trans h1.1
                    have h4 := (World.cell?_of_block (a := ⟨g, t, none⟩) (g15.block g (by have := hv14.size; have := HVQ.out.size; have := hbxl; omega) (ne_some (by omega)))).trans h3
                    exact (World.cell?_of_block (a := ⟨g, t, none⟩) (g16.block g (by have := g15.size; have := hv14.size; have := HVQ.out.size; have := hbxl; omega) (ne_some (by omega)))).trans h4
                  case measure => (have := HKK.out; simp [intOf]; omega)
                | false =>
                  have HF : Hid (Mk.foldN x0 bs.reverse ps (k + 1) = (x, Mk.short (Mk.node y p))) := Lib.hid hfs
                  clear hfs
                  go_wp2_with (first
                    | (refine wpList_load_mid rfl _ (.tmp 70) rfl bp0 (off0 + k * 16) rfl (bvs p) _ hrg Tryd.underlying30 rfl (by rw [bvs_len, HP16.out]; exact size16) ?_)
                    | (refine wpList_allocRow rfl _ rfl _ info16 ?_; intro v1 r1 q1 z1; clear z1)
                    | (refine wpList_storeRow rfl _ (.tmp 17) (.tmp 71) rfl r1 rfl rfl (by rw [bvs_len, HP16.out]; exact size16) (by rw [bvs_len, List.length_replicate]; exact HP16.out.symm) (bvs_all _) ?_; intro vq rp gq zq; have QQ : Below wr.heap.size wr vq := q1.grown gq q1.size (by intro j hj; have hj := Option.some.inj hj; omega); have cbq := (QQ.cell (p := ⟨gb3, k, none⟩) (show gb3 < wr.heap.size by omega)).trans hcb; have ryq := ry.below' QQ; clear zq)
                    | (refine wpList_loadRow rfl _ (.tmp 15) rfl ryq rfl Tryd.underlying30 (by rw [bvs_len, HY16.out]; exact size16) ?_)
                    | (refine wpList_loadRow rfl _ (.tmp 17) rfl rp rfl Tryd.underlying30 (by rw [bvs_len, HP16.out]; exact size16) ?_)
                    | (go_at_call 46; refine (node_any y p HY16.out HP16.out vq N3 HN3.out).mono ?_; rintro e v8 ⟨A8, c8, rfl, own8, q8⟩; have Q8 := QQ.trans (q8.mono QQ.size); have rd8 := Rd.of_own own8)
                    | (go_at_call 36; refine (short_any A8 N3 c8 _ HN3.out (by omega) _ v8 rd8 (Nat.le_refl _) (HTV.out _ Q8)).mono ?_; rintro e v9 ⟨rfl, q9⟩; have Q9 := Q8.trans (q9.mono Q8.size); have ry9 := ry.below' Q9)
                    | (refine wpList_storeRow rfl _ (.tmp 15) (.tmp 87) rfl ry9 rfl rfl (by rw [bvs_len, HS3.out]; exact size16) (by rw [bvs_len, bvs_len, HS3.out]; exact HY16.out) (bvs_all _) ?_; intro v10 ry10 g10 z10; clear z10)
                    | fail)
                  go_roundw
                  case rel =>
                    have rx10 := (rx.below' Q9).grown g10 (fun e => hne (Option.some.inj e).symm)
                    have q9' : Below W0.heap.size W0 v9 := HB.out.trans (Q9.mono HB.out.size)
                    have q10 : Below W0.heap.size W0 v10 := q9'.grown g10 q9'.size (fun j hj => by have hj := Option.some.inj hj; omega)
                    refine ⟨k + 1, HKK.out, by go_num, by rw [HF.out]; exact rx10, by rw [HF.out]; exact ry10, Lib.hid q10, Lib.hid fun g t hA ht => ?_⟩
                    have h1 := HC.out g t hA ht
                    refine ⟨?_, h1.2⟩
                    have h2 := h1.2
                    have h3 := (Q9.cell (p := ⟨g, t, none⟩) (show g < wr.heap.size by omega)).trans h1.1
                    exact (World.cell?_of_block (a := ⟨g, t, none⟩) (g10.block g (by have := Q9.size; omega) (ne_some (by omega)))).trans h3
                  case measure => (have := HKK.out; simp [intOf]; omega)
              · have hqn' : k = qn := by omega
                subst hqn'
                have hfd := Mk.foldN_done x0 bs.reverse ps k (by rw [HPL.out]; exact Nat.le_refl _)
                have hf16 := Mk.foldN_16 x0 HX0.out bs.reverse ps k
                rw [hfd] at rx ry hf16
                have hres : res = ((Mk.fold x0 bs.reverse ps).1 == old && (Mk.fold x0 bs.reverse ps).2 == r) := by rw [HRES.out]; unfold Mk.check; rw [if_pos (by rw [HPL.out, HBL.out])]
                generalize Mk.fold x0 bs.reverse ps = xy at rx ry hf16 hres
                obtain ⟨x, y⟩ := xy
                dsimp only at rx ry hf16 hres
                have HX16 : Hid (x.length = 16) := Lib.hid hf16.1
                have HY16 : Hid (y.length = 16) := Lib.hid hf16.2
                have r5' := r5.below' HB.out
                have r6' := r6.below' HB.out
                have hq1 : ∀ W, (binOp .eql 30 (.agg (bvs x).toArray) (.agg (bvs old).toArray)).run Tryd.prog W = .ok (.bool (x == old)) W := fun W => run_eql_digE W HX16.out HO16.out
                have hq2 : ∀ W, (binOp .eql 30 (.agg (bvs y).toArray) (.agg (bvs r).toArray)).run Tryd.prog W = .ok (.bool (y == r)) W := fun W => run_eql_digE W HY16.out HR16.out
                generalize (x == old) = e1 at *
                generalize (y == r) = e2 at *
                have HRE := Lib.hid hres
                clear hres hfd hf16
                cases e1 with
                | false =>
                  go_wp2_with (first
                    | (refine wpList_loadRow rfl _ (.tmp 14) rfl rx rfl Tryd.underlying30 (by rw [bvs_len, HX16.out]; exact size16) ?_)
                    | (refine wpList_loadRow rfl _ (.tmp 5) rfl r5' rfl Tryd.underlying30 (by rw [bvs_len, HO16.out]; exact size16) ?_)
                    | fail)
                  have hre := HRE.out
                  subst hre
                  exact bodyPost_ret (results_tmp rfl _ _ _) rfl ⟨rfl, hbW.trans (HB.out.mono hbW.size)⟩
                | true =>
                  go_wp2_with (first
                    | (refine wpList_loadRow rfl _ (.tmp 14) rfl rx rfl Tryd.underlying30 (by rw [bvs_len, HX16.out]; exact size16) ?_)
                    | (refine wpList_loadRow rfl _ (.tmp 5) rfl r5' rfl Tryd.underlying30 (by rw [bvs_len, HO16.out]; exact size16) ?_)
                    | (refine wpList_loadRowG rfl _ (.tmp 15) rfl ry rfl Tryd.underlying30 (by rw [bvs_len, HY16.out]; exact size16) ?_)
                    | (refine wpList_loadRowG rfl _ (.tmp 6) rfl r6' rfl Tryd.underlying30 (by rw [bvs_len, HR16.out]; exact size16) ?_)
                    | fail)
                  have hre := HRE.out
                  subst hre
                  exact bodyPost_ret (results_tmp rfl _ _ _) rfl ⟨rfl, hbW.trans (HB.out.mono hbW.size)⟩
          · have hne : ((qn : Int) != (kk : Int)) = true := by rw [bne_iff_ne]; omega
            have hres : res = false := by rw [HRES.out]; unfold Mk.check; rw [if_neg (by rw [HPL.out, HBL.out]; exact hlen)]
            go_wp2
            subst hres
            exact bodyPost_ret (results_tmp rfl _ _ _) rfl ⟨rfl, hbW.trans (hq5.mono hbW.size)⟩
end Go.Proofs.YtfnbcchmembomaaDoor
