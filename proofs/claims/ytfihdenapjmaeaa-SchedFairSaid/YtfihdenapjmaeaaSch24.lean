/- The reference's choice of a task, which changes the credits in place. Conditions: valid credits in a row of their own; at most 1000 tasks. -/
import Derived.Test.YtfihdenapjmaeaaSch23
import Derived.Test.YtfihdenapjmaeaaSch12
namespace Go.Proofs.Ytfihdenapjmaeaa
set_option linter.unusedVariables false
set_option linter.unusedSimpArgs false
open Go.RowKit
/-- the kind with the greatest credit, as the reference keeps it -/
def topI (t : Nat) : Int := if t = 0 then -1 else (t : Int)
theorem topI_zero : topI 0 = -1 := rfl
theorem topI_succ (t : Nat) : topI (t + 1) = (t : Int) + 1 := by unfold topI; rw [if_neg (by omega)]; push_cast; rfl
theorem refWeight_b (k v : Int) (h : Sc.wt k = v) (W : World) : Calls Try.prog 17 #[.int .i64 k] W fun e w' => e = .returned (.int .i64 v) ∧ Below W.heap.size W w' :=
  (refWeight_any k W).mono fun e w' h1 => ⟨h ▸ h1.1, h1.2 ▸ Below.refl _ _⟩
set_option maxHeartbeats 2000000 in
theorem step_urgent (g cc : Nat) (cr : List Int) (hv : Sc.Vld cr) (A : Option Addr) (n c : Nat) (L : List Sc.Tk) (hL : L.length = n) (hn : n ≤ 1000) (gb c2 : Nat) (gn : Nat → Bool) (B : Nat) (w : World) (hr : Rd w B 5 A n (L.flatMap tcs)) (hB : B ≤ w.heap.size) (hA : ∀ W, w.grownBy W (some g) → Rd W B 5 A n (L.flatMap tcs)) (hg : gb < w.heap.size) (hne : gb ≠ g) (hgn : ∀ t, t < n → w.cell? ⟨gb, t, none⟩ = some (.bool (gn t))) (hc : Cr5 w g cr) (hu : 0 ≤ Sc.best L (ixs gn n) 1 Sc.urg) : Calls Try.prog 27 #[.slice (some ⟨g, 0, none⟩) 5 cc, .slice A n c, .slice (some ⟨gb, 0, none⟩) n c2] w (NextRes cr L (ixs gn n) g w) := by
  have HB := Lib.hid (refBest_any 1 true A n c L hL hn gb c2 gn B w hr hB hg hgn)
  rw [best_isU_urg] at HB
  have HN := Lib.hid (show Sc.next cr L (ixs gn n) = (cr, Sc.best L (ixs gn n) 1 Sc.urg) by unfold Sc.next; rw [if_pos hu])
  generalize Sc.best L (ixs gn n) 1 Sc.urg = u at *
  clear hr hgn
  go_enter Try.func27, Try.ntmps27
  go_wp2_with (go_at_call 32; refine HB.out.mono ?_; rintro e w1 ⟨rfl, b1⟩)
  go_ret
  refine ⟨ret_int (by rw [HN.out]), ?_, ?_⟩
  · rw [HN.out]; exact hc.below b1
  · exact (grownBy_of_below b1).any
set_option maxRecDepth 100000 in
set_option maxHeartbeats 8000000 in
theorem step_turn (g cc : Nat) (cr : List Int) (hv : Sc.Vld cr) (A : Option Addr) (n c : Nat) (L : List Sc.Tk) (hL : L.length = n) (hn : n ≤ 1000) (gb c2 : Nat) (gn : Nat → Bool) (B : Nat) (w : World) (hr : Rd w B 5 A n (L.flatMap tcs)) (hB : B ≤ w.heap.size) (hA : ∀ W, w.grownBy W (some g) → Rd W B 5 A n (L.flatMap tcs)) (hg : gb < w.heap.size) (hne : gb ≠ g) (hgn : ∀ t, t < n → w.cell? ⟨gb, t, none⟩ = some (.bool (gn t))) (hc : Cr5 w g cr) (hu : ¬ 0 ≤ Sc.best L (ixs gn n) 1 Sc.urg) : Calls Try.prog 27 #[.slice (some ⟨g, 0, none⟩) 5 cc, .slice A n c, .slice (some ⟨gb, 0, none⟩) n c2] w (NextRes cr L (ixs gn n) g w) := by
  have HB := Lib.hid (refBest_any 1 true A n c L hL hn gb c2 gn B w hr hB hg hgn)
  rw [best_isU_urg] at HB
  have HN := Lib.hid (show Sc.next cr L (ixs gn n) = ((Sc.turn (Sc.av L (ixs gn n)) cr).1, if (Sc.turn (Sc.av L (ixs gn n)) cr).2 = 0 then -1 else Sc.best L (ixs gn n) (Sc.turn (Sc.av L (ixs gn n)) cr).2 Sc.can) by unfold Sc.next; rw [if_neg hu])
  have hBC := fun (W : World) (hW : w.grownBy W (some g)) (k : Nat) => refBest_any ((k : Int) + 1) false A n c L hL hn gb c2 gn B W (hA W hW) (Nat.le_trans hB hW.size) (Nat.lt_of_lt_of_le hg hW.size) (fun t ht => far_grown hW (hgn t ht) hg hne)
  simp only [best_isU_can] at hBC
  have HBC := Lib.hid hBC
  generalize Sc.best L (ixs gn n) 1 Sc.urg = u at *
  have hgw := hc.lt
  have HV := Lib.hid hv
  have HC0 := Lib.hid hc
  clear hr hA hc hBC hgn
  go_enter Try.func27, Try.ntmps27
  go_wp2_with (go_at_call 32; refine HB.out.mono ?_; rintro e w0 ⟨rfl, b0⟩)
  have G1 : w.grownBy w0 (some g) := (grownBy_of_below b0).any
  have C1 := HC0.out.below b0
  have HG1 := Lib.hid G1
  clear b0 G1
  go_loopw [8, 9, 10] (fun u8 u9 u10 wr => ∃ k : Nat, k ≤ 5 ∧ u8 = .int .i64 (Sc.kinds (Sc.av L (ixs gn n)) cr k).2.1 ∧ u9 = .int .i64 (topI (Sc.kinds (Sc.av L (ixs gn n)) cr k).2.2) ∧ u10 = .int .i64 ((k : Int) + 1) ∧ Cr5 wr g (Sc.kinds (Sc.av L (ixs gn n)) cr k).1 ∧ w0.grownBy wr (some g)) (fun _ _ u10 _ => (6 - intOf u10).toNat)
  case atStart => exact ⟨0, by omega, rfl, rfl, rfl, C1, World.grownBy.refl w0 _⟩
  case round =>
    clear C1
    obtain ⟨k, hk, rfl, rfl, rfl, C2, G2⟩ := hrel
    have HG2 := Lib.hid G2
    by_cases hlt : k < 5
    · have hsq := Sc.kinds_sq (Sc.av L (ixs gn n)) cr HV.out.1 k hk
      have HSU := Lib.hid (Sc.kinds_succ (Sc.av L (ixs gn n)) cr k)
      have hav := av_eq L (ixs gn n) k
      have HBK := Lib.hid (HBC.out wr (HG1.out.trans G2) k)
      obtain ⟨st, hst⟩ : ∃ st, (Sc.kinds (Sc.av L (ixs gn n)) cr k) = st := ⟨_, rfl⟩
      rw [hst] at C2 hsq HSU ⊢
      obtain ⟨cR, S, top⟩ := st
      simp only [] at C2 hsq ⊢
      obtain ⟨bv, hbv⟩ : ∃ bv, Sc.best L (ixs gn n) ((k : Int) + 1) Sc.can = bv := ⟨_, rfl⟩
      rw [hbv] at hav HBK
      by_cases hb0 : 0 ≤ bv
      · obtain ⟨wv, hwv⟩ : ∃ x, Sc.wt ((k : Int) + 1) = x := ⟨_, rfl⟩
        obtain ⟨cv, hcv⟩ : ∃ x, cR.getD k 0 = x := ⟨_, rfl⟩
        have HWT := Lib.hid (fun W => refWeight_b ((k : Int) + 1) wv hwv W)
        have hwr := Sc.wt_range (k + 1)
        rw [Int.natCast_add] at hwr
        rw [show Sc.wt ((k : Int) + ((1 : Nat) : Int)) = wv from hwv] at hwr
        have HE : Hid (Sc.kinds (Sc.av L (ixs gn n)) cr (k + 1) = (cR.set k (cv + wv), S + wv, if top = 0 ∨ (cR.set k (cv + wv)).getD (top - 1) 0 < cv + wv then k + 1 else top)) := Lib.hid (by
          rw [HSU.out]; unfold Sc.one; rw [hav, decide_eq_true hb0, if_pos rfl]
          simp only [Nat.add_sub_cancel]
          rw [hcv, Int.natCast_add, show Sc.wt ((k : Int) + ((1 : Nat) : Int)) = wv from hwv])
        have hcvr : -1000 ≤ cv ∧ cv ≤ 1004 := by
          have h1 := hsq.2.2.2.2.1 k
          have h2 : -1000 ≤ cr.getD k 0 ∧ cr.getD k 0 ≤ 1000 := by
            have h5 := HV.out.1
            have : cr.getD k 0 = cr[k]'(by omega) := by simp [List.getD, show k < cr.length by omega]
            rw [this]; exact HV.out.2 _ (List.getElem_mem _)
          omega
        have hS : 0 ≤ S ∧ S ≤ 10 := ⟨hsq.2.1, Int.le_trans hsq.2.2.1 (by unfold Sc.wmax; repeat' split <;> omega)⟩
        have HT5 : Hid (top ≤ k ∧ k < 5) := Lib.hid ⟨hsq.2.2.2.2.2.2.1, hlt⟩
        have HC2 := Lib.hid C2
        have HLT := Lib.hid hlt
        have HLN : Hid (k < cR.length) := Lib.hid (by rw [C2.len]; exact hlt)
        have HCV0 := Lib.hid hcv
        have e1 : IntKind.i64.wrap (k : Int) = (k : Int) := IntWalk.i64_in _ (by omega)
        have e2 : IntKind.i64.wrap (cv + wv) = cv + wv := IntWalk.i64_in _ (by omega)
        have ik0 : (0 : Int) ≤ (k : Int) := by omega
        have ik1 : (k : Int) < 5 := by omega
        obtain ⟨hc1, hc2⟩ := hcvr
        obtain ⟨hS1, hS2⟩ := hS
        obtain ⟨hw1, hw2⟩ := hwr
        clear hsq hav hst hbv C2 hwv hcv
        go_wp2_with (go_at_call 32; refine HBK.out.mono ?_; rintro e w2 ⟨rfl, b2⟩)
        have C2 := HC2.out.below b2
        have HCV : Hid (w2.cell? ⟨g, k, none⟩ = some (.int .i64 cv)) := Lib.hid (by rw [C2.cell k hlt, HCV0.out])
        have hv0 : Below w2.heap.size w2 w2.drew := (Below.refl _ _).drew
        refine wp_region_late (fun W => Below w2.heap.size w2 W) [12] (by kernel_rfl) (hv0) (fun hHeld => ?_)
        refine wpAnyL_take (i := 0) (oi := { dst := some 27, op := Op.move (Operand.tmp 0), type := 22, pos := "ref.go:93", after := #[], guard := none }) (v := ?v0_1001) rfl (by kernel_rfl) (by kernel_rfl) (by kernel_rfl) (by kernel_rfl) (fun _ _ _ h => h) (Or.inl ⟨by rfl, ?h0_1001⟩) (by assumption) ?r0_1001
        case h0_1001 =>
          intro W hSW
          try dsimp only at hSW
          go_simp
          try with_reducible rfl
        try simp only [Act.put, List.setIfInBounds_toArray, List.set_cons_zero, List.set_cons_succ]
        refine wpAnyL_take (i := 1) (oi := { dst := some 28, op := Op.move (Operand.tmp 10), type := 3, pos := "ref.go:93", after := #[], guard := none }) (v := ?v1_1002) rfl (by kernel_rfl) (by kernel_rfl) (by kernel_rfl) (by kernel_rfl) (fun _ _ _ h => h) (Or.inl ⟨by rfl, ?h1_1002⟩) (by assumption) ?r1_1002
        case h1_1002 =>
          intro W hSW
          try dsimp only at hSW
          go_simp
          try with_reducible rfl
        try simp only [Act.put, List.setIfInBounds_toArray, List.set_cons_zero, List.set_cons_succ]
        refine wpAnyL_take (i := 2) (oi := { dst := some 29, op := Op.binOp BinOp.sub 3 (Operand.tmp 28) (Operand.const (Value.int IntKind.i64 1)) 3, type := 3, pos := "ref.go:93", after := #[{ on := 1, ground := Ground.data }], guard := none }) (v := ?v2_1003) rfl (by kernel_rfl) (by kernel_rfl) (by kernel_rfl) (by kernel_rfl) (fun _ _ _ h => h) (Or.inl ⟨by rfl, ?h2_1003⟩) (by assumption) ?r2_1003
        case h2_1003 =>
          intro W hSW
          try dsimp only at hSW
          go_simp
          try with_reducible rfl
        try simp only [Act.put, List.setIfInBounds_toArray, List.set_cons_zero, List.set_cons_succ]
        refine wpAnyL_take (i := 3) (oi := { dst := some 30, op := Op.move (Operand.tmp 0), type := 22, pos := "ref.go:93", after := #[], guard := none }) (v := ?v3_1004) rfl (by kernel_rfl) (by kernel_rfl) (by kernel_rfl) (by kernel_rfl) (fun _ _ _ h => h) (Or.inl ⟨by rfl, ?h3_1004⟩) (by assumption) ?r3_1004
        case h3_1004 =>
          intro W hSW
          try dsimp only at hSW
          go_simp
          try with_reducible rfl
        try simp only [Act.put, List.setIfInBounds_toArray, List.set_cons_zero, List.set_cons_succ]
        refine wpAnyL_take (i := 4) (oi := { dst := some 31, op := Op.move (Operand.tmp 10), type := 3, pos := "ref.go:93", after := #[], guard := none }) (v := ?v4_1005) rfl (by kernel_rfl) (by kernel_rfl) (by kernel_rfl) (by kernel_rfl) (fun _ _ _ h => h) (Or.inl ⟨by rfl, ?h4_1005⟩) (by assumption) ?r4_1005
        case h4_1005 =>
          intro W hSW
          try dsimp only at hSW
          go_simp
          try with_reducible rfl
        try simp only [Act.put, List.setIfInBounds_toArray, List.set_cons_zero, List.set_cons_succ]
        refine wpAnyL_take (i := 5) (oi := { dst := some 32, op := Op.binOp BinOp.sub 3 (Operand.tmp 31) (Operand.const (Value.int IntKind.i64 1)) 3, type := 3, pos := "ref.go:93", after := #[{ on := 4, ground := Ground.data }], guard := none }) (v := ?v5_1006) rfl (by kernel_rfl) (by kernel_rfl) (by kernel_rfl) (by kernel_rfl) (fun _ _ _ h => h) (Or.inl ⟨by rfl, ?h5_1006⟩) (by assumption) ?r5_1006
        case h5_1006 =>
          intro W hSW
          try dsimp only at hSW
          go_simp
          try with_reducible rfl
        try simp only [Act.put, List.setIfInBounds_toArray, List.set_cons_zero, List.set_cons_succ]
        refine wpAnyL_take (i := 6) (oi := { dst := some 33, op := Op.indexAddr 22 (Operand.tmp 30) (Operand.tmp 32), type := 0, pos := "ref.go:93", after := #[{ on := 3, ground := Ground.data }, { on := 5, ground := Ground.data }], guard := none }) (v := ?v6_1007) rfl (by kernel_rfl) (by kernel_rfl) (by kernel_rfl) (by kernel_rfl) (fun _ _ _ h => h) (Or.inl ⟨by rfl, ?h6_1007⟩) (by assumption) ?r6_1007
        case h6_1007 =>
          intro W hSW
          try dsimp only at hSW
          go_simp
          try with_reducible rfl
        try simp only [Act.put, List.setIfInBounds_toArray, List.set_cons_zero, List.set_cons_succ]
        refine wpAnyL_take (i := 7) (oi := { dst := some 34, op := Op.load 3 (Operand.tmp 33), type := 3, pos := "ref.go:93", after := #[{ on := 6, ground := Ground.data }], guard := none }) (v := ?v7_1008) rfl (by kernel_rfl) (by kernel_rfl) (by kernel_rfl) (by kernel_rfl) (fun _ _ _ h => h) (Or.inl ⟨by rfl, ?h7_1008⟩) (by assumption) ?r7_1008
        case h7_1008 =>
          intro W hSW
          try dsimp only at hSW
          have hcc := (hSW.cell (p := ⟨g, k, none⟩) C2.lt).trans HCV.out
          go_simp
          try with_reducible rfl
        try simp only [Act.put, List.setIfInBounds_toArray, List.set_cons_zero, List.set_cons_succ]
        refine wpAnyL_take (i := 8) (oi := { dst := some 35, op := Op.move (Operand.tmp 10), type := 3, pos := "ref.go:93", after := #[], guard := none }) (v := ?v8_1009) rfl (by kernel_rfl) (by kernel_rfl) (by kernel_rfl) (by kernel_rfl) (fun _ _ _ h => h) (Or.inl ⟨by rfl, ?h8_1009⟩) (by assumption) ?r8_1009
        case h8_1009 =>
          intro W hSW
          try dsimp only at hSW
          go_simp
          try with_reducible rfl
        try simp only [Act.put, List.setIfInBounds_toArray, List.set_cons_zero, List.set_cons_succ]
        refine wpAnyL_ready (rs := [9]) (by kernel_rfl) (by simp) ?_
        refine AllReadyL.cons (o := { dst := some 36, op := Op.call { callee := Callee.value (Operand.func 17), args := #[Operand.tmp 35], argTypes := #[3] }, type := 3, pos := "ref.go:93", after := #[{ on := 8, ground := Ground.data }], guard := none }) rfl (fun K hK => ?_) AllReadyL.nil
        go_simp
        refine (HWT.out _).mono ?_
        rintro e w1 ⟨rfl, b1⟩
        have hv1 : Below w2.heap.size w2 w1 := hv0.trans (b1.mono hv0.size)
        go_wp2_with fail
        have C4 := C2.below hv1
        have k4 := C4.cell k HLT.out
        have f4 := C4.free k HLT.out
        refine hK.out _ _ (hv1) (fun hHeld => ?_)
        clear hK K
        try simp only [Act.put, List.setIfInBounds_toArray, List.set_cons_zero, List.set_cons_succ]
        refine wpAnyL_take (i := 10) (oi := { dst := some 37, op := Op.binOp BinOp.add 3 (Operand.tmp 34) (Operand.tmp 36) 3, type := 3, pos := "ref.go:93", after := #[{ on := 7, ground := Ground.data }, { on := 9, ground := Ground.data }], guard := none }) (v := ?v10_1010) rfl (by kernel_rfl) (by kernel_rfl) (by kernel_rfl) (by kernel_rfl) (fun _ _ _ h => h) (Or.inl ⟨by rfl, ?h10_1010⟩) (by assumption) ?r10_1010
        case h10_1010 =>
          intro W hSW
          try dsimp only at hSW
          go_simp
          try with_reducible rfl
        try simp only [Act.put, List.setIfInBounds_toArray, List.set_cons_zero, List.set_cons_succ]
        refine wpAnyL_take (i := 11) (oi := { dst := some 38, op := Op.indexAddr 22 (Operand.tmp 27) (Operand.tmp 29), type := 0, pos := "ref.go:93", after := #[{ on := 0, ground := Ground.data }, { on := 2, ground := Ground.data }, { on := 0, ground := Ground.phase }, { on := 1, ground := Ground.phase }, { on := 2, ground := Ground.phase }, { on := 3, ground := Ground.phase }, { on := 4, ground := Ground.phase }, { on := 5, ground := Ground.phase }, { on := 6, ground := Ground.phase }, { on := 7, ground := Ground.phase }, { on := 8, ground := Ground.phase }, { on := 9, ground := Ground.phase }, { on := 10, ground := Ground.phase }], guard := none }) (v := ?v11_1011) rfl (by kernel_rfl) (by kernel_rfl) (by kernel_rfl) (by kernel_rfl) (fun _ _ _ h => h) (Or.inl ⟨by rfl, ?h11_1011⟩) (by assumption) ?r11_1011
        case h11_1011 =>
          intro W hSW
          try dsimp only at hSW
          go_simp
          try with_reducible rfl
        try simp only [Act.put, List.setIfInBounds_toArray, List.set_cons_zero, List.set_cons_succ]
        refine wpAnyL_ready (rs := [12]) (by kernel_rfl) (by simp) ?_
        refine AllReadyL.late (o := { dst := none, op := Op.store 3 (Operand.tmp 38) (Operand.tmp 37), type := 0, pos := "ref.go:93", after := #[{ on := 11, ground := Ground.data }, { on := 10, ground := Ground.data }, { on := 9, ground := Ground.chain }, { on := 0, ground := Ground.phase }, { on := 1, ground := Ground.phase }, { on := 2, ground := Ground.phase }, { on := 3, ground := Ground.phase }, { on := 4, ground := Ground.phase }, { on := 5, ground := Ground.phase }, { on := 6, ground := Ground.phase }, { on := 7, ground := Ground.phase }, { on := 8, ground := Ground.phase }, { on := 9, ground := Ground.phase }, { on := 10, ground := Ground.phase }], guard := none }) rfl (by rfl) (fun K hK => ?_) AllReadyL.nil
        go_simp
        obtain ⟨w5, hw5⟩ : ∃ w', w1.setCell ⟨g, k, none⟩ (.int .i64 (cv + wv)) = w' := ⟨_, rfl⟩
        rw [hw5]
        have C5 : Cr5 w5 g (cR.set k (cv + wv)) := by rw [← hw5]; exact C4.set HLT.out _
        have G5 : w2.grownBy w5 (some g) := by rw [← hw5]; exact (grownBy_of_below hv1).any.trans (grown_setCell _ _ _ _)
        have w2 := w5
        have hv2 := hv1
        clear hw5 k4 f4 C4
        refine hK.out _ _ ?_
        clear hK K
        try simp only [Act.put, List.setIfInBounds_toArray, List.set_cons_zero, List.set_cons_succ]
        refine wpAnyL_done (by kernel_rfl) ?_ _
        go_wp2_with (go_at_call 17; refine (HWT.out _).mono ?_; rintro e w6 ⟨rfl, b6⟩)
        have C6 := C5.below b6
        have k6 := C6.cell k HLT.out
        rw [Sc.getD_set_eq HLN.out] at k6
        obtain ⟨top0, htop0⟩ : ∃ x, top = x := ⟨_, rfl⟩
        rw [htop0] at HE
        cases top with
        | zero =>
          have HTP : Hid ((if top0 = 0 ∨ (cR.set k (cv + wv)).getD (top0 - 1) 0 < cv + wv then k + 1 else top0) = k + 1) := Lib.hid (by rw [if_pos (Or.inl htop0.symm)])
          clear htop0 HT5
          rw [topI_zero]
          go_quiet (fail)
          go_wp2
          go_roundw
          case rel => exact ⟨k + 1, by omega, by rw [HE.out], by rw [HE.out]; show _ = Value.int .i64 (topI (if top0 = 0 ∨ (cR.set k (cv + wv)).getD (top0 - 1) 0 < cv + wv then k + 1 else top0)); rw [HTP.out, topI_succ], by go_num, by rw [HE.out]; first | exact C6 | exact C6.drewN _, HG2.out.trans ((grownBy_of_below b2).any.trans (G5.trans (by first | exact (grownBy_of_below b6).any | exact grown_drewN (grownBy_of_below b6).any _)))⟩
          case measure => simp [intOf]; omega
        | succ t =>
          have ht5 : t < 5 := by have := HT5.out; omega
          have t6 := C6.cell t ht5
          obtain ⟨tv, htv⟩ : ∃ x, (cR.set k (cv + wv)).getD t 0 = x := ⟨_, rfl⟩
          rw [htv] at t6
          have et0 : decide ((t : Int) + 1 < 0) = false := decide_eq_false (by omega)
          have et1 : IntKind.i64.wrap (t : Int) = (t : Int) := IntWalk.i64_in _ (by omega)
          have et2 : (0 : Int) ≤ (t : Int) := by omega
          have et3 : (t : Int) < 5 := by omega
          rw [topI_succ]
          by_cases hcmp : tv < cv + wv
          · have dc : decide (tv < cv + wv) = true := by simpa using hcmp
            have HTP : Hid ((if top0 = 0 ∨ (cR.set k (cv + wv)).getD (top0 - 1) 0 < cv + wv then k + 1 else top0) = k + 1) := Lib.hid (by rw [if_pos (Or.inr (by rw [← htop0]; show (cR.set k (cv + wv)).getD t 0 < _; rw [htv]; exact hcmp))])
            clear htop0 HT5 htv hcmp
            go_quiet (fail)
            go_wp2
            go_roundw
            case rel => exact ⟨k + 1, by omega, by rw [HE.out], by rw [HE.out]; show _ = Value.int .i64 (topI (if top0 = 0 ∨ (cR.set k (cv + wv)).getD (top0 - 1) 0 < cv + wv then k + 1 else top0)); rw [HTP.out, topI_succ], by go_num, by rw [HE.out]; first | exact C6 | exact C6.drewN _, HG2.out.trans ((grownBy_of_below b2).any.trans (G5.trans (by first | exact (grownBy_of_below b6).any | exact grown_drewN (grownBy_of_below b6).any _)))⟩
            case measure => simp [intOf]; omega
          · have dc : decide (tv < cv + wv) = false := by simpa using hcmp
            have HTP : Hid ((if top0 = 0 ∨ (cR.set k (cv + wv)).getD (top0 - 1) 0 < cv + wv then k + 1 else top0) = t + 1) := Lib.hid (by rw [if_neg (by rw [← htop0]; exact fun h => h.elim (fun h => by omega) (fun h => hcmp (by rw [← htv]; exact h))), ← htop0])
            clear htop0 HT5 htv hcmp
            go_quiet (fail)
            go_wp2
            go_roundw
            case rel => exact ⟨k + 1, by omega, by rw [HE.out], by rw [HE.out]; show _ = Value.int .i64 (topI (if top0 = 0 ∨ (cR.set k (cv + wv)).getD (top0 - 1) 0 < cv + wv then k + 1 else top0)); rw [HTP.out, topI_succ], by go_num, by rw [HE.out]; first | exact C6 | exact C6.drewN _, HG2.out.trans ((grownBy_of_below b2).any.trans (G5.trans (by first | exact (grownBy_of_below b6).any | exact grown_drewN (grownBy_of_below b6).any _)))⟩
            case measure => simp [intOf]; omega
      · have HE : Hid (Sc.kinds (Sc.av L (ixs gn n)) cr (k + 1) = (cR, S, top)) := Lib.hid (by rw [HSU.out]; unfold Sc.one; rw [hav, decide_eq_false hb0]; rfl)
        have HC2 := Lib.hid C2
        clear hsq hav hst hbv C2 G2
        go_wp2_with (go_at_call 32; refine HBK.out.mono ?_; rintro e w2 ⟨rfl, b2⟩)
        go_roundw
        case rel => exact ⟨k + 1, by omega, by rw [HE.out], by rw [HE.out], by go_num, by rw [HE.out]; exact HC2.out.below b2, HG2.out.trans (grownBy_of_below b2).any⟩
        case measure => simp [intOf]; omega
    · obtain rfl : k = 5 := by omega
      have hsq := Sc.kinds_sq (Sc.av L (ixs gn n)) cr HV.out.1 5 (Nat.le_refl _)
      have HTU := Lib.hid (show Sc.turn (Sc.av L (ixs gn n)) cr = if (Sc.kinds (Sc.av L (ixs gn n)) cr 5).2.2 = 0 then ((Sc.kinds (Sc.av L (ixs gn n)) cr 5).1, 0) else (((Sc.kinds (Sc.av L (ixs gn n)) cr 5).1.set ((Sc.kinds (Sc.av L (ixs gn n)) cr 5).2.2 - 1) ((Sc.kinds (Sc.av L (ixs gn n)) cr 5).1.getD ((Sc.kinds (Sc.av L (ixs gn n)) cr 5).2.2 - 1) 0 - (Sc.kinds (Sc.av L (ixs gn n)) cr 5).2.1)).map Sc.clamp, (Sc.kinds (Sc.av L (ixs gn n)) cr 5).2.2) from rfl)
      have hrg : ∀ j, j < 5 → -1000 ≤ (Sc.kinds (Sc.av L (ixs gn n)) cr 5).1.getD j 0 ∧ (Sc.kinds (Sc.av L (ixs gn n)) cr 5).1.getD j 0 ≤ 1004 := fun j hj => by
        have h1 := hsq.2.2.2.2.1 j
        have h2 : -1000 ≤ cr.getD j 0 ∧ cr.getD j 0 ≤ 1000 := by
          have h5 := HV.out.1
          have : cr.getD j 0 = cr[j]'(by omega) := by simp [List.getD, show j < cr.length by omega]
          rw [this]; exact HV.out.2 _ (List.getElem_mem _)
        omega
      obtain ⟨st, hst⟩ : ∃ st, Sc.kinds (Sc.av L (ixs gn n)) cr 5 = st := ⟨_, rfl⟩
      rw [hst] at C2 hsq HTU hrg ⊢
      obtain ⟨cR, S, top⟩ := st
      simp only [] at C2 hsq hrg ⊢
      have HRG := Lib.hid hrg
      have hS1 := hsq.2.1
      have hS2 : S ≤ 10 := hsq.2.2.1
      have htop := hsq.2.2.2.2.2.2.1
      clear hsq hst hrg
      cases top with
      | zero =>
        have HC2 := Lib.hid C2
        have HRT : Hid (Sc.next cr L (ixs gn n) = (cR, -1)) := Lib.hid (by rw [HN.out, HTU.out]; rfl)
        clear C2 G2
        rw [topI_zero]
        go_wp2
        go_ret
        exact ⟨ret_int (by rw [HRT.out]), by rw [HRT.out]; exact HC2.out, HG1.out.trans HG2.out⟩
      | succ t =>
        have ht5 : t < 5 := by omega
        have et0 : decide ((t : Int) + 1 < 0) = false := decide_eq_false (by omega)
        have et1 : IntKind.i64.wrap (t : Int) = (t : Int) := IntWalk.i64_in _ (by omega)
        have et2 : (0 : Int) ≤ (t : Int) := by omega
        have et3 : (t : Int) < 5 := by omega
        have HRT : Hid (Sc.next cr L (ixs gn n) = ((cR.set t (cR.getD t 0 - S)).map Sc.clamp, Sc.best L (ixs gn n) ((t : Int) + 1) Sc.can)) := Lib.hid (by
          have et : ((t + 1 : Nat) : Int) = (t : Int) + 1 := by push_cast; rfl
          rw [HN.out, HTU.out]
          simp only [Nat.add_eq_zero_iff, if_neg (show ¬ (t = 0 ∧ 1 = 0) by omega), Nat.add_sub_cancel, et])
        obtain ⟨tv, htv⟩ : ∃ x, cR.getD t 0 = x := ⟨_, rfl⟩
        have htr := HRG.out t ht5
        have t2 := C2.cell t ht5
        have t3 := C2.free t ht5
        rw [htv] at htr t2 HRT
        obtain ⟨tr1, tr2⟩ := htr
        have HC2 := Lib.hid C2
        have HL5 := Lib.hid ht5
        have HLN : Hid (t < cR.length) := Lib.hid (by rw [C2.len]; exact ht5)
        rw [topI_succ]
        clear htv C2 G2 htop
        go_upto_region 17 with fail
        go_cut [11] (fun u11 wx => u11 = .int .i64 0 ∧ Cr5 wx g (cR.set t (tv - S)) ∧ wr.grownBy wx (some g))
        case first =>
          go_wp2
          go_meet
          exact ⟨rfl, HC2.out.set HL5.out _, grown_setCell _ _ _ _⟩
        case rest =>
          obtain ⟨rfl, C3, G3⟩ := hcut
          clear t2 t3
          have HG3 := Lib.hid G3
          have HRD : Hid (∀ j, j < 5 → -1010 ≤ (cR.set t (tv - S)).getD j 0 ∧ (cR.set t (tv - S)).getD j 0 ≤ 1010) := Lib.hid (fun j hj => by
            by_cases e : t = j
            · subst e; rw [Sc.getD_set_eq HLN.out]; omega
            · rw [Sc.getD_set_ne e]; have := HRG.out j hj; omega)
          obtain ⟨c1, hc1⟩ : ∃ c1, cR.set t (tv - S) = c1 := ⟨_, rfl⟩
          rw [hc1] at C3 HRT HRD
          have HC3 := Lib.hid C3
          clear hc1 C3 G3 tr1 tr2 hS1 hS2
          go_wp2_with fail
          go_loopw [11] (fun u11 wx => ∃ (wv : World) (j : Nat), wv = wx ∧ j ≤ 5 ∧ u11 = .int .i64 j ∧ Cr5 wv g ((c1.take j).map Sc.clamp ++ c1.drop j) ∧ wr.grownBy wv (some g)) (fun u11 _ => (5 - intOf u11).toNat)
          case atStart => exact ⟨_, 0, rfl, by omega, rfl, by simpa using HC3.out, HG3.out⟩
          case round =>
            obtain ⟨wv, j, rfl, hj, rfl, C5, G5⟩ := hrel
            have HC5 := Lib.hid C5
            have HG5 := Lib.hid G5
            by_cases hjt : j < 5
            · have j0 : (0 : Int) ≤ (j : Int) := by omega
              have j1 : (j : Int) < 5 := by omega
              have l5 : c1.length = 5 := HC3.out.len
              have hgj : ((c1.take j).map Sc.clamp ++ c1.drop j).getD j 0 = c1.getD j 0 := clamp_at (by omega)
              have hset : ((c1.take j).map Sc.clamp ++ c1.drop j).set j (Sc.clamp (c1.getD j 0)) = (c1.take (j + 1)).map Sc.clamp ++ c1.drop (j + 1) := clamp_set (by omega)
              have q1 := C5.cell j hjt
              have q2 := C5.free j hjt
              have hr1 := HRD.out j hjt
              rw [hgj] at q1
              obtain ⟨nv, hnv⟩ : ∃ x, c1.getD j 0 = x := ⟨_, rfl⟩
              rw [hnv] at q1 hset hr1
              obtain ⟨r1, r2⟩ := hr1
              obtain ⟨cl, hcl⟩ : ∃ x, Sc.clamp nv = x := ⟨_, rfl⟩
              have hclv : cl = if nv < -1000 then -1000 else if 1000 < nv then 1000 else nv := by rw [← hcl]; unfold Sc.clamp; repeat' split <;> omega
              rw [hcl] at hset
              have HSET := Lib.hid hset
              have HCL := Lib.hid hclv
              have HJ := Lib.hid hjt
              clear hset hclv hcl hnv hgj C5 G5 l5
              by_cases hh : nv < -1000
              · go_wp2
                go_roundw
                case rel => exact ⟨_, j + 1, rfl, by omega, by go_num, by rw [← HSET.out, HCL.out]; rw [if_pos (by omega)]; exact HC5.out.set HJ.out _, HG5.out.trans (grown_setCell _ _ _ _)⟩
                case measure => simp [intOf]; omega
              by_cases hh : nv = -1000
              · subst hh; go_wp2
                go_roundw
                case rel => exact ⟨_, j + 1, rfl, by omega, by go_num, by rw [← HSET.out, HCL.out]; rw [if_neg (by omega), if_neg (by omega)]; exact HC5.out.set HJ.out _, HG5.out.trans (grown_setCell _ _ _ _)⟩
                case measure => simp [intOf]; omega
              by_cases hh : -1000 < nv ∧ nv < 1000
              · obtain ⟨hh1, hh2⟩ := hh; go_wp2
                go_roundw
                case rel => exact ⟨_, j + 1, rfl, by omega, by go_num, by rw [← HSET.out, HCL.out]; rw [if_neg (by omega), if_neg (by omega)]; exact HC5.out.set HJ.out _, HG5.out.trans (grown_setCell _ _ _ _)⟩
                case measure => simp [intOf]; omega
              by_cases hh : nv = 1000
              · subst hh; go_wp2
                go_roundw
                case rel => exact ⟨_, j + 1, rfl, by omega, by go_num, by rw [← HSET.out, HCL.out]; rw [if_neg (by omega), if_neg (by omega)]; exact HC5.out.set HJ.out _, HG5.out.trans (grown_setCell _ _ _ _)⟩
                case measure => simp [intOf]; omega
              by_cases hh : 1000 < nv
              · go_wp2
                go_roundw
                case rel => exact ⟨_, j + 1, rfl, by omega, by go_num, by rw [← HSET.out, HCL.out]; rw [if_neg (by omega), if_pos (by omega)]; exact HC5.out.set HJ.out _, HG5.out.trans (grown_setCell _ _ _ _)⟩
                case measure => simp [intOf]; omega
              · omega
            · obtain rfl : j = 5 := by omega
              have HE : Hid ((c1.take 5).map Sc.clamp ++ c1.drop 5 = c1.map Sc.clamp) := Lib.hid (by rw [List.take_of_length_le (by rw [HC3.out.len]; omega), List.drop_of_length_le (by rw [HC3.out.len]; omega), List.append_nil])
              have HBK := Lib.hid (HBC.out wv (HG1.out.trans (HG2.out.trans G5)) t)
              clear C5 G5
              go_wp2_with (go_at_call 32; refine HBK.out.mono ?_; rintro e w2 ⟨rfl, b2⟩)
              go_ret
              exact ⟨ret_int (by rw [HRT.out]), by rw [HRT.out]; have := HC5.out.below b2; rwa [HE.out] at this, (HG1.out.trans (HG2.out.trans HG5.out)).trans (grownBy_of_below b2).any⟩
theorem step_any (g cc : Nat) (cr : List Int) (hv : Sc.Vld cr) (A : Option Addr) (n c : Nat) (L : List Sc.Tk) (hL : L.length = n) (hn : n ≤ 1000) (gb c2 : Nat) (gn : Nat → Bool) (B : Nat) (w : World) (hr : Rd w B 5 A n (L.flatMap tcs)) (hB : B ≤ w.heap.size) (hA : ∀ W, w.grownBy W (some g) → Rd W B 5 A n (L.flatMap tcs)) (hg : gb < w.heap.size) (hne : gb ≠ g) (hgn : ∀ t, t < n → w.cell? ⟨gb, t, none⟩ = some (.bool (gn t))) (hc : Cr5 w g cr) : Calls Try.prog 27 #[.slice (some ⟨g, 0, none⟩) 5 cc, .slice A n c, .slice (some ⟨gb, 0, none⟩) n c2] w (NextRes cr L (ixs gn n) g w) := by
  by_cases hu : 0 ≤ Sc.best L (ixs gn n) 1 Sc.urg
  · exact step_urgent g cc cr hv A n c L hL hn gb c2 gn B w hr hB hA hg hne hgn hc hu
  · exact step_turn g cc cr hv A n c L hL hn gb c2 gn B w hr hB hA hg hne hgn hc hu
end Go.Proofs.Ytfihdenapjmaeaa
