/- The law SchedFair: it returns true. Conditions: none beyond what the argument's type says. -/
import Derived.Test.YtfihdenapjmaeaaSFairP
import Derived.Test.YtfihdenapjmaeaaSch25
import Derived.Test.YtfihdenapjmaeaaSch17
import Derived.Test.YtfihdenapjmaeaaSLawKit
import Derived.ChangeKeysEq
import Derived.Laws.StructEq
namespace Go.Proofs.Ytfihdenapjmaeaa
set_option linter.unusedVariables false
set_option linter.unusedSimpArgs false
open Go.RowKit
theorem IRow.set {w : World} {g : Nat} {l : List Int} (h : IRow w g l) {k : Nat} (hk : k < l.length) (v : Int) : IRow (w.setCell ⟨g, k, none⟩ (.int .i64 v)) g (l.set k v) := by
  refine ⟨by have := h.lt; simpa using this, fun t ht => ?_, fun t ht => by have := h.free t (by simpa using ht); simpa using this⟩
  rw [List.length_set] at ht
  by_cases e : k = t
  · subst e; rw [cell_set_eq _ _ (h.cell k hk), Sc.getD_set_eq hk]
  · rw [cell_set_ne _ _ e, Sc.getD_set_ne e]; exact h.cell t ht
theorem IRow.new6 {w w' : World} {ty : TypeId} (h : w.alloc (.cells #[.int .i64 0, .int .i64 0, .int .i64 0, .int .i64 0, .int .i64 0, .int .i64 0] ty) = w') : IRow w' w.heap.size [0, 0, 0, 0, 0, 0] ∧ w'.heap.size = w.heap.size + 1 ∧ Below w.heap.size w w' := by
  subst h
  refine ⟨⟨by rw [alloc_size1]; omega, fun t ht => ?_, fun t _ => World.frozen?_alloc_new _ _ _ _⟩, alloc_size1 _ _, (Below.refl _ _).alloc (Nat.le_refl _) _⟩
  rw [cell_of_row _ _ _ _ _ _ (heap_alloc_new w _)]
  have ht' : t < 6 := ht
  obtain rfl | rfl | rfl | rfl | rfl | rfl : t = 0 ∨ t = 1 ∨ t = 2 ∨ t = 3 ∨ t = 4 ∨ t = 5 := by omega
  all_goals rfl
theorem IRow.below {w w' : World} {g : Nat} {l : List Int} (h : IRow w g l) (hb : Below w.heap.size w w') : IRow w' g l := h.keep (hb.block g h.lt)
theorem eq6 (x1 x2 x3 x4 x5 : Int) (w : World) : (Op.equalIn 10000 53 (.agg #[.int .i64 0, .int .i64 x1, .int .i64 x2, .int .i64 x3, .int .i64 x4, .int .i64 x5]) (.agg #[.int .i64 0, .int .i64 x1, .int .i64 x2, .int .i64 x3, .int .i64 x4, .int .i64 x5])).run Try.prog w = .ok true w := by
  have hi := intsE.info
  cases h : Try.prog.info? 3 with
  | none => rw [h] at hi; simp at hi
  | some i =>
    rw [show (10000 : Nat) = 9999 + 1 from rfl, run_equalIn_array w 9999 _ _ Try.underlying53 h]
    have hc : Try.prog.cellsOf 3 = 1 := by kernel_rfl
    have he := fun (a : Int) => run_equalIn_int w 9998 3 .i64 .i64 a a Try.underlying3
    rw [hc, show List.range 6 = [0, 1, 2, 3, 4, 5] from rfl]
    simp [Op.eqItems, part, isAgg, run_underlying Try.underlying3, he]
theorem new_free37 {w w' : World} {v : Value} (h : w.alloc (.cells #[v] 26) = w') : w'.frozen? ⟨w.heap.size, 0, none⟩ = false := by
  subst h; exact World.frozen?_alloc_new _ _ _ _
set_option maxRecDepth 100000 in
set_option maxHeartbeats 8000000 in
theorem lawFair (A : Option Addr) (n c : Nat) (L : List Sc.Tk) (hL : L.length = n) (nc : n ≤ c) (cc : c ≤ 140737488355328) (xr1 : ∀ t ∈ L, TkOk t) (w : World) (rd1 : Rd w w.heap.size 5 A n (L.flatMap tcs)) :
    Calls Try.prog 8 #[.slice A n c] w fun e w' => e = .returned (.bool true) ∧ Below w.heap.size w w' := by
  clear xr1
  by_cases h60 : n ≤ 60
  case neg =>
    have h61 : (60 : Int) < (n : Int) := by omega
    clear rd1 hL
    go_enter Try.func8, Try.ntmps8
    go_wp2_with (go_at_call 10; refine (sanity_any _).mono ?_; rintro e w2 ⟨rfl, b2⟩)
    go_ret
    exact ⟨rfl, b2⟩
  case pos =>
  have h61 : (n : Int) ≤ 60 := by omega
  have HU := Lib.hid (refUrgent_any A n c L hL (by omega) w.heap.size w rd1 (Nat.le_refl _))
  obtain ⟨u, hu⟩ : ∃ u, Sc.best L (List.range n) 1 Sc.urg = u := ⟨_, rfl⟩
  rw [hu] at HU
  by_cases hu0 : 0 ≤ u
  case pos =>
    clear rd1 hL hu
    go_enter Try.func8, Try.ntmps8
    go_wp2_with (first
      | (go_at_call 19; refine HU.out.mono ?_; rintro e w1 ⟨rfl, b1⟩)
      | (go_at_call 10; refine (sanity_any _).mono ?_; rintro e w2 ⟨rfl, b2⟩))
    go_ret
    exact ⟨rfl, b1.trans (b2.mono b1.size)⟩
  case neg =>
  have hb1 : Sc.best L (List.range n) 1 Sc.urg < 0 := by omega
  have hum : u = -1 := by rw [← hu]; exact (Sc.best_neg hb1).1
  have HNU := Lib.hid hb1
  have HL := Lib.hid hL
  have HRD := Lib.hid rd1
  have HOWN := Lib.hid (fun (W : World) (hW : Below w.heap.size w W) => own_any A n c L hL (by omega) w.heap.size W (rd1.below hW) hW.size)
  subst hum
  clear hL rd1 hu hb1 hu0
  go_enter Try.func8, Try.ntmps8
  go_wp2_with (go_at_call 19; refine HU.out.mono ?_; rintro e w1 ⟨rfl, b1⟩)
  obtain ⟨w2, hw2⟩ : ∃ x, w1.alloc (.cells #[.int .i64 0, .int .i64 0, .int .i64 0, .int .i64 0, .int .i64 0, .int .i64 0] 53) = x := ⟨_, rfl⟩
  rw [hw2]
  obtain ⟨I2, z2, b2⟩ := IRow.new6 hw2
  obtain ⟨w3, hw3⟩ : ∃ x, w2.alloc (.cells #[.int .i64 0, .int .i64 0, .int .i64 0, .int .i64 0, .int .i64 0, .int .i64 0] 53) = x := ⟨_, rfl⟩
  rw [hw3]
  try rw [← z2]
  obtain ⟨I3, z3, b3⟩ := IRow.new6 hw3
  have I2 := I2.below b3
  have hpw0 := b1.size
  have hb3 := b1.trans ((b2.trans (b3.mono b2.size)).mono b1.size)
  obtain ⟨pw, hpw⟩ : ∃ x, w1.heap.size = x := ⟨_, rfl⟩
  obtain ⟨pg, hpg⟩ : ∃ x, w2.heap.size = x := ⟨_, rfl⟩
  rw [hpw] at I2 z2 hpw0 ⊢
  rw [hpg] at I3 z2 z3 ⊢
  have hgw : w.heap.size ≤ pw := hpw0
  have hpp : pw < pg := by omega
  have hp3 : pg < w3.heap.size := by omega
  have HI2 := Lib.hid I2
  have HI3 := Lib.hid I3
  have HB3 := Lib.hid hb3
  clear hw2 hw3 b1 b2 b3 z2 z3 hpw hpg hpw0 I2 I3 hb3
  go_loopw [5, 23] (fun u5 u23 wx => ∃ (wr : World) (k : Nat), wr = wx ∧ k ≤ n ∧ u5 = .int .i64 (Sc.wsum (Sc.av L (List.range k))) ∧ u23 = .int .i64 k ∧ Hid (IRow wr pw (Sc.wants (Sc.av L (List.range k)))) ∧ Hid (IRow wr pg [0, 0, 0, 0, 0, 0]) ∧ Below w.heap.size w wr) (fun _ u23 _ => n - (intOf u23).toNat)
  case atStart =>
    have h0 := Sc.wants_zero (Sc.av_zero L)
    exact ⟨w3, 0, rfl, Nat.zero_le _, by rw [h0.2], rfl, by rw [h0.1]; exact HI2.out, HI3.out, HB3.out⟩
  case round =>
    obtain ⟨wr, k, rfl, hk, rfl, rfl, HIW, HIG, hbr⟩ := hrel
    by_cases hlt : k < n
    · obtain ⟨b, off, rfl, hb0, hc⟩ := (HRD.out.below hbr).tk HL.out (by omega)
      have hcj := hc k hlt
      have hno := fun h => Sc.av_no (L := L) (n := k) h
      have hye := fun h q hq => Sc.av_yes (L := L) (n := k) (q := q) h hq
      obtain ⟨t, ht⟩ : ∃ t, Sc.atK L k = t := ⟨_, rfl⟩
      rw [ht] at hcj hno hye
      obtain ⟨a0, ha0⟩ : ∃ a, Sc.av L (List.range k) = a := ⟨_, rfl⟩
      obtain ⟨a1, ha1⟩ : ∃ a, Sc.av L (List.range (k + 1)) = a := ⟨_, rfl⟩
      rw [ha0, ha1] at hno hye
      rw [ha0] at HIW ⊢
      have HA1 := Lib.hid ha1
      obtain ⟨kind, row, grp, left, bad⟩ := t
      simp only [] at hcj hno hye
      obtain ⟨c0', c1', c2', c3', c4'⟩ := hcj
      have i0 : (0 : Int) ≤ (k : Int) := by omega
      have i1 : (k : Int) < (n : Int) := by omega
      have HBR := Lib.hid hbr
      have HNO := Lib.hid hno
      have HYE := Lib.hid hye
      clear hc ht hbr hb0 hno hye ha0 ha1
      go_upto_region 8 with fail
      obtain ⟨w5, hw5⟩ : ∃ w5, wr.alloc (.cells #[.int .i64 kind, .int .i64 row, .int .i64 grp, .int .i64 left, .int .i64 bad] 49) = w5 := ⟨_, rfl⟩
      have hR5 : IsRow w5 wr.heap.size 49 (tcs ⟨kind, row, grp, left, bad⟩) := by rw [← hw5]; exact IsRow.new wr 49 (tcs ⟨kind, row, grp, left, bad⟩)
      have hb5 : Below wr.heap.size wr w5 := by rw [← hw5]; exact (Below.refl _ _).alloc (Nat.le_refl _) _
      have z5 : wr.heap.size < w5.heap.size := by rw [← hw5, alloc_size1]; omega
      rw [hw5]
      have d0 : w5.cell? ⟨wr.heap.size, 0, none⟩ = some (.int .i64 kind) := hR5.cell 0
      have d3 : w5.cell? ⟨wr.heap.size, 3, none⟩ = some (.int .i64 left) := hR5.cell 3
      have d4 : w5.cell? ⟨wr.heap.size, 4, none⟩ = some (.int .i64 bad) := hR5.cell 4
      have HD0 := Lib.hid d0
      have HIW5 := Lib.hid (HIW.out.below hb5)
      have HIG5 := Lib.hid (HIG.out.below hb5)
      have HB5 := Lib.hid (HBR.out.trans (hb5.mono HBR.out.size))
      obtain ⟨pt, hpt⟩ : ∃ x, wr.heap.size = x := ⟨_, rfl⟩
      have hptw : pw < pt := by rw [← hpt]; exact HIW.out.lt
      have hptg : pg < pt := by rw [← hpt]; exact HIG.out.lt
      rw [hpt] at d0 d3 d4 HD0 z5 ⊢
      clear hw5 hR5 hb5 c0' c1' c2' c3' c4' hpt
      by_cases h2 : 2 ≤ kind
      · by_cases h5 : kind ≤ 5
        · have hcan : Sc.can ⟨kind, row, grp, left, bad⟩ = true := by simp [Sc.can]; omega
          obtain ⟨q, hkq⟩ : ∃ q : Nat, kind = (q : Int) := ⟨kind.toNat, by omega⟩
          have hq1 : 1 ≤ q := by omega
          have hq5 : q ≤ 5 := by omega
          subst hkq
          have hkq : (q : Int) = (q : Int) := rfl
          have hst := Sc.wants_step (a := a0) (b := a1) (q := q) hq1 hq5 (HYE.out hcan q hkq)
          have hwr := Sc.wt_range q
          have hsr := Sc.wsum_range a0
          have hgr := Sc.wants_get a0 q
          have hwl : (Sc.wants a0).length = 6 := rfl
          obtain ⟨wv, hwv⟩ : ∃ x, Sc.wt (q : Int) = x := ⟨_, rfl⟩
          rw [hwv] at hst hwr
          have HWT := Lib.hid (fun W => refWeight_b (q : Int) wv hwv W)
          obtain ⟨ov, hov⟩ : ∃ x, (Sc.wants a0).getD q 0 = x := ⟨_, rfl⟩
          obtain ⟨sv, hsv⟩ : ∃ x, Sc.wsum a0 = x := ⟨_, rfl⟩
          rw [hov] at hst hgr
          rw [hsv] at hst hsr
          have HOV := Lib.hid hov
          have HST := Lib.hid hst
          obtain ⟨s1, s2⟩ := hsr
          obtain ⟨g1, g2⟩ := hgr
          obtain ⟨v1, v2⟩ := hwr
          have e1 : IntKind.i64.wrap (wv - ov) = wv - ov := IntWalk.i64_in _ (by omega)
          have e2 : IntKind.i64.wrap (sv + (wv - ov)) = sv + (wv - ov) := IntWalk.i64_in _ (by omega)
          have iq0 : (0 : Int) ≤ (q : Int) := by omega
          have iq6 : (q : Int) < 6 := by omega
          rw [hsv]
          clear hst hwv hov hsv hcan
          go_upto_region 9 with fail
          have hv0 : Below w5.heap.size w5 w5.drew := (Below.refl _ _).drew
          refine wp_region_held_drew (S := fun W => Below w5.heap.size w5 W) (by kernel_rfl) (hv0) (fun hHeld => ?_)
          refine wpAnyH_take (i := 0) (oi := { dst := some 50, op := Op.move (Operand.tmp 5), type := 3, pos := "law.go:118", after := #[], guard := none }) (v := ?v0_1001) rfl (by kernel_rfl) (by kernel_rfl) (by kernel_rfl) (fun _ _ _ h => h) (Or.inl ⟨by rfl, ?h0_1001⟩) (by assumption) ?r0_1001
          case h0_1001 =>
            intro W hSW
            try dsimp only at hSW
            go_simp
            try with_reducible rfl
          try simp only [Act.put, List.setIfInBounds_toArray, List.set_cons_zero, List.set_cons_succ]
          refine wpAnyH_take (i := 1) (oi := { dst := some 51, op := Op.fieldAddr 49 (Operand.tmp 7) 0, type := 0, pos := "law.go:118", after := #[], guard := none }) (v := ?v1_1002) rfl (by kernel_rfl) (by kernel_rfl) (by kernel_rfl) (fun _ _ _ h => h) (Or.inl ⟨by rfl, ?h1_1002⟩) (by assumption) ?r1_1002
          case h1_1002 =>
            intro W hSW
            try dsimp only at hSW
            go_simp
            try with_reducible rfl
          try simp only [Act.put, List.setIfInBounds_toArray, List.set_cons_zero, List.set_cons_succ]
          refine wpAnyH_take (i := 2) (oi := { dst := some 52, op := Op.load 3 (Operand.tmp 51), type := 3, pos := "law.go:118", after := #[{ on := 1, ground := Ground.data }], guard := none }) (v := ?v2_1003) rfl (by kernel_rfl) (by kernel_rfl) (by kernel_rfl) (fun _ _ _ h => h) (Or.inl ⟨by rfl, ?h2_1003⟩) (by assumption) ?r2_1003
          case h2_1003 =>
            intro W hSW
            try dsimp only at hSW
            have hcc := (hSW.cell (p := ⟨pt, 0, none⟩) z5).trans HD0.out
            go_simp
            try with_reducible rfl
          try simp only [Act.put, List.setIfInBounds_toArray, List.set_cons_zero, List.set_cons_succ]
          refine wpAnyH_take (i := 4) (oi := { dst := some 54, op := Op.fieldAddr 49 (Operand.tmp 7) 0, type := 0, pos := "law.go:118", after := #[], guard := none }) (v := ?v4_1004) rfl (by kernel_rfl) (by kernel_rfl) (by kernel_rfl) (fun _ _ _ h => h) (Or.inl ⟨by rfl, ?h4_1004⟩) (by assumption) ?r4_1004
          case h4_1004 =>
            intro W hSW
            try dsimp only at hSW
            go_simp
            try with_reducible rfl
          try simp only [Act.put, List.setIfInBounds_toArray, List.set_cons_zero, List.set_cons_succ]
          refine wpAnyH_take (i := 5) (oi := { dst := some 55, op := Op.load 3 (Operand.tmp 54), type := 3, pos := "law.go:118", after := #[{ on := 4, ground := Ground.data }], guard := none }) (v := ?v5_1005) rfl (by kernel_rfl) (by kernel_rfl) (by kernel_rfl) (fun _ _ _ h => h) (Or.inl ⟨by rfl, ?h5_1005⟩) (by assumption) ?r5_1005
          case h5_1005 =>
            intro W hSW
            try dsimp only at hSW
            have hcc := (hSW.cell (p := ⟨pt, 0, none⟩) z5).trans HD0.out
            go_simp
            try with_reducible rfl
          try simp only [Act.put, List.setIfInBounds_toArray, List.set_cons_zero, List.set_cons_succ]
          refine wpAnyH_take (i := 6) (oi := { dst := some 56, op := Op.indexAddr 53 (Operand.tmp 3) (Operand.tmp 55), type := 0, pos := "law.go:118", after := #[{ on := 5, ground := Ground.data }], guard := none }) (v := ?v6_1006) rfl (by kernel_rfl) (by kernel_rfl) (by kernel_rfl) (fun _ _ _ h => h) (Or.inl ⟨by rfl, ?h6_1006⟩) (by assumption) ?r6_1006
          case h6_1006 =>
            intro W hSW
            try dsimp only at hSW
            go_simp
            try with_reducible rfl
          try simp only [Act.put, List.setIfInBounds_toArray, List.set_cons_zero, List.set_cons_succ]
          refine wpAnyH_take (i := 7) (oi := { dst := some 57, op := Op.load 3 (Operand.tmp 56), type := 3, pos := "law.go:118", after := #[{ on := 6, ground := Ground.data }], guard := none }) (v := ?v7_1007) rfl (by kernel_rfl) (by kernel_rfl) (by kernel_rfl) (fun _ _ _ h => h) (Or.inl ⟨by rfl, ?h7_1007⟩) (by assumption) ?r7_1007
          case h7_1007 =>
            intro W hSW
            try dsimp only at hSW
            have hcc := (hSW.cell (p := ⟨pw, q, none⟩) HIW5.out.lt).trans ((HIW5.out.cell q (by omega)).trans (congrArg (fun x => some (Value.int IntKind.i64 x)) HOV.out))
            go_simp
            try with_reducible rfl
          try simp only [Act.put, List.setIfInBounds_toArray, List.set_cons_zero, List.set_cons_succ]
          refine wpAnyH_ready (rs := [3]) (by kernel_rfl) (by simp) ?_
          refine AllReadyH.cons (o := { dst := some 53, op := Op.call { callee := Callee.value (Operand.func 17), args := #[Operand.tmp 52], argTypes := #[3] }, type := 3, pos := "law.go:118", after := #[{ on := 2, ground := Ground.data }], guard := none }) rfl (fun K hK => ?_) AllReadyH.nil
          go_simp
          refine (HWT.out _).mono ?_
          rintro e w20 ⟨rfl, b20⟩
          have hv20 : Below w5.heap.size w5 w20 := hv0.trans (b20.mono hv0.size)
          go_wp2_with fail
          refine hK.out _ _ (hv20) (fun hHeld => ?_)
          clear hK K
          try simp only [Act.put, List.setIfInBounds_toArray, List.set_cons_zero, List.set_cons_succ]
          refine wpAnyH_take (i := 8) (oi := { dst := some 58, op := Op.binOp BinOp.sub 3 (Operand.tmp 53) (Operand.tmp 57) 3, type := 3, pos := "law.go:118", after := #[{ on := 3, ground := Ground.data }, { on := 7, ground := Ground.data }], guard := none }) (v := ?v8_1008) rfl (by kernel_rfl) (by kernel_rfl) (by kernel_rfl) (fun _ _ _ h => h) (Or.inl ⟨by rfl, ?h8_1008⟩) (by assumption) ?r8_1008
          case h8_1008 =>
            intro W hSW
            try dsimp only at hSW
            go_simp
            try with_reducible rfl
          try simp only [Act.put, List.setIfInBounds_toArray, List.set_cons_zero, List.set_cons_succ]
          refine wpAnyH_take (i := 9) (oi := { dst := some 59, op := Op.binOp BinOp.add 3 (Operand.tmp 50) (Operand.tmp 58) 3, type := 3, pos := "law.go:118", after := #[{ on := 0, ground := Ground.data }, { on := 8, ground := Ground.data }], guard := none }) (v := ?v9_1009) rfl (by kernel_rfl) (by kernel_rfl) (by kernel_rfl) (fun _ _ _ h => h) (Or.inl ⟨by rfl, ?h9_1009⟩) (by assumption) ?r9_1009
          case h9_1009 =>
            intro W hSW
            try dsimp only at hSW
            go_simp
            try with_reducible rfl
          try simp only [Act.put, List.setIfInBounds_toArray, List.set_cons_zero, List.set_cons_succ]
          refine wpAnyH_take (i := 10) (oi := { dst := some 5, op := Op.assign (Operand.tmp 59), type := 3, pos := "law.go:118", after := #[{ on := 9, ground := Ground.data }, { on := 3, ground := Ground.chain }, { on := 0, ground := Ground.phase }, { on := 1, ground := Ground.phase }, { on := 2, ground := Ground.phase }, { on := 3, ground := Ground.phase }, { on := 4, ground := Ground.phase }, { on := 5, ground := Ground.phase }, { on := 6, ground := Ground.phase }, { on := 7, ground := Ground.phase }, { on := 8, ground := Ground.phase }, { on := 9, ground := Ground.phase }], guard := none }) (v := ?v10_1010) rfl (by kernel_rfl) (by kernel_rfl) (by kernel_rfl) (fun _ _ _ h => h) (Or.inl ⟨by rfl, ?h10_1010⟩) (by assumption) ?r10_1010
          case h10_1010 =>
            intro W hSW
            try dsimp only at hSW
            go_simp
            try with_reducible rfl
          try simp only [Act.put, List.setIfInBounds_toArray, List.set_cons_zero, List.set_cons_succ]
          refine wpAnyH_done (by kernel_rfl) ?_ _
          have HD20 := Lib.hid ((hv20.cell (p := ⟨pt, 0, none⟩) z5).trans HD0.out)
          have z20 : pt < w20.heap.size := Nat.lt_of_lt_of_le z5 hv20.size
          have HIW20 := Lib.hid (HIW5.out.below hv20)
          have HIG20 := Lib.hid (HIG5.out.below hv20)
          have HB20 := Lib.hid (HB5.out.trans (hv20.mono HB5.out.size))
          clear d0 d3 d4
          go_upto_region 10 with fail
          have hv0 : Below w20.heap.size w20 w20.drew := (Below.refl _ _).drew
          refine wp_region_late (fun W => Below w20.heap.size w20 W) [6] (by kernel_rfl) (hv0) (fun hHeld => ?_)
          refine wpAnyL_take (i := 0) (oi := { dst := some 60, op := Op.fieldAddr 49 (Operand.tmp 7) 0, type := 0, pos := "law.go:119", after := #[], guard := none }) (v := ?v0_2001) rfl (by kernel_rfl) (by kernel_rfl) (by kernel_rfl) (by kernel_rfl) (fun _ _ _ h => h) (Or.inl ⟨by rfl, ?h0_2001⟩) (by assumption) ?r0_2001
          case h0_2001 =>
            intro W hSW
            try dsimp only at hSW
            go_simp
            try with_reducible rfl
          try simp only [Act.put, List.setIfInBounds_toArray, List.set_cons_zero, List.set_cons_succ]
          refine wpAnyL_take (i := 1) (oi := { dst := some 61, op := Op.load 3 (Operand.tmp 60), type := 3, pos := "law.go:119", after := #[{ on := 0, ground := Ground.data }], guard := none }) (v := ?v1_2002) rfl (by kernel_rfl) (by kernel_rfl) (by kernel_rfl) (by kernel_rfl) (fun _ _ _ h => h) (Or.inl ⟨by rfl, ?h1_2002⟩) (by assumption) ?r1_2002
          case h1_2002 =>
            intro W hSW
            try dsimp only at hSW
            have hcc := (hSW.cell (p := ⟨pt, 0, none⟩) z20).trans HD20.out
            go_simp
            try with_reducible rfl
          try simp only [Act.put, List.setIfInBounds_toArray, List.set_cons_zero, List.set_cons_succ]
          refine wpAnyL_take (i := 2) (oi := { dst := some 62, op := Op.fieldAddr 49 (Operand.tmp 7) 0, type := 0, pos := "law.go:119", after := #[], guard := none }) (v := ?v2_2003) rfl (by kernel_rfl) (by kernel_rfl) (by kernel_rfl) (by kernel_rfl) (fun _ _ _ h => h) (Or.inl ⟨by rfl, ?h2_2003⟩) (by assumption) ?r2_2003
          case h2_2003 =>
            intro W hSW
            try dsimp only at hSW
            go_simp
            try with_reducible rfl
          try simp only [Act.put, List.setIfInBounds_toArray, List.set_cons_zero, List.set_cons_succ]
          refine wpAnyL_take (i := 3) (oi := { dst := some 63, op := Op.load 3 (Operand.tmp 62), type := 3, pos := "law.go:119", after := #[{ on := 2, ground := Ground.data }], guard := none }) (v := ?v3_2004) rfl (by kernel_rfl) (by kernel_rfl) (by kernel_rfl) (by kernel_rfl) (fun _ _ _ h => h) (Or.inl ⟨by rfl, ?h3_2004⟩) (by assumption) ?r3_2004
          case h3_2004 =>
            intro W hSW
            try dsimp only at hSW
            have hcc := (hSW.cell (p := ⟨pt, 0, none⟩) z20).trans HD20.out
            go_simp
            try with_reducible rfl
          try simp only [Act.put, List.setIfInBounds_toArray, List.set_cons_zero, List.set_cons_succ]
          refine wpAnyL_ready (rs := [4]) (by kernel_rfl) (by simp) ?_
          refine AllReadyL.cons (o := { dst := some 64, op := Op.call { callee := Callee.value (Operand.func 17), args := #[Operand.tmp 63], argTypes := #[3] }, type := 3, pos := "law.go:119", after := #[{ on := 3, ground := Ground.data }], guard := none }) rfl (fun K hK => ?_) AllReadyL.nil
          go_simp
          refine (HWT.out _).mono ?_
          rintro e w30 ⟨rfl, b30⟩
          have hv30 : Below w20.heap.size w20 w30 := hv0.trans (b30.mono hv0.size)
          go_wp2_with fail
          have I4 := HIW20.out.below hv30
          have k4 := I4.cell q (by omega)
          have f4 := I4.free q (by omega)
          refine hK.out _ _ (hv30) (fun hHeld => ?_)
          clear hK K
          try simp only [Act.put, List.setIfInBounds_toArray, List.set_cons_zero, List.set_cons_succ]
          refine wpAnyL_take (i := 5) (oi := { dst := some 65, op := Op.indexAddr 53 (Operand.tmp 3) (Operand.tmp 61), type := 0, pos := "law.go:119", after := #[{ on := 1, ground := Ground.data }, { on := 0, ground := Ground.phase }, { on := 1, ground := Ground.phase }, { on := 2, ground := Ground.phase }, { on := 3, ground := Ground.phase }, { on := 4, ground := Ground.phase }], guard := none }) (v := ?v5_2005) rfl (by kernel_rfl) (by kernel_rfl) (by kernel_rfl) (by kernel_rfl) (fun _ _ _ h => h) (Or.inl ⟨by rfl, ?h5_2005⟩) (by assumption) ?r5_2005
          case h5_2005 =>
            intro W hSW
            try dsimp only at hSW
            go_simp
            try with_reducible rfl
          try simp only [Act.put, List.setIfInBounds_toArray, List.set_cons_zero, List.set_cons_succ]
          refine wpAnyL_ready (rs := [6]) (by kernel_rfl) (by simp) ?_
          refine AllReadyL.late (o := { dst := none, op := Op.store 3 (Operand.tmp 65) (Operand.tmp 64), type := 0, pos := "law.go:119", after := #[{ on := 5, ground := Ground.data }, { on := 4, ground := Ground.data }, { on := 4, ground := Ground.chain }, { on := 0, ground := Ground.phase }, { on := 1, ground := Ground.phase }, { on := 2, ground := Ground.phase }, { on := 3, ground := Ground.phase }, { on := 4, ground := Ground.phase }], guard := none }) rfl (by rfl) (fun K hK => ?_) AllReadyL.nil
          go_simp
          obtain ⟨w8, hw8⟩ : ∃ w', w30.setCell ⟨pw, q, none⟩ (.int .i64 wv) = w' := ⟨_, rfl⟩
          rw [hw8]
          have I8 : IRow w8 pw ((Sc.wants a0).set q wv) := by rw [← hw8]; exact I4.set (by omega) _
          have G8 : w20.grownBy w8 (some pw) := by rw [← hw8]; exact (grownBy_of_below hv30).any.trans (grown_setCell _ _ _ _)
          have w31 := w8
          have hv31 := hv30
          clear hw8 k4 f4 I4
          refine hK.out _ _ ?_
          clear hK K
          try simp only [Act.put, List.setIfInBounds_toArray, List.set_cons_zero, List.set_cons_succ]
          refine wpAnyL_done (by kernel_rfl) ?_ _
          go_wp2
          go_roundw
          case rel => exact ⟨_, k + 1, rfl, by omega, by rw [HA1.out, HST.out.2], by go_num, by rw [HA1.out, HST.out.1]; exact I8, HIG20.out.keep (G8.block pg HIG20.out.lt (by intro e; have := Option.some.inj e; omega)), HB20.out.grown G8 HB20.out.size (by intro j hj; have := Option.some.inj hj; omega)⟩
          case measure => simp [intOf]; omega
        · have hcan : Sc.can ⟨kind, row, grp, left, bad⟩ = false := by simp [Sc.can]; omega
          have e1 : (kind == 1) = false := by rw [beq_eq_false_iff_ne]; omega
          have HCN := Lib.hid hcan
          clear hcan
          go_wp2
          go_roundw
          case rel => exact ⟨_, k + 1, rfl, by omega, by rw [HA1.out, HNO.out HCN.out], by go_num, by rw [HA1.out, HNO.out HCN.out]; exact HIW5.out, HIG5.out, HB5.out⟩
          case measure => simp [intOf]; omega
      · by_cases hkd : kind = 1
        · subst hkd
          by_cases hlf : 0 ≤ left
          · by_cases hbd : 0 < bad
            · have hcan : Sc.can ⟨1, row, grp, left, bad⟩ = true := by simp [Sc.can]; omega
              have hkq : (1 : Int) = ((1 : Nat) : Int) := rfl
              have hq1 : 1 ≤ 1 := Nat.le_refl 1
              have hq5 : 1 ≤ 5 := by omega
              have hst := Sc.wants_step (a := a0) (b := a1) (q := 1) hq1 hq5 (HYE.out hcan 1 hkq)
              have hwr := Sc.wt_range 1
              have hsr := Sc.wsum_range a0
              have hgr := Sc.wants_get a0 1
              have hwl : (Sc.wants a0).length = 6 := rfl
              obtain ⟨wv, hwv⟩ : ∃ x, Sc.wt (1 : Int) = x := ⟨_, rfl⟩
              rw [show ((1 : Nat) : Int) = 1 from rfl, hwv] at hst hwr
              clear hkq hq1 hq5
              have HWT := Lib.hid (fun W => refWeight_b (1 : Int) wv hwv W)
              obtain ⟨ov, hov⟩ : ∃ x, (Sc.wants a0).getD 1 0 = x := ⟨_, rfl⟩
              obtain ⟨sv, hsv⟩ : ∃ x, Sc.wsum a0 = x := ⟨_, rfl⟩
              rw [hov] at hst hgr
              rw [hsv] at hst hsr
              have HOV := Lib.hid hov
              have HST := Lib.hid hst
              obtain ⟨s1, s2⟩ := hsr
              obtain ⟨g1, g2⟩ := hgr
              obtain ⟨v1, v2⟩ := hwr
              have e1 : IntKind.i64.wrap (wv - ov) = wv - ov := IntWalk.i64_in _ (by omega)
              have e2 : IntKind.i64.wrap (sv + (wv - ov)) = sv + (wv - ov) := IntWalk.i64_in _ (by omega)
              rw [hsv]
              clear hst hwv hov hsv hcan
              go_upto_region 9 with fail
              have hv0 : Below w5.heap.size w5 w5.drew := (Below.refl _ _).drew
              refine wp_region_held_drew (S := fun W => Below w5.heap.size w5 W) (by kernel_rfl) (hv0) (fun hHeld => ?_)
              refine wpAnyH_take (i := 0) (oi := { dst := some 50, op := Op.move (Operand.tmp 5), type := 3, pos := "law.go:118", after := #[], guard := none }) (v := ?v0_3001) rfl (by kernel_rfl) (by kernel_rfl) (by kernel_rfl) (fun _ _ _ h => h) (Or.inl ⟨by rfl, ?h0_3001⟩) (by assumption) ?r0_3001
              case h0_3001 =>
                intro W hSW
                try dsimp only at hSW
                go_simp
                try with_reducible rfl
              try simp only [Act.put, List.setIfInBounds_toArray, List.set_cons_zero, List.set_cons_succ]
              refine wpAnyH_take (i := 1) (oi := { dst := some 51, op := Op.fieldAddr 49 (Operand.tmp 7) 0, type := 0, pos := "law.go:118", after := #[], guard := none }) (v := ?v1_3002) rfl (by kernel_rfl) (by kernel_rfl) (by kernel_rfl) (fun _ _ _ h => h) (Or.inl ⟨by rfl, ?h1_3002⟩) (by assumption) ?r1_3002
              case h1_3002 =>
                intro W hSW
                try dsimp only at hSW
                go_simp
                try with_reducible rfl
              try simp only [Act.put, List.setIfInBounds_toArray, List.set_cons_zero, List.set_cons_succ]
              refine wpAnyH_take (i := 2) (oi := { dst := some 52, op := Op.load 3 (Operand.tmp 51), type := 3, pos := "law.go:118", after := #[{ on := 1, ground := Ground.data }], guard := none }) (v := ?v2_3003) rfl (by kernel_rfl) (by kernel_rfl) (by kernel_rfl) (fun _ _ _ h => h) (Or.inl ⟨by rfl, ?h2_3003⟩) (by assumption) ?r2_3003
              case h2_3003 =>
                intro W hSW
                try dsimp only at hSW
                have hcc := (hSW.cell (p := ⟨pt, 0, none⟩) z5).trans HD0.out
                go_simp
                try with_reducible rfl
              try simp only [Act.put, List.setIfInBounds_toArray, List.set_cons_zero, List.set_cons_succ]
              refine wpAnyH_take (i := 4) (oi := { dst := some 54, op := Op.fieldAddr 49 (Operand.tmp 7) 0, type := 0, pos := "law.go:118", after := #[], guard := none }) (v := ?v4_3004) rfl (by kernel_rfl) (by kernel_rfl) (by kernel_rfl) (fun _ _ _ h => h) (Or.inl ⟨by rfl, ?h4_3004⟩) (by assumption) ?r4_3004
              case h4_3004 =>
                intro W hSW
                try dsimp only at hSW
                go_simp
                try with_reducible rfl
              try simp only [Act.put, List.setIfInBounds_toArray, List.set_cons_zero, List.set_cons_succ]
              refine wpAnyH_take (i := 5) (oi := { dst := some 55, op := Op.load 3 (Operand.tmp 54), type := 3, pos := "law.go:118", after := #[{ on := 4, ground := Ground.data }], guard := none }) (v := ?v5_3005) rfl (by kernel_rfl) (by kernel_rfl) (by kernel_rfl) (fun _ _ _ h => h) (Or.inl ⟨by rfl, ?h5_3005⟩) (by assumption) ?r5_3005
              case h5_3005 =>
                intro W hSW
                try dsimp only at hSW
                have hcc := (hSW.cell (p := ⟨pt, 0, none⟩) z5).trans HD0.out
                go_simp
                try with_reducible rfl
              try simp only [Act.put, List.setIfInBounds_toArray, List.set_cons_zero, List.set_cons_succ]
              refine wpAnyH_take (i := 6) (oi := { dst := some 56, op := Op.indexAddr 53 (Operand.tmp 3) (Operand.tmp 55), type := 0, pos := "law.go:118", after := #[{ on := 5, ground := Ground.data }], guard := none }) (v := ?v6_3006) rfl (by kernel_rfl) (by kernel_rfl) (by kernel_rfl) (fun _ _ _ h => h) (Or.inl ⟨by rfl, ?h6_3006⟩) (by assumption) ?r6_3006
              case h6_3006 =>
                intro W hSW
                try dsimp only at hSW
                go_simp
                try with_reducible rfl
              try simp only [Act.put, List.setIfInBounds_toArray, List.set_cons_zero, List.set_cons_succ]
              refine wpAnyH_take (i := 7) (oi := { dst := some 57, op := Op.load 3 (Operand.tmp 56), type := 3, pos := "law.go:118", after := #[{ on := 6, ground := Ground.data }], guard := none }) (v := ?v7_3007) rfl (by kernel_rfl) (by kernel_rfl) (by kernel_rfl) (fun _ _ _ h => h) (Or.inl ⟨by rfl, ?h7_3007⟩) (by assumption) ?r7_3007
              case h7_3007 =>
                intro W hSW
                try dsimp only at hSW
                have hcc := (hSW.cell (p := ⟨pw, 1, none⟩) HIW5.out.lt).trans ((HIW5.out.cell 1 (by omega)).trans (congrArg (fun x => some (Value.int IntKind.i64 x)) HOV.out))
                go_simp
                try with_reducible rfl
              try simp only [Act.put, List.setIfInBounds_toArray, List.set_cons_zero, List.set_cons_succ]
              refine wpAnyH_ready (rs := [3]) (by kernel_rfl) (by simp) ?_
              refine AllReadyH.cons (o := { dst := some 53, op := Op.call { callee := Callee.value (Operand.func 17), args := #[Operand.tmp 52], argTypes := #[3] }, type := 3, pos := "law.go:118", after := #[{ on := 2, ground := Ground.data }], guard := none }) rfl (fun K hK => ?_) AllReadyH.nil
              go_simp
              refine (HWT.out _).mono ?_
              rintro e w20 ⟨rfl, b20⟩
              have hv20 : Below w5.heap.size w5 w20 := hv0.trans (b20.mono hv0.size)
              go_wp2_with fail
              refine hK.out _ _ (hv20) (fun hHeld => ?_)
              clear hK K
              try simp only [Act.put, List.setIfInBounds_toArray, List.set_cons_zero, List.set_cons_succ]
              refine wpAnyH_take (i := 8) (oi := { dst := some 58, op := Op.binOp BinOp.sub 3 (Operand.tmp 53) (Operand.tmp 57) 3, type := 3, pos := "law.go:118", after := #[{ on := 3, ground := Ground.data }, { on := 7, ground := Ground.data }], guard := none }) (v := ?v8_3008) rfl (by kernel_rfl) (by kernel_rfl) (by kernel_rfl) (fun _ _ _ h => h) (Or.inl ⟨by rfl, ?h8_3008⟩) (by assumption) ?r8_3008
              case h8_3008 =>
                intro W hSW
                try dsimp only at hSW
                go_simp
                try with_reducible rfl
              try simp only [Act.put, List.setIfInBounds_toArray, List.set_cons_zero, List.set_cons_succ]
              refine wpAnyH_take (i := 9) (oi := { dst := some 59, op := Op.binOp BinOp.add 3 (Operand.tmp 50) (Operand.tmp 58) 3, type := 3, pos := "law.go:118", after := #[{ on := 0, ground := Ground.data }, { on := 8, ground := Ground.data }], guard := none }) (v := ?v9_3009) rfl (by kernel_rfl) (by kernel_rfl) (by kernel_rfl) (fun _ _ _ h => h) (Or.inl ⟨by rfl, ?h9_3009⟩) (by assumption) ?r9_3009
              case h9_3009 =>
                intro W hSW
                try dsimp only at hSW
                go_simp
                try with_reducible rfl
              try simp only [Act.put, List.setIfInBounds_toArray, List.set_cons_zero, List.set_cons_succ]
              refine wpAnyH_take (i := 10) (oi := { dst := some 5, op := Op.assign (Operand.tmp 59), type := 3, pos := "law.go:118", after := #[{ on := 9, ground := Ground.data }, { on := 3, ground := Ground.chain }, { on := 0, ground := Ground.phase }, { on := 1, ground := Ground.phase }, { on := 2, ground := Ground.phase }, { on := 3, ground := Ground.phase }, { on := 4, ground := Ground.phase }, { on := 5, ground := Ground.phase }, { on := 6, ground := Ground.phase }, { on := 7, ground := Ground.phase }, { on := 8, ground := Ground.phase }, { on := 9, ground := Ground.phase }], guard := none }) (v := ?v10_3010) rfl (by kernel_rfl) (by kernel_rfl) (by kernel_rfl) (fun _ _ _ h => h) (Or.inl ⟨by rfl, ?h10_3010⟩) (by assumption) ?r10_3010
              case h10_3010 =>
                intro W hSW
                try dsimp only at hSW
                go_simp
                try with_reducible rfl
              try simp only [Act.put, List.setIfInBounds_toArray, List.set_cons_zero, List.set_cons_succ]
              refine wpAnyH_done (by kernel_rfl) ?_ _
              have HD20 := Lib.hid ((hv20.cell (p := ⟨pt, 0, none⟩) z5).trans HD0.out)
              have z20 : pt < w20.heap.size := Nat.lt_of_lt_of_le z5 hv20.size
              have HIW20 := Lib.hid (HIW5.out.below hv20)
              have HIG20 := Lib.hid (HIG5.out.below hv20)
              have HB20 := Lib.hid (HB5.out.trans (hv20.mono HB5.out.size))
              clear d0 d3 d4
              go_upto_region 10 with fail
              have hv0 : Below w20.heap.size w20 w20.drew := (Below.refl _ _).drew
              refine wp_region_late (fun W => Below w20.heap.size w20 W) [6] (by kernel_rfl) (hv0) (fun hHeld => ?_)
              refine wpAnyL_take (i := 0) (oi := { dst := some 60, op := Op.fieldAddr 49 (Operand.tmp 7) 0, type := 0, pos := "law.go:119", after := #[], guard := none }) (v := ?v0_4001) rfl (by kernel_rfl) (by kernel_rfl) (by kernel_rfl) (by kernel_rfl) (fun _ _ _ h => h) (Or.inl ⟨by rfl, ?h0_4001⟩) (by assumption) ?r0_4001
              case h0_4001 =>
                intro W hSW
                try dsimp only at hSW
                go_simp
                try with_reducible rfl
              try simp only [Act.put, List.setIfInBounds_toArray, List.set_cons_zero, List.set_cons_succ]
              refine wpAnyL_take (i := 1) (oi := { dst := some 61, op := Op.load 3 (Operand.tmp 60), type := 3, pos := "law.go:119", after := #[{ on := 0, ground := Ground.data }], guard := none }) (v := ?v1_4002) rfl (by kernel_rfl) (by kernel_rfl) (by kernel_rfl) (by kernel_rfl) (fun _ _ _ h => h) (Or.inl ⟨by rfl, ?h1_4002⟩) (by assumption) ?r1_4002
              case h1_4002 =>
                intro W hSW
                try dsimp only at hSW
                have hcc := (hSW.cell (p := ⟨pt, 0, none⟩) z20).trans HD20.out
                go_simp
                try with_reducible rfl
              try simp only [Act.put, List.setIfInBounds_toArray, List.set_cons_zero, List.set_cons_succ]
              refine wpAnyL_take (i := 2) (oi := { dst := some 62, op := Op.fieldAddr 49 (Operand.tmp 7) 0, type := 0, pos := "law.go:119", after := #[], guard := none }) (v := ?v2_4003) rfl (by kernel_rfl) (by kernel_rfl) (by kernel_rfl) (by kernel_rfl) (fun _ _ _ h => h) (Or.inl ⟨by rfl, ?h2_4003⟩) (by assumption) ?r2_4003
              case h2_4003 =>
                intro W hSW
                try dsimp only at hSW
                go_simp
                try with_reducible rfl
              try simp only [Act.put, List.setIfInBounds_toArray, List.set_cons_zero, List.set_cons_succ]
              refine wpAnyL_take (i := 3) (oi := { dst := some 63, op := Op.load 3 (Operand.tmp 62), type := 3, pos := "law.go:119", after := #[{ on := 2, ground := Ground.data }], guard := none }) (v := ?v3_4004) rfl (by kernel_rfl) (by kernel_rfl) (by kernel_rfl) (by kernel_rfl) (fun _ _ _ h => h) (Or.inl ⟨by rfl, ?h3_4004⟩) (by assumption) ?r3_4004
              case h3_4004 =>
                intro W hSW
                try dsimp only at hSW
                have hcc := (hSW.cell (p := ⟨pt, 0, none⟩) z20).trans HD20.out
                go_simp
                try with_reducible rfl
              try simp only [Act.put, List.setIfInBounds_toArray, List.set_cons_zero, List.set_cons_succ]
              refine wpAnyL_ready (rs := [4]) (by kernel_rfl) (by simp) ?_
              refine AllReadyL.cons (o := { dst := some 64, op := Op.call { callee := Callee.value (Operand.func 17), args := #[Operand.tmp 63], argTypes := #[3] }, type := 3, pos := "law.go:119", after := #[{ on := 3, ground := Ground.data }], guard := none }) rfl (fun K hK => ?_) AllReadyL.nil
              go_simp
              refine (HWT.out _).mono ?_
              rintro e w30 ⟨rfl, b30⟩
              have hv30 : Below w20.heap.size w20 w30 := hv0.trans (b30.mono hv0.size)
              go_wp2_with fail
              have I4 := HIW20.out.below hv30
              have k4 := I4.cell 1 (by omega)
              have f4 := I4.free 1 (by omega)
              refine hK.out _ _ (hv30) (fun hHeld => ?_)
              clear hK K
              try simp only [Act.put, List.setIfInBounds_toArray, List.set_cons_zero, List.set_cons_succ]
              refine wpAnyL_take (i := 5) (oi := { dst := some 65, op := Op.indexAddr 53 (Operand.tmp 3) (Operand.tmp 61), type := 0, pos := "law.go:119", after := #[{ on := 1, ground := Ground.data }, { on := 0, ground := Ground.phase }, { on := 1, ground := Ground.phase }, { on := 2, ground := Ground.phase }, { on := 3, ground := Ground.phase }, { on := 4, ground := Ground.phase }], guard := none }) (v := ?v5_4005) rfl (by kernel_rfl) (by kernel_rfl) (by kernel_rfl) (by kernel_rfl) (fun _ _ _ h => h) (Or.inl ⟨by rfl, ?h5_4005⟩) (by assumption) ?r5_4005
              case h5_4005 =>
                intro W hSW
                try dsimp only at hSW
                go_simp
                try with_reducible rfl
              try simp only [Act.put, List.setIfInBounds_toArray, List.set_cons_zero, List.set_cons_succ]
              refine wpAnyL_ready (rs := [6]) (by kernel_rfl) (by simp) ?_
              refine AllReadyL.late (o := { dst := none, op := Op.store 3 (Operand.tmp 65) (Operand.tmp 64), type := 0, pos := "law.go:119", after := #[{ on := 5, ground := Ground.data }, { on := 4, ground := Ground.data }, { on := 4, ground := Ground.chain }, { on := 0, ground := Ground.phase }, { on := 1, ground := Ground.phase }, { on := 2, ground := Ground.phase }, { on := 3, ground := Ground.phase }, { on := 4, ground := Ground.phase }], guard := none }) rfl (by rfl) (fun K hK => ?_) AllReadyL.nil
              go_simp
              obtain ⟨w8, hw8⟩ : ∃ w', w30.setCell ⟨pw, 1, none⟩ (.int .i64 wv) = w' := ⟨_, rfl⟩
              rw [hw8]
              have I8 : IRow w8 pw ((Sc.wants a0).set 1 wv) := by rw [← hw8]; exact I4.set (by omega) _
              have G8 : w20.grownBy w8 (some pw) := by rw [← hw8]; exact (grownBy_of_below hv30).any.trans (grown_setCell _ _ _ _)
              have w31 := w8
              have hv31 := hv30
              clear hw8 k4 f4 I4
              refine hK.out _ _ ?_
              clear hK K
              try simp only [Act.put, List.setIfInBounds_toArray, List.set_cons_zero, List.set_cons_succ]
              refine wpAnyL_done (by kernel_rfl) ?_ _
              go_wp2
              go_roundw
              case rel => exact ⟨_, k + 1, rfl, by omega, by rw [HA1.out, HST.out.2], by go_num, by rw [HA1.out, HST.out.1]; exact I8, HIG20.out.keep (G8.block pg HIG20.out.lt (by intro e; have := Option.some.inj e; omega)), HB20.out.grown G8 HB20.out.size (by intro j hj; have := Option.some.inj hj; omega)⟩
              case measure => simp [intOf]; omega
            · have hcan : Sc.can ⟨1, row, grp, left, bad⟩ = false := by simp [Sc.can]; omega
              have HCN := Lib.hid hcan
              clear hcan
              go_wp2
              go_roundw
              case rel => exact ⟨_, k + 1, rfl, by omega, by rw [HA1.out, HNO.out HCN.out], by go_num, by rw [HA1.out, HNO.out HCN.out]; exact HIW5.out, HIG5.out, HB5.out⟩
              case measure => simp [intOf]; omega
          · have hcan : Sc.can ⟨1, row, grp, left, bad⟩ = false := by simp [Sc.can]; omega
            have HCN := Lib.hid hcan
            clear hcan
            go_wp2
            go_roundw
            case rel => exact ⟨_, k + 1, rfl, by omega, by rw [HA1.out, HNO.out HCN.out], by go_num, by rw [HA1.out, HNO.out HCN.out]; exact HIW5.out, HIG5.out, HB5.out⟩
            case measure => simp [intOf]; omega
        · have hcan : Sc.can ⟨kind, row, grp, left, bad⟩ = false := by simp [Sc.can]; omega
          have e1 : (kind == 1) = false := by rw [beq_eq_false_iff_ne]; omega
          have HCN := Lib.hid hcan
          clear hcan
          go_wp2
          go_roundw
          case rel => exact ⟨_, k + 1, rfl, by omega, by rw [HA1.out, HNO.out HCN.out], by go_num, by rw [HA1.out, HNO.out HCN.out]; exact HIW5.out, HIG5.out, HB5.out⟩
          case measure => simp [intOf]; omega
    · obtain rfl : k = n := by omega
      obtain ⟨a, ha⟩ : ∃ a, Sc.av L (List.range k) = a := ⟨_, rfl⟩
      rw [ha] at HIW ⊢
      obtain ⟨S, hS⟩ : ∃ S : Nat, Sc.wsum a = (S : Int) := ⟨(Sc.wsum a).toNat, by have := (Sc.wsum_range a).1; omega⟩
      have hfair := Sc.fair a
      rw [hS, Int.toNat_natCast] at hfair
      have hS10 : (S : Int) ≤ 10 := by have := (Sc.wsum_range a).2; omega
      have HFS := Lib.hid (fun (h0 : 0 < S) (cr : List Int) => Sc.fair_step HNU.out (by rw [ha, hS]; omega) cr)
      rw [ha] at HFS
      rw [hS]
      have HFAIR := Lib.hid hfair
      have HBR := Lib.hid hbr
      have HA := Lib.hid ha
      clear hbr hfair hS ha
      go_wp2_with (go_at_call 23; refine (new_any _).mono ?_; rintro e w4 ⟨g4, rfl, C4, hg4, b4⟩)
      obtain ⟨w6, hw6⟩ : ∃ x, w4.alloc (.cells #[.slice (some ⟨g4, 0, none⟩) 5 5] 26) = x := ⟨_, rfl⟩
      rw [hw6]
      obtain ⟨x6, z6, b6, _⟩ := new_st hw6
      have f6 := new_free37 hw6
      have hgr4 := HIG.out.lt
      have b46 := b4.trans (b6.mono b4.size)
      have IG6 := Lib.hid (HIG.out.below b46)
      have IW6 := Lib.hid (HIW.out.below b46)
      have C6 := Lib.hid (C4.below b6)
      have HB6 := Lib.hid (HBR.out.trans (b46.mono HBR.out.size))
      have hg4lt := C4.lt
      obtain ⟨ps, hps⟩ : ∃ p, w4.heap.size = p := ⟨_, rfl⟩
      rw [hps] at x6 f6 z6 hg4lt ⊢
      have hgg : pg < g4 := by omega
      have HX6 := Lib.hid x6
      have HF6 := Lib.hid f6
      have HZ6 := Lib.hid z6
      have hps0 : w.heap.size ≤ ps := by have := HBR.out.size; omega
      clear hw6 b4 b6 b46 C4 x6 f6 z6 hps hg4
      go_loopw [69] (fun u69 wx => ∃ (wv : World) (j g cS : Nat), wv = wx ∧ j ≤ S ∧ u69 = .int .i64 j ∧ Hid (wv.cell? ⟨ps, 0, none⟩ = some (.slice (some ⟨g, 0, none⟩) 5 cS)) ∧ wv.frozen? ⟨ps, 0, none⟩ = false ∧ Hid (ps < wv.heap.size) ∧ Hid (g ≠ ps ∧ pg < g) ∧ Hid (Cr5 wv g (Sc.turns a j [0, 0, 0, 0, 0]).1) ∧ Hid (IRow wv pg (Sc.turns a j [0, 0, 0, 0, 0]).2) ∧ Hid (IRow wv pw (Sc.wants a)) ∧ Below w.heap.size w wv) (fun u69 _ => S - (intOf u69).toNat)
      case atStart => exact ⟨w6, 0, g4, 5, rfl, Nat.zero_le _, rfl, HX6.out, HF6.out, HZ6.out, ⟨by omega, hgg⟩, C6.out, IG6.out, IW6.out, HB6.out⟩
      case round =>
        obtain ⟨wv, j, g, cS, rfl, hj, rfl, HX, hf, HZ, HGP, HC, HIG2, HIW2, hbv⟩ := hrel
        by_cases hlt2 : j < S
        · obtain ⟨hn1, kk, q, hkn, hn2, hkq, hq1, hq5, htq⟩ := HFS.out (by omega) (Sc.turns a j [0, 0, 0, 0, 0]).1
          have hvld : vldB (Sc.turns a j [0, 0, 0, 0, 0]).1 = true := (vldB_iff _).2 (Sc.turns_vld a j)
          have hgl := Sc.turns_len a [0, 0, 0, 0, 0] j
          have hgb := Sc.turns_get a [0, 0, 0, 0, 0] j q
          have hsu : Sc.turns a (j + 1) [0, 0, 0, 0, 0] = ((Sc.turn a (Sc.turns a j [0, 0, 0, 0, 0]).1).1, (Sc.turns a j [0, 0, 0, 0, 0]).2.set (Sc.turn a (Sc.turns a j [0, 0, 0, 0, 0]).1).2 ((Sc.turns a j [0, 0, 0, 0, 0]).2.getD (Sc.turn a (Sc.turns a j [0, 0, 0, 0, 0]).1).2 0 + 1)) := rfl
          rw [htq] at hsu
          have hl5 : (Sc.turns a j [0, 0, 0, 0, 0]).1.length = 5 := ((vldB_iff _).1 hvld).1
          obtain ⟨cr, hcr⟩ : ∃ x, (Sc.turns a j [0, 0, 0, 0, 0]).1 = x := ⟨_, rfl⟩
          obtain ⟨gt, hgt⟩ : ∃ x, (Sc.turns a j [0, 0, 0, 0, 0]).2 = x := ⟨_, rfl⟩
          rw [hcr] at hn1 hn2 hvld hsu HC hl5
          rw [hgt] at hgl hgb hsu HIG2
          obtain ⟨xv, hxv⟩ : ∃ x, gt.getD q 0 = x := ⟨_, rfl⟩
          obtain ⟨cn, hcn⟩ : ∃ x, (Sc.turn a cr).1 = x := ⟨_, rfl⟩
          rw [hxv] at hgb hsu
          rw [hcn] at hn1 hsu
          have HSU := Lib.hid hsu
          have HN1 := Lib.hid hn1
          have HN2 := Lib.hid hn2
          have HKQ := Lib.hid hkq
          have HXV := Lib.hid hxv
          have HVL := Lib.hid hvld
          have HL5 := Lib.hid hl5
          have HGL := Lib.hid hgl
          have HBR2 := Lib.hid hbv
          have HF := Lib.hid hf
          have zp := HZ.out
          obtain ⟨x0, xj⟩ := hgb
          have j1 : (j : Int) < (S : Int) := by omega
          clear hn1 hn2 hkq hxv hvld hsu hcr hgt hcn htq hl5 hgl hbv hf
          go_upto_region 15 with fail
          go_cut [9, 10, 11] (fun u9 u10 u11 wx => ∃ wy p9 gY cY, wy = wx ∧ u9 = .pointer (some ⟨p9, 0, none⟩) ∧ u10 = .int .i64 (kk : Int) ∧ u11 = .int .i64 0 ∧ Hid (wy.cell? ⟨p9, 0, none⟩ = some (.slice (some ⟨gY, 0, none⟩) 5 cY)) ∧ Hid (Cr5 wy gY cn) ∧ Hid (wv.heap.size ≤ gY ∧ wv.heap.size ≤ p9) ∧ Below wv.heap.size wv wy)
          case first =>
            go_wp2_with fail
            have hv0 : Below wv.heap.size wv wv.drew := (Below.refl _ _).drew
            refine wp_region_held_drew (S := fun W => Below wv.heap.size wv W) (by kernel_rfl) (hv0) (fun hHeld => ?_)
            refine wpAnyH_take (i := 0) (oi := { dst := some 72, op := Op.load 26 (Operand.tmp 8), type := 26, pos := "law.go:124", after := #[], guard := none }) (v := ?v0_5001) rfl (by kernel_rfl) (by kernel_rfl) (by kernel_rfl) (fun _ _ _ h => h) (Or.inl ⟨by rfl, ?h0_5001⟩) (by assumption) ?r0_5001
            case h0_5001 =>
              intro W hSW
              try dsimp only at hSW
              have hcc := (hSW.cell (p := ⟨ps, 0, none⟩) zp).trans HX.out
              go_simp
              try with_reducible rfl
            try simp only [Act.put, List.setIfInBounds_toArray, List.set_cons_zero, List.set_cons_succ]
            refine wpAnyH_take (i := 1) (oi := { dst := some 73, op := Op.move (Operand.tmp 0), type := 23, pos := "law.go:124", after := #[], guard := none }) (v := ?v1_5002) rfl (by kernel_rfl) (by kernel_rfl) (by kernel_rfl) (fun _ _ _ h => h) (Or.inl ⟨by rfl, ?h1_5002⟩) (by assumption) ?r1_5002
            case h1_5002 =>
              intro W hSW
              try dsimp only at hSW
              go_simp
              try with_reducible rfl
            try simp only [Act.put, List.setIfInBounds_toArray, List.set_cons_zero, List.set_cons_succ]
            refine wpAnyH_ready (rs := [2, 8]) (by kernel_rfl) (by simp) ?_
            refine AllReadyH.cons (o := { dst := some 74, op := Op.call { callee := Callee.value (Operand.func 12), args := #[Operand.tmp 73], argTypes := #[23] }, type := 30, pos := "law.go:124", after := #[{ on := 1, ground := Ground.data }], guard := none }) rfl (fun K hK => ?_) ?_
            · skip
              go_simp
              refine (HOWN.out wv.drew (HBR2.out.trans (hv0.mono HBR2.out.size))).mono ?_
              rintro e w20 ⟨A1, c1, rfl, own1, b20⟩
              have hv20 : Below wv.heap.size wv w20 := hv0.trans (b20.mono hv0.size)
              try (have r9 := r9.below' b20)
              try (have zp9 := Nat.lt_of_lt_of_le zp9 b20.size)
              obtain ⟨BT, hBT⟩ : ∃ x, w20.heap.size = x := ⟨_, rfl⟩
              have rT : Rd w20 BT 5 A1 k (L.flatMap tcs) := by rw [← hBT]; exact Rd.of_own own1
              have zT : BT ≤ w20.heap.size := Nat.le_of_eq hBT.symm
              clear hBT own1
              go_wp2_with fail
              refine hK.out _ _ (hv20) (fun hHeld => ?_)
              clear hK K
              try simp only [Act.put, List.setIfInBounds_toArray, List.set_cons_zero, List.set_cons_succ]
              refine wpAnyH_ready (rs := [3, 8]) (by kernel_rfl) (by simp) ?_
              refine AllReadyH.cons (o := { dst := some 75, op := Op.call { callee := Callee.value (Operand.func 11), args := #[Operand.tmp 72, Operand.tmp 74], argTypes := #[26, 30] }, type := 28, pos := "law.go:124", after := #[{ on := 0, ground := Ground.data }, { on := 2, ground := Ground.data }, { on := 2, ground := Ground.chain }], guard := none }) rfl (fun K hK => ?_) ?_
              · skip
                go_simp
                have hnx := Next_ok (some ⟨g, 0, none⟩) cS cr HL5.out w20.heap.size A1 k c1 L HL.out (by omega) BT w20 rT zT (HC.out.below hv20).rd (Nat.le_refl _) HVL.out
                unfold NextOk at hnx
                rw [HN1.out, HN2.out] at hnx
                refine hnx.mono ?_
                rintro e w21 ⟨gY, cY, rfl, CY, hgY, b21⟩
                have hv21 : Below wv.heap.size wv w21 := hv20.trans (b21.mono hv20.size)
                have hgW : wv.heap.size ≤ gY := Nat.le_trans hv20.size hgY
                try (have hne : gY ≠ p9 := by omega)
                try (have r9 := r9.below' b21)
                try (have zp9 := Nat.lt_of_lt_of_le zp9 b21.size)
                clear hnx hgY rT zT
                go_wp2_with fail
                refine hK.out _ _ (hv21) (fun hHeld => ?_)
                clear hK K
                try simp only [Act.put, List.setIfInBounds_toArray, List.set_cons_zero, List.set_cons_succ]
                refine wpAnyH_take (i := 4) (oi := { dst := some 71, op := Op.move (Operand.tmp 75), type := 28, pos := "law.go:124", after := #[{ on := 3, ground := Ground.data }], guard := none }) (v := ?v4_5003) rfl (by kernel_rfl) (by kernel_rfl) (by kernel_rfl) (fun _ _ _ h => h) (Or.inl ⟨by rfl, ?h4_5003⟩) (by assumption) ?r4_5003
                case h4_5003 =>
                  intro W hSW
                  try dsimp only at hSW
                  go_simp
                  try with_reducible rfl
                try simp only [Act.put, List.setIfInBounds_toArray, List.set_cons_zero, List.set_cons_succ]
                refine wpAnyH_take (i := 5) (oi := { dst := some 76, op := Op.extract (Operand.tmp 71) 0, type := 26, pos := "law.go:124", after := #[{ on := 4, ground := Ground.data }], guard := none }) (v := ?v5_5004) rfl (by kernel_rfl) (by kernel_rfl) (by kernel_rfl) (fun _ _ _ h => h) (Or.inl ⟨by rfl, ?h5_5004⟩) (by assumption) ?r5_5004
                case h5_5004 =>
                  intro W hSW
                  try dsimp only at hSW
                  go_simp
                  try with_reducible rfl
                try simp only [Act.put, List.setIfInBounds_toArray, List.set_cons_zero, List.set_cons_succ]
                refine wpAnyH_take (i := 6) (oi := { dst := some 77, op := Op.extract (Operand.tmp 71) 1, type := 3, pos := "law.go:124", after := #[{ on := 4, ground := Ground.data }, { on := 9, ground := Ground.gcOnly Departure.lateStores }], guard := none }) (v := ?v6_5005) rfl (by kernel_rfl) (by kernel_rfl) (by kernel_rfl) (fun _ _ _ h => h) (Or.inl ⟨by rfl, ?h6_5005⟩) (by assumption) ?r6_5005
                case h6_5005 =>
                  intro W hSW
                  try dsimp only at hSW
                  go_simp
                  try with_reducible rfl
                try simp only [Act.put, List.setIfInBounds_toArray, List.set_cons_zero, List.set_cons_succ]
                refine wpAnyH_take (i := 7) (oi := { dst := some 78, op := Op.extract (Operand.tmp 71) 2, type := 27, pos := "law.go:124", after := #[{ on := 4, ground := Ground.data }, { on := 10, ground := Ground.gcOnly Departure.lateStores }], guard := none }) (v := ?v7_5006) rfl (by kernel_rfl) (by kernel_rfl) (by kernel_rfl) (fun _ _ _ h => h) (Or.inl ⟨by rfl, ?h7_5006⟩) (by assumption) ?r7_5006
                case h7_5006 =>
                  intro W hSW
                  try dsimp only at hSW
                  go_simp
                  try with_reducible rfl
                try simp only [Act.put, List.setIfInBounds_toArray, List.set_cons_zero, List.set_cons_succ]
                refine wpAnyH_ready (rs := [8]) (by kernel_rfl) (by simp) ?_
                refine AllReadyH.cons (o := { dst := some 9, op := Op.alloc 26, type := 0, pos := "law.go:124", after := #[], guard := none }) rfl (fun K hK => ?_) AllReadyH.nil
                rw [if_pos (by rfl)]
                refine wp_allocRow 26 rfl [.slice none 0 0] infoS ?_
                intro w22 r9 b22 z22
                have hv22 : Below wv.heap.size wv w22 := hv21.trans (b22.mono hv21.size)
                try (have hlY := CY.lt)
                try (have CY := CY.below b22)
                try (have rT := rT.below (b22.mono zT))
                try (have zT := Nat.le_trans zT b22.size)
                have l9 : wv.heap.size ≤ w21.heap.size := hv21.size
                have zp9 : w21.heap.size < w22.heap.size := by omega
                obtain ⟨p9, hp9⟩ : ∃ p, w21.heap.size = p := ⟨_, rfl⟩
                try (have hne : gY ≠ p9 := by omega)
                rw [hp9] at r9 l9 zp9
                rw [hp9]
                clear hp9 z22
                refine hK.out _ _ (hv22) (fun hHeld => ?_)
                clear hK K
                try simp only [Act.put, List.setIfInBounds_toArray, List.set_cons_zero, List.set_cons_succ]
                refine wpAnyH_ready (rs := [9]) (by kernel_rfl) (by simp) ?_
                refine AllReadyH.cons (o := { dst := none, op := Op.store 26 (Operand.tmp 9) (Operand.tmp 76), type := 0, pos := "law.go:124", after := #[{ on := 8, ground := Ground.data }, { on := 5, ground := Ground.data }, { on := 3, ground := Ground.chain }, { on := 0, ground := Ground.phase }, { on := 1, ground := Ground.phase }, { on := 2, ground := Ground.phase }, { on := 3, ground := Ground.phase }, { on := 4, ground := Ground.phase }, { on := 5, ground := Ground.phase }, { on := 6, ground := Ground.textOnly Departure.lateStores }, { on := 7, ground := Ground.textOnly Departure.lateStores }, { on := 8, ground := Ground.phase }], guard := none }) rfl (fun K hK => ?_) AllReadyH.nil
                rw [if_pos (by rfl)]
                refine wp_storeRow 26 (.tmp 9) (.tmp 76) rfl r9 rfl (l' := [.slice (some ⟨gY, 0, none⟩) 5 cY]) rfl infoS1 rfl rfl ?_
                intro w23 s9 g23 z23
                have hv23 : Below wv.heap.size wv w23 := hv22.grown g23 hv22.size (fun k hk => by have := Option.some.inj hk; omega)
                have CY := CY.keep (g23.block gY CY.lt (by intro e; have := Option.some.inj e; omega))
                clear z23
                refine hK.out _ _ (hv23) (fun hHeld => ?_)
                clear hK K
                try simp only [Act.put, List.setIfInBounds_toArray, List.set_cons_zero, List.set_cons_succ]
                refine wpAnyH_take (i := 10) (oi := { dst := some 10, op := Op.assign (Operand.tmp 77), type := 3, pos := "law.go:124", after := #[{ on := 6, ground := Ground.data }, { on := 9, ground := Ground.chain }, { on := 0, ground := Ground.phase }, { on := 1, ground := Ground.phase }, { on := 2, ground := Ground.phase }, { on := 3, ground := Ground.phase }, { on := 4, ground := Ground.phase }, { on := 5, ground := Ground.phase }, { on := 6, ground := Ground.phase }, { on := 7, ground := Ground.textOnly Departure.lateStores }, { on := 8, ground := Ground.phase }, { on := 9, ground := Ground.phase }], guard := none }) (v := ?v10_5007) rfl (by kernel_rfl) (by kernel_rfl) (by kernel_rfl) (fun _ _ _ h => h) (Or.inl ⟨by rfl, ?h10_5007⟩) (by assumption) ?r10_5007
                case h10_5007 =>
                  intro W hSW
                  try dsimp only at hSW
                  go_simp
                  try with_reducible rfl
                try simp only [Act.put, List.setIfInBounds_toArray, List.set_cons_zero, List.set_cons_succ]
                refine wpAnyH_take (i := 11) (oi := { dst := some 11, op := Op.assign (Operand.tmp 78), type := 27, pos := "law.go:124", after := #[{ on := 7, ground := Ground.data }, { on := 10, ground := Ground.chain }, { on := 0, ground := Ground.phase }, { on := 1, ground := Ground.phase }, { on := 2, ground := Ground.phase }, { on := 3, ground := Ground.phase }, { on := 4, ground := Ground.phase }, { on := 5, ground := Ground.phase }, { on := 6, ground := Ground.phase }, { on := 7, ground := Ground.phase }, { on := 8, ground := Ground.phase }, { on := 9, ground := Ground.phase }, { on := 10, ground := Ground.phase }], guard := none }) (v := ?v11_5008) rfl (by kernel_rfl) (by kernel_rfl) (by kernel_rfl) (fun _ _ _ h => h) (Or.inl ⟨by rfl, ?h11_5008⟩) (by assumption) ?r11_5008
                case h11_5008 =>
                  intro W hSW
                  try dsimp only at hSW
                  go_simp
                  try with_reducible rfl
                try simp only [Act.put, List.setIfInBounds_toArray, List.set_cons_zero, List.set_cons_succ]
                refine wpAnyH_done (by kernel_rfl) ?_ _
                go_wp2_with fail
                go_meet
                exact ⟨_, p9, gY, cY, rfl, rfl, rfl, rfl, s9.cell 0, CY, ⟨hgW, l9⟩, hv23⟩
              · skip
                refine AllReadyH.cons (o := { dst := some 9, op := Op.alloc 26, type := 0, pos := "law.go:124", after := #[], guard := none }) rfl (fun K hK => ?_) AllReadyH.nil
                rw [if_pos (by rfl)]
                refine wp_allocRow 26 rfl [.slice none 0 0] infoS ?_
                intro w21 r9 b21 z21
                have hv21 : Below wv.heap.size wv w21 := hv20.trans (b21.mono hv20.size)
                try (have hlY := CY.lt)
                try (have CY := CY.below b21)
                try (have rT := rT.below (b21.mono zT))
                try (have zT := Nat.le_trans zT b21.size)
                have l9 : wv.heap.size ≤ w20.heap.size := hv20.size
                have zp9 : w20.heap.size < w21.heap.size := by omega
                obtain ⟨p9, hp9⟩ : ∃ p, w20.heap.size = p := ⟨_, rfl⟩
                try (have hne : gY ≠ p9 := by omega)
                rw [hp9] at r9 l9 zp9
                rw [hp9]
                clear hp9 z21
                refine hK.out _ _ (hv21) (fun hHeld => ?_)
                clear hK K
                try simp only [Act.put, List.setIfInBounds_toArray, List.set_cons_zero, List.set_cons_succ]
                refine wpAnyH_ready (rs := [3]) (by kernel_rfl) (by simp) ?_
                refine AllReadyH.cons (o := { dst := some 75, op := Op.call { callee := Callee.value (Operand.func 11), args := #[Operand.tmp 72, Operand.tmp 74], argTypes := #[26, 30] }, type := 28, pos := "law.go:124", after := #[{ on := 0, ground := Ground.data }, { on := 2, ground := Ground.data }, { on := 2, ground := Ground.chain }], guard := none }) rfl (fun K hK => ?_) AllReadyH.nil
                go_simp
                have hnx := Next_ok (some ⟨g, 0, none⟩) cS cr HL5.out w21.heap.size A1 k c1 L HL.out (by omega) BT w21 rT zT (HC.out.below hv21).rd (Nat.le_refl _) HVL.out
                unfold NextOk at hnx
                rw [HN1.out, HN2.out] at hnx
                refine hnx.mono ?_
                rintro e w22 ⟨gY, cY, rfl, CY, hgY, b22⟩
                have hv22 : Below wv.heap.size wv w22 := hv21.trans (b22.mono hv21.size)
                have hgW : wv.heap.size ≤ gY := Nat.le_trans hv21.size hgY
                try (have hne : gY ≠ p9 := by omega)
                try (have r9 := r9.below' b22)
                try (have zp9 := Nat.lt_of_lt_of_le zp9 b22.size)
                clear hnx hgY rT zT
                go_wp2_with fail
                refine hK.out _ _ (hv22) (fun hHeld => ?_)
                clear hK K
                try simp only [Act.put, List.setIfInBounds_toArray, List.set_cons_zero, List.set_cons_succ]
                refine wpAnyH_take (i := 4) (oi := { dst := some 71, op := Op.move (Operand.tmp 75), type := 28, pos := "law.go:124", after := #[{ on := 3, ground := Ground.data }], guard := none }) (v := ?v4_5009) rfl (by kernel_rfl) (by kernel_rfl) (by kernel_rfl) (fun _ _ _ h => h) (Or.inl ⟨by rfl, ?h4_5009⟩) (by assumption) ?r4_5009
                case h4_5009 =>
                  intro W hSW
                  try dsimp only at hSW
                  go_simp
                  try with_reducible rfl
                try simp only [Act.put, List.setIfInBounds_toArray, List.set_cons_zero, List.set_cons_succ]
                refine wpAnyH_take (i := 5) (oi := { dst := some 76, op := Op.extract (Operand.tmp 71) 0, type := 26, pos := "law.go:124", after := #[{ on := 4, ground := Ground.data }], guard := none }) (v := ?v5_5010) rfl (by kernel_rfl) (by kernel_rfl) (by kernel_rfl) (fun _ _ _ h => h) (Or.inl ⟨by rfl, ?h5_5010⟩) (by assumption) ?r5_5010
                case h5_5010 =>
                  intro W hSW
                  try dsimp only at hSW
                  go_simp
                  try with_reducible rfl
                try simp only [Act.put, List.setIfInBounds_toArray, List.set_cons_zero, List.set_cons_succ]
                refine wpAnyH_take (i := 6) (oi := { dst := some 77, op := Op.extract (Operand.tmp 71) 1, type := 3, pos := "law.go:124", after := #[{ on := 4, ground := Ground.data }, { on := 9, ground := Ground.gcOnly Departure.lateStores }], guard := none }) (v := ?v6_5011) rfl (by kernel_rfl) (by kernel_rfl) (by kernel_rfl) (fun _ _ _ h => h) (Or.inl ⟨by rfl, ?h6_5011⟩) (by assumption) ?r6_5011
                case h6_5011 =>
                  intro W hSW
                  try dsimp only at hSW
                  go_simp
                  try with_reducible rfl
                try simp only [Act.put, List.setIfInBounds_toArray, List.set_cons_zero, List.set_cons_succ]
                refine wpAnyH_take (i := 7) (oi := { dst := some 78, op := Op.extract (Operand.tmp 71) 2, type := 27, pos := "law.go:124", after := #[{ on := 4, ground := Ground.data }, { on := 10, ground := Ground.gcOnly Departure.lateStores }], guard := none }) (v := ?v7_5012) rfl (by kernel_rfl) (by kernel_rfl) (by kernel_rfl) (fun _ _ _ h => h) (Or.inl ⟨by rfl, ?h7_5012⟩) (by assumption) ?r7_5012
                case h7_5012 =>
                  intro W hSW
                  try dsimp only at hSW
                  go_simp
                  try with_reducible rfl
                try simp only [Act.put, List.setIfInBounds_toArray, List.set_cons_zero, List.set_cons_succ]
                refine wpAnyH_ready (rs := [9]) (by kernel_rfl) (by simp) ?_
                refine AllReadyH.cons (o := { dst := none, op := Op.store 26 (Operand.tmp 9) (Operand.tmp 76), type := 0, pos := "law.go:124", after := #[{ on := 8, ground := Ground.data }, { on := 5, ground := Ground.data }, { on := 3, ground := Ground.chain }, { on := 0, ground := Ground.phase }, { on := 1, ground := Ground.phase }, { on := 2, ground := Ground.phase }, { on := 3, ground := Ground.phase }, { on := 4, ground := Ground.phase }, { on := 5, ground := Ground.phase }, { on := 6, ground := Ground.textOnly Departure.lateStores }, { on := 7, ground := Ground.textOnly Departure.lateStores }, { on := 8, ground := Ground.phase }], guard := none }) rfl (fun K hK => ?_) AllReadyH.nil
                rw [if_pos (by rfl)]
                refine wp_storeRow 26 (.tmp 9) (.tmp 76) rfl r9 rfl (l' := [.slice (some ⟨gY, 0, none⟩) 5 cY]) rfl infoS1 rfl rfl ?_
                intro w23 s9 g23 z23
                have hv23 : Below wv.heap.size wv w23 := hv22.grown g23 hv22.size (fun k hk => by have := Option.some.inj hk; omega)
                have CY := CY.keep (g23.block gY CY.lt (by intro e; have := Option.some.inj e; omega))
                clear z23
                refine hK.out _ _ (hv23) (fun hHeld => ?_)
                clear hK K
                try simp only [Act.put, List.setIfInBounds_toArray, List.set_cons_zero, List.set_cons_succ]
                refine wpAnyH_take (i := 10) (oi := { dst := some 10, op := Op.assign (Operand.tmp 77), type := 3, pos := "law.go:124", after := #[{ on := 6, ground := Ground.data }, { on := 9, ground := Ground.chain }, { on := 0, ground := Ground.phase }, { on := 1, ground := Ground.phase }, { on := 2, ground := Ground.phase }, { on := 3, ground := Ground.phase }, { on := 4, ground := Ground.phase }, { on := 5, ground := Ground.phase }, { on := 6, ground := Ground.phase }, { on := 7, ground := Ground.textOnly Departure.lateStores }, { on := 8, ground := Ground.phase }, { on := 9, ground := Ground.phase }], guard := none }) (v := ?v10_5013) rfl (by kernel_rfl) (by kernel_rfl) (by kernel_rfl) (fun _ _ _ h => h) (Or.inl ⟨by rfl, ?h10_5013⟩) (by assumption) ?r10_5013
                case h10_5013 =>
                  intro W hSW
                  try dsimp only at hSW
                  go_simp
                  try with_reducible rfl
                try simp only [Act.put, List.setIfInBounds_toArray, List.set_cons_zero, List.set_cons_succ]
                refine wpAnyH_take (i := 11) (oi := { dst := some 11, op := Op.assign (Operand.tmp 78), type := 27, pos := "law.go:124", after := #[{ on := 7, ground := Ground.data }, { on := 10, ground := Ground.chain }, { on := 0, ground := Ground.phase }, { on := 1, ground := Ground.phase }, { on := 2, ground := Ground.phase }, { on := 3, ground := Ground.phase }, { on := 4, ground := Ground.phase }, { on := 5, ground := Ground.phase }, { on := 6, ground := Ground.phase }, { on := 7, ground := Ground.phase }, { on := 8, ground := Ground.phase }, { on := 9, ground := Ground.phase }, { on := 10, ground := Ground.phase }], guard := none }) (v := ?v11_5014) rfl (by kernel_rfl) (by kernel_rfl) (by kernel_rfl) (fun _ _ _ h => h) (Or.inl ⟨by rfl, ?h11_5014⟩) (by assumption) ?r11_5014
                case h11_5014 =>
                  intro W hSW
                  try dsimp only at hSW
                  go_simp
                  try with_reducible rfl
                try simp only [Act.put, List.setIfInBounds_toArray, List.set_cons_zero, List.set_cons_succ]
                refine wpAnyH_done (by kernel_rfl) ?_ _
                go_wp2_with fail
                go_meet
                exact ⟨_, p9, gY, cY, rfl, rfl, rfl, rfl, s9.cell 0, CY, ⟨hgW, l9⟩, hv23⟩
            · skip
              refine AllReadyH.cons (o := { dst := some 9, op := Op.alloc 26, type := 0, pos := "law.go:124", after := #[], guard := none }) rfl (fun K hK => ?_) AllReadyH.nil
              rw [if_pos (by rfl)]
              refine wp_allocRow 26 rfl [.slice none 0 0] infoS ?_
              intro w20 r9 b20 z20
              have hv20 : Below wv.heap.size wv w20 := hv0.trans (b20.mono hv0.size)
              try (have hlY := CY.lt)
              try (have CY := CY.below b20)
              try (have rT := rT.below (b20.mono zT))
              try (have zT := Nat.le_trans zT b20.size)
              have l9 : wv.heap.size ≤ wv.drew.heap.size := hv0.size
              have zp9 : wv.drew.heap.size < w20.heap.size := by omega
              obtain ⟨p9, hp9⟩ : ∃ p, wv.drew.heap.size = p := ⟨_, rfl⟩
              try (have hne : gY ≠ p9 := by omega)
              rw [hp9] at r9 l9 zp9
              rw [hp9]
              clear hp9 z20
              refine hK.out _ _ (hv20) (fun hHeld => ?_)
              clear hK K
              try simp only [Act.put, List.setIfInBounds_toArray, List.set_cons_zero, List.set_cons_succ]
              refine wpAnyH_ready (rs := [2]) (by kernel_rfl) (by simp) ?_
              refine AllReadyH.cons (o := { dst := some 74, op := Op.call { callee := Callee.value (Operand.func 12), args := #[Operand.tmp 73], argTypes := #[23] }, type := 30, pos := "law.go:124", after := #[{ on := 1, ground := Ground.data }], guard := none }) rfl (fun K hK => ?_) AllReadyH.nil
              go_simp
              refine (HOWN.out w20 (HBR2.out.trans (hv20.mono HBR2.out.size))).mono ?_
              rintro e w21 ⟨A1, c1, rfl, own1, b21⟩
              have hv21 : Below wv.heap.size wv w21 := hv20.trans (b21.mono hv20.size)
              try (have r9 := r9.below' b21)
              try (have zp9 := Nat.lt_of_lt_of_le zp9 b21.size)
              obtain ⟨BT, hBT⟩ : ∃ x, w21.heap.size = x := ⟨_, rfl⟩
              have rT : Rd w21 BT 5 A1 k (L.flatMap tcs) := by rw [← hBT]; exact Rd.of_own own1
              have zT : BT ≤ w21.heap.size := Nat.le_of_eq hBT.symm
              clear hBT own1
              go_wp2_with fail
              refine hK.out _ _ (hv21) (fun hHeld => ?_)
              clear hK K
              try simp only [Act.put, List.setIfInBounds_toArray, List.set_cons_zero, List.set_cons_succ]
              refine wpAnyH_ready (rs := [3]) (by kernel_rfl) (by simp) ?_
              refine AllReadyH.cons (o := { dst := some 75, op := Op.call { callee := Callee.value (Operand.func 11), args := #[Operand.tmp 72, Operand.tmp 74], argTypes := #[26, 30] }, type := 28, pos := "law.go:124", after := #[{ on := 0, ground := Ground.data }, { on := 2, ground := Ground.data }, { on := 2, ground := Ground.chain }], guard := none }) rfl (fun K hK => ?_) AllReadyH.nil
              go_simp
              have hnx := Next_ok (some ⟨g, 0, none⟩) cS cr HL5.out w21.heap.size A1 k c1 L HL.out (by omega) BT w21 rT zT (HC.out.below hv21).rd (Nat.le_refl _) HVL.out
              unfold NextOk at hnx
              rw [HN1.out, HN2.out] at hnx
              refine hnx.mono ?_
              rintro e w22 ⟨gY, cY, rfl, CY, hgY, b22⟩
              have hv22 : Below wv.heap.size wv w22 := hv21.trans (b22.mono hv21.size)
              have hgW : wv.heap.size ≤ gY := Nat.le_trans hv21.size hgY
              try (have hne : gY ≠ p9 := by omega)
              try (have r9 := r9.below' b22)
              try (have zp9 := Nat.lt_of_lt_of_le zp9 b22.size)
              clear hnx hgY rT zT
              go_wp2_with fail
              refine hK.out _ _ (hv22) (fun hHeld => ?_)
              clear hK K
              try simp only [Act.put, List.setIfInBounds_toArray, List.set_cons_zero, List.set_cons_succ]
              refine wpAnyH_take (i := 4) (oi := { dst := some 71, op := Op.move (Operand.tmp 75), type := 28, pos := "law.go:124", after := #[{ on := 3, ground := Ground.data }], guard := none }) (v := ?v4_5015) rfl (by kernel_rfl) (by kernel_rfl) (by kernel_rfl) (fun _ _ _ h => h) (Or.inl ⟨by rfl, ?h4_5015⟩) (by assumption) ?r4_5015
              case h4_5015 =>
                intro W hSW
                try dsimp only at hSW
                go_simp
                try with_reducible rfl
              try simp only [Act.put, List.setIfInBounds_toArray, List.set_cons_zero, List.set_cons_succ]
              refine wpAnyH_take (i := 5) (oi := { dst := some 76, op := Op.extract (Operand.tmp 71) 0, type := 26, pos := "law.go:124", after := #[{ on := 4, ground := Ground.data }], guard := none }) (v := ?v5_5016) rfl (by kernel_rfl) (by kernel_rfl) (by kernel_rfl) (fun _ _ _ h => h) (Or.inl ⟨by rfl, ?h5_5016⟩) (by assumption) ?r5_5016
              case h5_5016 =>
                intro W hSW
                try dsimp only at hSW
                go_simp
                try with_reducible rfl
              try simp only [Act.put, List.setIfInBounds_toArray, List.set_cons_zero, List.set_cons_succ]
              refine wpAnyH_take (i := 6) (oi := { dst := some 77, op := Op.extract (Operand.tmp 71) 1, type := 3, pos := "law.go:124", after := #[{ on := 4, ground := Ground.data }, { on := 9, ground := Ground.gcOnly Departure.lateStores }], guard := none }) (v := ?v6_5017) rfl (by kernel_rfl) (by kernel_rfl) (by kernel_rfl) (fun _ _ _ h => h) (Or.inl ⟨by rfl, ?h6_5017⟩) (by assumption) ?r6_5017
              case h6_5017 =>
                intro W hSW
                try dsimp only at hSW
                go_simp
                try with_reducible rfl
              try simp only [Act.put, List.setIfInBounds_toArray, List.set_cons_zero, List.set_cons_succ]
              refine wpAnyH_take (i := 7) (oi := { dst := some 78, op := Op.extract (Operand.tmp 71) 2, type := 27, pos := "law.go:124", after := #[{ on := 4, ground := Ground.data }, { on := 10, ground := Ground.gcOnly Departure.lateStores }], guard := none }) (v := ?v7_5018) rfl (by kernel_rfl) (by kernel_rfl) (by kernel_rfl) (fun _ _ _ h => h) (Or.inl ⟨by rfl, ?h7_5018⟩) (by assumption) ?r7_5018
              case h7_5018 =>
                intro W hSW
                try dsimp only at hSW
                go_simp
                try with_reducible rfl
              try simp only [Act.put, List.setIfInBounds_toArray, List.set_cons_zero, List.set_cons_succ]
              refine wpAnyH_ready (rs := [9]) (by kernel_rfl) (by simp) ?_
              refine AllReadyH.cons (o := { dst := none, op := Op.store 26 (Operand.tmp 9) (Operand.tmp 76), type := 0, pos := "law.go:124", after := #[{ on := 8, ground := Ground.data }, { on := 5, ground := Ground.data }, { on := 3, ground := Ground.chain }, { on := 0, ground := Ground.phase }, { on := 1, ground := Ground.phase }, { on := 2, ground := Ground.phase }, { on := 3, ground := Ground.phase }, { on := 4, ground := Ground.phase }, { on := 5, ground := Ground.phase }, { on := 6, ground := Ground.textOnly Departure.lateStores }, { on := 7, ground := Ground.textOnly Departure.lateStores }, { on := 8, ground := Ground.phase }], guard := none }) rfl (fun K hK => ?_) AllReadyH.nil
              rw [if_pos (by rfl)]
              refine wp_storeRow 26 (.tmp 9) (.tmp 76) rfl r9 rfl (l' := [.slice (some ⟨gY, 0, none⟩) 5 cY]) rfl infoS1 rfl rfl ?_
              intro w23 s9 g23 z23
              have hv23 : Below wv.heap.size wv w23 := hv22.grown g23 hv22.size (fun k hk => by have := Option.some.inj hk; omega)
              have CY := CY.keep (g23.block gY CY.lt (by intro e; have := Option.some.inj e; omega))
              clear z23
              refine hK.out _ _ (hv23) (fun hHeld => ?_)
              clear hK K
              try simp only [Act.put, List.setIfInBounds_toArray, List.set_cons_zero, List.set_cons_succ]
              refine wpAnyH_take (i := 10) (oi := { dst := some 10, op := Op.assign (Operand.tmp 77), type := 3, pos := "law.go:124", after := #[{ on := 6, ground := Ground.data }, { on := 9, ground := Ground.chain }, { on := 0, ground := Ground.phase }, { on := 1, ground := Ground.phase }, { on := 2, ground := Ground.phase }, { on := 3, ground := Ground.phase }, { on := 4, ground := Ground.phase }, { on := 5, ground := Ground.phase }, { on := 6, ground := Ground.phase }, { on := 7, ground := Ground.textOnly Departure.lateStores }, { on := 8, ground := Ground.phase }, { on := 9, ground := Ground.phase }], guard := none }) (v := ?v10_5019) rfl (by kernel_rfl) (by kernel_rfl) (by kernel_rfl) (fun _ _ _ h => h) (Or.inl ⟨by rfl, ?h10_5019⟩) (by assumption) ?r10_5019
              case h10_5019 =>
                intro W hSW
                try dsimp only at hSW
                go_simp
                try with_reducible rfl
              try simp only [Act.put, List.setIfInBounds_toArray, List.set_cons_zero, List.set_cons_succ]
              refine wpAnyH_take (i := 11) (oi := { dst := some 11, op := Op.assign (Operand.tmp 78), type := 27, pos := "law.go:124", after := #[{ on := 7, ground := Ground.data }, { on := 10, ground := Ground.chain }, { on := 0, ground := Ground.phase }, { on := 1, ground := Ground.phase }, { on := 2, ground := Ground.phase }, { on := 3, ground := Ground.phase }, { on := 4, ground := Ground.phase }, { on := 5, ground := Ground.phase }, { on := 6, ground := Ground.phase }, { on := 7, ground := Ground.phase }, { on := 8, ground := Ground.phase }, { on := 9, ground := Ground.phase }, { on := 10, ground := Ground.phase }], guard := none }) (v := ?v11_5020) rfl (by kernel_rfl) (by kernel_rfl) (by kernel_rfl) (fun _ _ _ h => h) (Or.inl ⟨by rfl, ?h11_5020⟩) (by assumption) ?r11_5020
              case h11_5020 =>
                intro W hSW
                try dsimp only at hSW
                go_simp
                try with_reducible rfl
              try simp only [Act.put, List.setIfInBounds_toArray, List.set_cons_zero, List.set_cons_succ]
              refine wpAnyH_done (by kernel_rfl) ?_ _
              go_wp2_with fail
              go_meet
              exact ⟨_, p9, gY, cY, rfl, rfl, rfl, rfl, s9.cell 0, CY, ⟨hgW, l9⟩, hv23⟩
          case rest =>
            obtain ⟨wy, p9, gY, cY, rfl, rfl, rfl, rfl, HX9, HCY, HGY, hby⟩ := hcut
            obtain ⟨bt, offt, rfl, hbt0, hct⟩ := (HRD.out.below (HBR2.out.trans (hby.mono HBR2.out.size))).tk HL.out (by omega)
            have hkc := (hct kk hkn).1
            rw [HKQ.out] at hkc
            have x9 := HX9.out
            have zy := hby.size
            have hig := HIG2.out.below hby
            have kg := hig.cell q (by rw [HGL.out]; omega)
            have fg := hig.free q (by rw [HGL.out]; omega)
            rw [HXV.out] at kg
            have xs := (hby.cell (p := ⟨ps, 0, none⟩) zp).trans HX.out
            have fs := (World.frozen?_of_block (a := ⟨ps, 0, none⟩) (hby.block ps zp)).trans HF.out
            have HIG3 := Lib.hid hig
            have HIW3 := Lib.hid (HIW2.out.below hby)
            have HBY := Lib.hid hby
            have HFSS := Lib.hid fs
            have HXSS := Lib.hid xs
            have hpgs : pg ≠ ps := by omega
            have hgylt := HCY.out.lt
            have e1 : IntKind.i64.wrap (xv + 1) = xv + 1 := IntWalk.i64_in _ (by omega)
            have i0 : (0 : Int) ≤ (kk : Int) := by omega
            have i1 : (kk : Int) < (k : Int) := by omega
            have iq0 : (0 : Int) ≤ (q : Int) := by omega
            have iq1 : ¬ ((q : Int) < 1) := by omega
            have iq5 : ¬ (5 < (q : Int)) := by omega
            have iq6 : (q : Int) < 6 := by omega
            clear hct hby hig hbt0
            go_wp2_with fail
            go_roundw
            case rel =>
              have G1 := grown_setCell wy pg q (Value.int .i64 (xv + 1))
              have G2 := grown_setCell (wy.setCell ⟨pg, q, none⟩ (Value.int .i64 (xv + 1))) ps 0 (Value.slice (some ⟨gY, 0, none⟩) 5 cY)
              have y1 := HGY.out.1
              have lw := HIW3.out.lt
              have lg := HIG3.out.lt
              have zs : (wy.setCell ⟨pg, q, none⟩ (Value.int .i64 (xv + 1))).heap.size = wy.heap.size := by simp
              have ne : ∀ x y : Nat, x ≠ y → some x ≠ some y := fun x y h e => h (Option.some.inj e)
              refine ⟨_, j + 1, gY, cY, rfl, by omega, by go_num, cell_set_eq _ _ ((World.cell?_of_block (a := ⟨ps, 0, none⟩) (G1.block ps (by omega) (ne _ _ (by omega)))).trans xs), by simpa using fs, ?_, ⟨by omega, by omega⟩, ?_, ?_, ?_, ?_⟩
              · show ps < _
                have := G2.size
                omega
              · rw [HSU.out]
                exact (HCY.out.keep (G1.block gY hgylt (ne _ _ (by omega)))).keep (G2.block gY (by omega) (ne _ _ (by omega)))
              · rw [HSU.out]
                exact (HIG3.out.set (by rw [HGL.out]; omega) _).keep (G2.block pg (by omega) (ne _ _ hpgs))
              · exact (HIW3.out.keep (G1.block pw lw (ne _ _ (by omega)))).keep (G2.block pw (by omega) (ne _ _ (by omega)))
              · exact ((HBR2.out.trans (HBY.out.mono HBR2.out.size)).grown G1 (by have := HBR2.out.size; omega) (fun i hi => by have := Option.some.inj hi; omega)).grown G2 (by have := HBR2.out.size; omega) (fun i hi => by have := Option.some.inj hi; omega)
            case measure => simp [intOf]; omega
        · obtain rfl : j = S := by omega
          rw [HFAIR.out] at HC HIG2
          obtain ⟨x1, hx1⟩ : ∃ x : Int, (if a 1 then 4 else 0) = x := ⟨_, rfl⟩
          obtain ⟨x2, hx2⟩ : ∃ x : Int, (if a 2 then 2 else 0) = x := ⟨_, rfl⟩
          obtain ⟨x3, hx3⟩ : ∃ x : Int, (if a 3 then 2 else 0) = x := ⟨_, rfl⟩
          obtain ⟨x4, hx4⟩ : ∃ x : Int, (if a 4 then 1 else 0) = x := ⟨_, rfl⟩
          obtain ⟨x5, hx5⟩ : ∃ x : Int, (if a 5 then 1 else 0) = x := ⟨_, rfl⟩
          have hwl : Sc.wants a = [0, x1, x2, x3, x4, x5] := by unfold Sc.wants; rw [hx1, hx2, hx3, hx4, hx5]
          rw [hwl] at HIG2 HIW2
          have P0 := Lib.hid (show wv.cell? ⟨pg, 0, none⟩ = some (.int .i64 0) from HIG2.out.cell 0 (by show 0 < 6; decide))
          have Q0 := Lib.hid (show wv.cell? ⟨pw, 0, none⟩ = some (.int .i64 0) from HIW2.out.cell 0 (by show 0 < 6; decide))
          have P1 := Lib.hid (show wv.cell? ⟨pg, 1, none⟩ = some (.int .i64 x1) from HIG2.out.cell 1 (by show 1 < 6; decide))
          have Q1 := Lib.hid (show wv.cell? ⟨pw, 1, none⟩ = some (.int .i64 x1) from HIW2.out.cell 1 (by show 1 < 6; decide))
          have P2 := Lib.hid (show wv.cell? ⟨pg, 2, none⟩ = some (.int .i64 x2) from HIG2.out.cell 2 (by show 2 < 6; decide))
          have Q2 := Lib.hid (show wv.cell? ⟨pw, 2, none⟩ = some (.int .i64 x2) from HIW2.out.cell 2 (by show 2 < 6; decide))
          have P3 := Lib.hid (show wv.cell? ⟨pg, 3, none⟩ = some (.int .i64 x3) from HIG2.out.cell 3 (by show 3 < 6; decide))
          have Q3 := Lib.hid (show wv.cell? ⟨pw, 3, none⟩ = some (.int .i64 x3) from HIW2.out.cell 3 (by show 3 < 6; decide))
          have P4 := Lib.hid (show wv.cell? ⟨pg, 4, none⟩ = some (.int .i64 x4) from HIG2.out.cell 4 (by show 4 < 6; decide))
          have Q4 := Lib.hid (show wv.cell? ⟨pw, 4, none⟩ = some (.int .i64 x4) from HIW2.out.cell 4 (by show 4 < 6; decide))
          have P5 := Lib.hid (show wv.cell? ⟨pg, 5, none⟩ = some (.int .i64 x5) from HIG2.out.cell 5 (by show 5 < 6; decide))
          have Q5 := Lib.hid (show wv.cell? ⟨pw, 5, none⟩ = some (.int .i64 x5) from HIW2.out.cell 5 (by show 5 < 6; decide))
          have LG := HIG2.out.lt
          have LW := HIW2.out.lt
          have RC := Lib.hid HC.out.rd
          have hmk5 : ∀ W : World, (Instr.makeSlice 22 (.int .i64 5) (.int .i64 5)).run Try.prog W = .ok (.slice (some ⟨W.heap.size, 0, none⟩) 5 5) (W.alloc (.cells #[.int .i64 0, .int .i64 0, .int .i64 0, .int .i64 0, .int .i64 0] 3)) := fun W => by kernel_rfl
          have heq6 := eq6 x1 x2 x3 x4 x5
          have HBV := Lib.hid hbv
          have zp := HZ.out
          clear hbv hf hx1 hx2 hx3 hx4 hx5 hwl
          go_upto_region 21 with fail
          have hv0 : Below wv.heap.size wv wv.drew := (Below.refl _ _).drew
          refine wp_region_held_drew (S := fun W => Below wv.heap.size wv W) (by kernel_rfl) (hv0) (fun hHeld => ?_)
          refine wpAnyH_ready (rs := [0]) (by kernel_rfl) (by simp) ?_
          refine AllReadyH.cons (o := { dst := some 118, op := Op.call { callee := Callee.value (Operand.func 10), args := #[], argTypes := #[] }, type := 4, pos := "law.go:131", after := #[], guard := none }) rfl (fun K hK => ?_) AllReadyH.nil
          go_simp
          refine (sanity_any _).mono ?_
          rintro e w40 ⟨rfl, b40⟩
          have hv40 : Below wv.heap.size wv w40 := hv0.trans (b40.mono hv0.size)
          go_wp2_with fail
          refine hK.out _ _ (hv40) (fun hHeld => ?_)
          clear hK K
          try simp only [Act.put, List.setIfInBounds_toArray, List.set_cons_zero, List.set_cons_succ]
          refine wpAnyH_take (i := 1) (oi := { dst := some 119, op := Op.move (Operand.tmp 118), type := 4, pos := "law.go:131", after := #[{ on := 0, ground := Ground.data }, { on := 0, ground := Ground.chain }], guard := none }) (v := ?v1_6001) rfl (by kernel_rfl) (by kernel_rfl) (by kernel_rfl) (fun _ _ _ h => h) (Or.inl ⟨by rfl, ?h1_6001⟩) (by assumption) ?r1_6001
          case h1_6001 =>
            intro W hSW
            try dsimp only at hSW
            go_simp
            try with_reducible rfl
          try simp only [Act.put, List.setIfInBounds_toArray, List.set_cons_zero, List.set_cons_succ]
          refine wpAnyH_take (i := 2) (oi := { dst := some 120, op := Op.load 53 (Operand.tmp 4), type := 53, pos := "law.go:131", after := #[{ on := 1, ground := Ground.guard }], guard := some (1, true) }) (v := ?v2_6002) rfl (by kernel_rfl) (by kernel_rfl) (by kernel_rfl) (fun _ _ _ h => h) (Or.inl ⟨by rfl, ?h2_6002⟩) (by assumption) ?r2_6002
          case h2_6002 =>
            intro W hSW
            try dsimp only at hSW
            have hc0 := (hSW.cell (p := ⟨pg, 0, none⟩) LG).trans P0.out
            have hc1 := (hSW.cell (p := ⟨pg, 1, none⟩) LG).trans P1.out
            have hc2 := (hSW.cell (p := ⟨pg, 2, none⟩) LG).trans P2.out
            have hc3 := (hSW.cell (p := ⟨pg, 3, none⟩) LG).trans P3.out
            have hc4 := (hSW.cell (p := ⟨pg, 4, none⟩) LG).trans P4.out
            have hc5 := (hSW.cell (p := ⟨pg, 5, none⟩) LG).trans P5.out
            go_simp
            try with_reducible rfl
          try simp only [Act.put, List.setIfInBounds_toArray, List.set_cons_zero, List.set_cons_succ]
          refine wpAnyH_take (i := 3) (oi := { dst := some 121, op := Op.load 53 (Operand.tmp 3), type := 53, pos := "law.go:131", after := #[{ on := 1, ground := Ground.guard }], guard := some (1, true) }) (v := ?v3_6003) rfl (by kernel_rfl) (by kernel_rfl) (by kernel_rfl) (fun _ _ _ h => h) (Or.inl ⟨by rfl, ?h3_6003⟩) (by assumption) ?r3_6003
          case h3_6003 =>
            intro W hSW
            try dsimp only at hSW
            have hc0 := (hSW.cell (p := ⟨pw, 0, none⟩) LW).trans Q0.out
            have hc1 := (hSW.cell (p := ⟨pw, 1, none⟩) LW).trans Q1.out
            have hc2 := (hSW.cell (p := ⟨pw, 2, none⟩) LW).trans Q2.out
            have hc3 := (hSW.cell (p := ⟨pw, 3, none⟩) LW).trans Q3.out
            have hc4 := (hSW.cell (p := ⟨pw, 4, none⟩) LW).trans Q4.out
            have hc5 := (hSW.cell (p := ⟨pw, 5, none⟩) LW).trans Q5.out
            go_simp
            try with_reducible rfl
          try simp only [Act.put, List.setIfInBounds_toArray, List.set_cons_zero, List.set_cons_succ]
          refine wpAnyH_take (i := 4) (oi := { dst := some 122, op := Op.binOp BinOp.eql 53 (Operand.tmp 120) (Operand.tmp 121) 53, type := 4, pos := "law.go:131", after := #[{ on := 2, ground := Ground.data }, { on := 3, ground := Ground.data }, { on := 1, ground := Ground.guard }], guard := some (1, true) }) (v := ?v4_6004) rfl (by kernel_rfl) (by kernel_rfl) (by kernel_rfl) (fun _ _ _ h => h) (Or.inl ⟨by rfl, ?h4_6004⟩) (by assumption) ?r4_6004
          case h4_6004 =>
            intro W hSW
            try dsimp only at hSW
            go_simp
            try with_reducible rfl
          try simp only [Act.put, List.setIfInBounds_toArray, List.set_cons_zero, List.set_cons_succ]
          refine wpAnyH_take (i := 5) (oi := { dst := some 123, op := Op.pick (Operand.tmp 119) (Operand.tmp 122) (Operand.const (Value.bool false)), type := 4, pos := "law.go:131", after := #[{ on := 1, ground := Ground.data }, { on := 4, ground := Ground.data }], guard := none }) (v := ?v5_6005) rfl (by kernel_rfl) (by kernel_rfl) (by kernel_rfl) (fun _ _ _ h => h) (Or.inl ⟨by rfl, ?h5_6005⟩) (by assumption) ?r5_6005
          case h5_6005 =>
            intro W hSW
            try dsimp only at hSW
            go_simp
            try with_reducible rfl
          try simp only [Act.put, List.setIfInBounds_toArray, List.set_cons_zero, List.set_cons_succ]
          refine wpAnyH_take (i := 6) (oi := { dst := some 124, op := Op.move (Operand.tmp 123), type := 4, pos := "law.go:131", after := #[{ on := 5, ground := Ground.data }, { on := 1, ground := Ground.chain }], guard := none }) (v := ?v6_6006) rfl (by kernel_rfl) (by kernel_rfl) (by kernel_rfl) (fun _ _ _ h => h) (Or.inl ⟨by rfl, ?h6_6006⟩) (by assumption) ?r6_6006
          case h6_6006 =>
            intro W hSW
            try dsimp only at hSW
            go_simp
            try with_reducible rfl
          try simp only [Act.put, List.setIfInBounds_toArray, List.set_cons_zero, List.set_cons_succ]
          refine wpAnyH_take (i := 7) (oi := { dst := some 125, op := Op.fieldAddr 26 (Operand.tmp 8) 0, type := 0, pos := "law.go:131", after := #[{ on := 6, ground := Ground.guard }], guard := some (6, true) }) (v := ?v7_6007) rfl (by kernel_rfl) (by kernel_rfl) (by kernel_rfl) (fun _ _ _ h => h) (Or.inl ⟨by rfl, ?h7_6007⟩) (by assumption) ?r7_6007
          case h7_6007 =>
            intro W hSW
            try dsimp only at hSW
            go_simp
            try with_reducible rfl
          try simp only [Act.put, List.setIfInBounds_toArray, List.set_cons_zero, List.set_cons_succ]
          refine wpAnyH_take (i := 8) (oi := { dst := some 126, op := Op.load 22 (Operand.tmp 125), type := 22, pos := "law.go:131", after := #[{ on := 7, ground := Ground.data }, { on := 6, ground := Ground.guard }], guard := some (6, true) }) (v := ?v8_6008) rfl (by kernel_rfl) (by kernel_rfl) (by kernel_rfl) (fun _ _ _ h => h) (Or.inl ⟨by rfl, ?h8_6008⟩) (by assumption) ?r8_6008
          case h8_6008 =>
            intro W hSW
            try dsimp only at hSW
            have hcc := (hSW.cell (p := ⟨ps, 0, none⟩) zp).trans HX.out
            go_simp
            try with_reducible rfl
          try simp only [Act.put, List.setIfInBounds_toArray, List.set_cons_zero, List.set_cons_succ]
          refine wpAnyH_ready (rs := [9]) (by kernel_rfl) (by simp) ?_
          refine AllReadyH.cons (o := { dst := some 127, op := Op.makeSlice 22 (Operand.const (Value.int IntKind.i64 5)) (Operand.const (Value.int IntKind.i64 5)), type := 22, pos := "law.go:131", after := #[{ on := 6, ground := Ground.guard }], guard := some (6, true) }) rfl (fun K hK => ?_) AllReadyH.nil
          go_simp
          obtain ⟨w41, hw41⟩ : ∃ x, w40.alloc (.cells #[.int .i64 0, .int .i64 0, .int .i64 0, .int .i64 0, .int .i64 0] 3) = x := ⟨_, rfl⟩
          rw [hw41]
          have b41 : Below w40.heap.size w40 w41 := by rw [← hw41]; exact (Below.refl _ _).alloc (Nat.le_refl _) _
          have hv41 : Below wv.heap.size wv w41 := hv40.trans (b41.mono hv40.size)
          have rz : Rd w41 w41.heap.size 1 (some ⟨w40.heap.size, 0, none⟩) 5 (ivs [0, 0, 0, 0, 0]) := by rw [← hw41, alloc_size1]; exact Rd.new w40 (ivs [0, 0, 0, 0, 0]) 3 5 (size := 1) rfl
          obtain ⟨bz, hbz⟩ : ∃ x, w40.heap.size = x := ⟨_, rfl⟩
          rw [hbz] at rz ⊢
          clear hw41 hbz
          refine hK.out _ _ (hv41) (fun hHeld => ?_)
          clear hK K
          try simp only [Act.put, List.setIfInBounds_toArray, List.set_cons_zero, List.set_cons_succ]
          refine wpAnyH_ready (rs := [10]) (by kernel_rfl) (by simp) ?_
          refine AllReadyH.cons (o := { dst := some 128, op := Op.call { callee := Callee.value (Operand.func 20), args := #[Operand.tmp 126, Operand.tmp 127], argTypes := #[22, 22] }, type := 4, pos := "law.go:131", after := #[{ on := 8, ground := Ground.data }, { on := 9, ground := Ground.data }, { on := 6, ground := Ground.chain }, { on := 6, ground := Ground.guard }], guard := some (6, true) }) rfl (fun K hK => ?_) AllReadyH.nil
          go_simp
          refine (same37_b (some ⟨g, 0, none⟩) (some ⟨bz, 0, none⟩) cS 5 5 5 [0, 0, 0, 0, 0] [0, 0, 0, 0, 0] w41 rfl rfl (by unfold maxLen; omega) wv.heap.size w41.heap.size (RC.out.below hv41) rz true (decide_eq_true rfl)).mono ?_
          rintro e w42 ⟨rfl, b42⟩
          have hv42 : Below wv.heap.size wv w42 := hv41.trans (b42.mono hv41.size)
          go_wp2_with fail
          refine hK.out _ _ (hv42) (fun hHeld => ?_)
          clear hK K
          try simp only [Act.put, List.setIfInBounds_toArray, List.set_cons_zero, List.set_cons_succ]
          refine wpAnyH_take (i := 11) (oi := { dst := some 129, op := Op.pick (Operand.tmp 124) (Operand.tmp 128) (Operand.const (Value.bool false)), type := 4, pos := "law.go:131", after := #[{ on := 6, ground := Ground.data }, { on := 10, ground := Ground.data }], guard := none }) (v := ?v11_6009) rfl (by kernel_rfl) (by kernel_rfl) (by kernel_rfl) (fun _ _ _ h => h) (Or.inl ⟨by rfl, ?h11_6009⟩) (by assumption) ?r11_6009
          case h11_6009 =>
            intro W hSW
            try dsimp only at hSW
            go_simp
            try with_reducible rfl
          try simp only [Act.put, List.setIfInBounds_toArray, List.set_cons_zero, List.set_cons_succ]
          refine wpAnyH_take (i := 12) (oi := { dst := some 2, op := Op.assign (Operand.tmp 129), type := 4, pos := "law.go:131", after := #[{ on := 11, ground := Ground.data }, { on := 10, ground := Ground.chain }, { on := 0, ground := Ground.phase }, { on := 1, ground := Ground.phase }, { on := 2, ground := Ground.phase }, { on := 3, ground := Ground.phase }, { on := 4, ground := Ground.phase }, { on := 5, ground := Ground.phase }, { on := 6, ground := Ground.phase }, { on := 7, ground := Ground.phase }, { on := 8, ground := Ground.phase }, { on := 9, ground := Ground.phase }, { on := 10, ground := Ground.phase }, { on := 11, ground := Ground.phase }], guard := none }) (v := ?v12_6010) rfl (by kernel_rfl) (by kernel_rfl) (by kernel_rfl) (fun _ _ _ h => h) (Or.inl ⟨by rfl, ?h12_6010⟩) (by assumption) ?r12_6010
          case h12_6010 =>
            intro W hSW
            try dsimp only at hSW
            go_simp
            try with_reducible rfl
          try simp only [Act.put, List.setIfInBounds_toArray, List.set_cons_zero, List.set_cons_succ]
          refine wpAnyH_done (by kernel_rfl) ?_ _
          go_wp2_with fail
          go_ret
          exact ⟨rfl, HBV.out.trans (hv42.mono HBV.out.size)⟩
end Go.Proofs.Ytfihdenapjmaeaa
