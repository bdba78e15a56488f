/- Joined texts: ColK, ColN. Conditions: as each part says. -/
import Derived.Test.YtihhkcndcgljbaaGreatHeld2
import Derived.Test.YtihhkcndcgljbaaGreatColL
namespace Go.Proofs.YtihhkcndcgljbaaGreat
set_option linter.unusedVariables false
set_option linter.unusedSimpArgs false
/-! slices.Index and slices.Contains of stripes. Conditions: at most 100000 stripes. -/
section
open Go.RowKit
abbrev oColKN0 : Oper := { dst := some 11, op := Op.load 35 (Operand.tmp 3), type := 35, pos := "slices.go:98", after := #[], guard := none }
abbrev oColKN1 : Oper := { dst := some 12, op := Op.move (Operand.tmp 0), type := 90, pos := "slices.go:98", after := #[], guard := none }
abbrev oColKN2 : Oper := { dst := some 13, op := Op.move (Operand.tmp 5), type := 3, pos := "slices.go:98", after := #[], guard := none }
abbrev oColKN3 : Oper := { dst := some 14, op := Op.indexAddr 90 (Operand.tmp 12) (Operand.tmp 13), type := 0, pos := "slices.go:98", after := #[{ on := 1, ground := Ground.data }, { on := 2, ground := Ground.data }], guard := none }
abbrev oColKN4 : Oper := { dst := some 15, op := Op.load 35 (Operand.tmp 14), type := 35, pos := "slices.go:98", after := #[{ on := 3, ground := Ground.data }], guard := none }
abbrev oColKN5 : Oper := { dst := some 16, op := Op.binOp BinOp.eql 35 (Operand.tmp 11) (Operand.tmp 15) 35, type := 4, pos := "slices.go:98", after := #[{ on := 0, ground := Ground.data }, { on := 4, ground := Ground.data }], guard := none }
abbrev oColKN6 : Oper := { dst := some 30, op := Op.move (Operand.tmp 4), type := 3, pos := "collect.go:93", after := #[], guard := none }
abbrev oColKN7 : Oper := { dst := some 31, op := Op.call { callee := Callee.value (Operand.func 37), args := #[Operand.tmp 30], argTypes := #[3] }, type := 4, pos := "collect.go:93", after := #[{ on := 0, ground := Ground.data }], guard := none }
abbrev oColKN8 : Oper := { dst := some 32, op := Op.unOp UnOp.not 4 (Operand.tmp 31), type := 4, pos := "collect.go:93", after := #[{ on := 1, ground := Ground.data }], guard := none }
abbrev oColKN9 : Oper := { dst := some 33, op := Op.move (Operand.tmp 32), type := 4, pos := "collect.go:93", after := #[{ on := 2, ground := Ground.data }, { on := 1, ground := Ground.chain }], guard := none }
abbrev oColKN10 : Oper := { dst := some 34, op := Op.move (Operand.tmp 13), type := 3, pos := "collect.go:93", after := #[{ on := 3, ground := Ground.guard }], guard := some (3, false) }
abbrev oColKN11 : Oper := { dst := some 35, op := Op.slice 109 (Operand.tmp 12) none (some (Operand.tmp 34)) none, type := 90, pos := "collect.go:93", after := #[{ on := 4, ground := Ground.data }, { on := 3, ground := Ground.guard }], guard := some (3, false) }
abbrev oColKN12 : Oper := { dst := some 36, op := Op.load 35 (Operand.tmp 14), type := 35, pos := "collect.go:93", after := #[{ on := 3, ground := Ground.guard }], guard := some (3, false) }
abbrev oColKN13 : Oper := { dst := some 37, op := Op.call { callee := Callee.value (Operand.func 43), args := #[Operand.tmp 35, Operand.tmp 36], argTypes := #[90, 35] }, type := 4, pos := "collect.go:93", after := #[{ on := 5, ground := Ground.data }, { on := 6, ground := Ground.data }, { on := 3, ground := Ground.chain }, { on := 3, ground := Ground.guard }], guard := some (3, false) }
abbrev oColKN14 : Oper := { dst := some 38, op := Op.pick (Operand.tmp 33) (Operand.const (Value.bool true)) (Operand.tmp 37), type := 4, pos := "collect.go:93", after := #[{ on := 3, ground := Ground.data }, { on := 7, ground := Ground.data }], guard := none }
abbrev oColKN15 : Oper := { dst := some 40, op := Op.move (Operand.tmp 0), type := 27, pos := "collect.go:97", after := #[], guard := none }
abbrev oColKN16 : Oper := { dst := some 41, op := Op.load 35 (Operand.tmp 6), type := 35, pos := "collect.go:97", after := #[], guard := none }
abbrev oColKN17 : Oper := { dst := some 43, op := Op.move (Operand.tmp 0), type := 27, pos := "collect.go:97", after := #[], guard := none }
abbrev oColKN18 : Oper := { dst := some 44, op := Op.load 35 (Operand.tmp 7), type := 35, pos := "collect.go:97", after := #[], guard := none }
abbrev oColKN19 : Oper := { dst := some 42, op := Op.call { callee := Callee.value (Operand.func 16), args := #[Operand.tmp 40, Operand.tmp 41], argTypes := #[27, 35] }, type := 47, pos := "collect.go:97", after := #[{ on := 0, ground := Ground.data }, { on := 1, ground := Ground.data }], guard := none }
abbrev oColKN20 : Oper := { dst := some 45, op := Op.call { callee := Callee.value (Operand.func 16), args := #[Operand.tmp 43, Operand.tmp 44], argTypes := #[27, 35] }, type := 47, pos := "collect.go:97", after := #[{ on := 3, ground := Ground.data }, { on := 4, ground := Ground.data }, { on := 2, ground := Ground.chain }], guard := none }
abbrev oColKN21 : Oper := { dst := some 46, op := Op.buildSlice 139 2 #[(0, Operand.tmp 42), (1, Operand.tmp 45)], type := 139, pos := "collect.go:97", after := #[{ on := 2, ground := Ground.data }, { on := 5, ground := Ground.data }], guard := none }
abbrev oColKN22 : Oper := { dst := some 47, op := Op.call { callee := Callee.value (Operand.func 44), args := #[Operand.tmp 46], argTypes := #[139] }, type := 47, pos := "collect.go:97", after := #[{ on := 6, ground := Ground.data }, { on := 5, ground := Ground.chain }], guard := none }
abbrev oColKN23 : Oper := { dst := some 15, op := Op.assign (Operand.tmp 47), type := 47, pos := "collect.go:97", after := #[{ on := 7, ground := Ground.data }, { on := 7, ground := Ground.chain }, { on := 0, ground := Ground.phase }, { on := 1, ground := Ground.phase }, { on := 2, ground := Ground.phase }, { on := 3, ground := Ground.phase }, { on := 4, ground := Ground.phase }, { on := 5, ground := Ground.phase }, { on := 6, ground := Ground.phase }, { on := 7, ground := Ground.phase }], guard := none }
/-- the place of a stripe among others, or -1 -/
def plI (L : List (Int × Int)) (s : Int × Int) : Int := match L.findIdx? (fun x => decide (s = x)) with | some k => (k : Int) | none => -1
theorem plI_hit {L : List (Int × Int)} {s : Int × Int} {k : Nat} (hk : k < L.length) (h : s = L[k]) (hn : ∀ i (hi : i < k), s ≠ L[i]) : plI L s = (k : Int) := by
  have : L.findIdx? (fun x => decide (s = x)) = some k := by
    rw [List.findIdx?_eq_some_iff_getElem]
    exact ⟨hk, by simpa using h, fun j hj => by simpa using hn j hj⟩
  unfold plI; rw [this]
theorem plI_miss {L : List (Int × Int)} {s : Int × Int} (hn : ∀ i (hi : i < L.length), s ≠ L[i]) : plI L s = -1 := by
  have : L.findIdx? (fun x => decide (s = x)) = none := by
    rw [List.findIdx?_eq_none_iff]
    intro u hu
    obtain ⟨i, hi, rfl⟩ := List.getElem_of_mem hu
    simpa using hn i hi
  unfold plI; rw [this]
theorem plI_mem (L : List (Int × Int)) (s : Int × Int) : decide (0 ≤ plI L s) = decide (s ∈ L) := by
  unfold plI
  cases h : L.findIdx? (fun x => decide (s = x)) with
  | none =>
    rw [List.findIdx?_eq_none_iff] at h
    have : ¬ s ∈ L := fun hm => by simpa using h s hm
    simp [this]
  | some k =>
    rw [List.findIdx?_eq_some_iff_getElem] at h
    obtain ⟨hk, h1, _⟩ := h
    have : s ∈ L := by
      have e : s = L[k] := by simpa using h1
      rw [e]; exact List.getElem_mem hk
    simp [this]
theorem y_eqS {ops : Array Oper} {SP : World → Prop} {o : Oper} {a : Act} (hw : Region.wanted o (yielded ops a.tmps) = true) (x y : Operand) (ho : o.op = .binOp .eql 35 x y 35) (s0 s1 y0 y1 : Int) (hx : a.eval x = .agg #[.int .i64 s0, .int .i64 s1]) (hy : a.eval y = .agg #[.int .i64 y0, .int .i64 y1])
    (q : Bool) (hq : decide (s0 = y0 ∧ s1 = y1) = q) : YieldsIf Tryz.prog ops SP o (.bool q) a := by
  subst hq
  refine .inl ⟨hw, fun W _ => ?_⟩
  have hr := S.eql_st W s0 s1 y0 y1
  unfold S.stV at hr
  unfold execOp
  have hg : ∀ xs ys : Array Value, (eqGuard .eql 35 x y (.agg xs) (.agg ys)).run Tryz.prog W = .ok () W := fun xs ys => run_eqGuard_agg (P := Tryz.prog) _ _ _ _ _ _ _ (by kernel_rfl)
  simp only [ho, hx, hy, Sem.run_bind, Sem.run_pure, Result.andThen_ok, hg, hr]
set_option maxRecDepth 100000 in
set_option maxHeartbeats 1600000 in
theorem indexS25 (A : Option Addr) (n c : Nat) (L : List (Int × Int)) (hL : L.length = n) (hn : n ≤ 100000) (s0 s1 : Int) (w : World) (hr : Rd w w.heap.size 2 A n (L.flatMap stC)) :
    Calls Tryz.prog 71 #[.slice A n c, .agg #[.int .i64 s0, .int .i64 s1]] w fun e w' => e = .returned (.int .i64 (plI L (s0, s1))) ∧ Below w.heap.size w w' := by
  obtain ⟨V, hV⟩ : ∃ V, plI L (s0, s1) = V := ⟨_, rfl⟩
  rw [hV]
  have HV := Lib.hid hV
  have HL := Lib.hid hL
  have HR := Lib.hid hr
  clear hV hL hr
  go_enter Tryz.func71, Tryz.ntmps71
  go_upto_region 2 with (refine S.wpList_boxRow rfl _ _ rfl [.int .i64 s0, .int .i64 s1] rfl rfl ?_; intro w1 rs1 b1 z1; clear z1)
  have kv0 := rs1.cell 0
  have kv1 := rs1.cell 1
  dsimp only [List.getElem?_cons_zero, List.getElem?_cons_succ] at kv0 kv1
  have HR1 := Lib.hid (HR.out.below b1)
  have HB1 := Lib.hid b1
  have hlt1 := rs1.lt
  obtain ⟨bv, hbv⟩ : ∃ x, w.heap.size = x := ⟨_, rfl⟩
  rw [hbv] at kv0 kv1 hlt1
  rw [hbv]
  have HK1 := Lib.hid (And.intro hlt1 (And.intro kv0 kv1))
  have HBV := Lib.hid hbv
  clear rs1 b1 kv0 kv1 hlt1 hbv
  go_loopw [8] (fun u wx => ∃ (wr : World) (j : Nat), wr = wx ∧ j ≤ n ∧ u = .int .i64 (j : Int) ∧ Hid (∀ i (hi : i < L.length), i < j → (s0, s1) ≠ L[i]) ∧ Hid (Below w1.heap.size w1 wr)) (fun u _ => n - (intOf u).toNat)
  case atStart => exact ⟨_, 0, rfl, Nat.zero_le _, rfl, Lib.hid fun i _ hi => absurd hi (Nat.not_lt_zero i), Lib.hid (Below.refl _ _)⟩
  case round =>
    obtain ⟨wr, j, rfl, hj, rfl, HI, HB⟩ := hrel
    by_cases hlt : j < n
    · have hju : j < L.length := by rw [HL.out]; exact hlt
      obtain ⟨b, off, rfl, hbb, hrg⟩ := HR1.out.elem (f := stC) (fun _ _ => rfl) hju hlt
      have hb1 : b < w1.heap.size := Nat.lt_of_lt_of_le hbb HB1.out.size
      have hrw : wr.rangeAt b (off + j * 2) (stC L[j]) := fun q u hq => (HB.out.cell (p := ⟨b, off + j * 2 + q, none⟩) hb1).trans (hrg q u hq)
      have e1 : (0 : Int) ≤ (j : Int) := by omega
      have e2 : (j : Int) < (n : Int) := by omega
      obtain ⟨⟨y0, y1⟩, hy⟩ : ∃ y, L[j] = y := ⟨_, rfl⟩
      have HY := Lib.hid hy
      rw [hy] at hrw
      have HKE := Lib.hid (And.intro (Nat.lt_of_lt_of_le hb1 HB.out.size) (And.intro (hrw 0 _ rfl) (hrw 1 _ rfl)))
      dsimp only [Nat.add_zero] at HKE
      have HKV := Lib.hid (And.intro (Nat.lt_of_lt_of_le HK1.out.1 HB.out.size) (And.intro ((HB.out.cell (p := ⟨bv, 0, none⟩) HK1.out.1).trans HK1.out.2.1) ((HB.out.cell (p := ⟨bv, 1, none⟩) HK1.out.1).trans HK1.out.2.2)))
      obtain ⟨q, hq⟩ : ∃ q, decide (s0 = y0 ∧ s1 = y1) = q := ⟨_, rfl⟩
      have HQD := Lib.hid hq
      go_upto_region 4 with fail
      clear hb1 hrg hrw hbb hq hy
      cases q with
      | true =>
        have hv0 : Below wr.heap.size wr wr.drew := (Below.refl _ _).drew
        refine wp_region_held_drew (S := fun W => Below wr.heap.size wr W) (by kernel_rfl) (hv0) (fun hHeld => ?_)
        refine tkH 0 oColKN0 ?v0_1 (.inl ⟨by rfl, ?h0_1⟩) ?r0_1
        case h0_1 =>
          intro W hSW
          unfold oColKN0
          try dsimp only at hSW
          have c0 := (hSW.cell (p := ⟨bv, 0, none⟩) HKV.out.1).trans HKV.out.2.1
          have c1 := (hSW.cell (p := ⟨bv, 1, none⟩) HKV.out.1).trans HKV.out.2.2
          go_simp
          try with_reducible rfl
        try simp only [oColKN0, PT]
        refine tkH 1 oColKN1 ?v1_2 (.inl ⟨by rfl, ?h1_2⟩) ?r1_2
        case h1_2 =>
          intro W hSW
          unfold oColKN1
          try dsimp only at hSW
          go_simp
          try with_reducible rfl
        try simp only [oColKN1, PT]
        refine tkH 2 oColKN2 ?v2_3 (.inl ⟨by rfl, ?h2_3⟩) ?r2_3
        case h2_3 =>
          intro W hSW
          unfold oColKN2
          try dsimp only at hSW
          go_simp
          try with_reducible rfl
        try simp only [oColKN2, PT]
        refine tkH 3 oColKN3 ?v3_4 (.inl ⟨by rfl, ?h3_4⟩) ?r3_4
        case h3_4 =>
          intro W hSW
          unfold oColKN3
          try dsimp only at hSW
          go_simp
          try with_reducible rfl
        try simp only [oColKN3, PT]
        refine tkH 4 oColKN4 ?v4_5 (.inl ⟨by rfl, ?h4_5⟩) ?r4_5
        case h4_5 =>
          intro W hSW
          unfold oColKN4
          try dsimp only at hSW
          have d0 := (hSW.cell (p := ⟨b, off + j * 2, none⟩) HKE.out.1).trans HKE.out.2.1
          have d1 := (hSW.cell (p := ⟨b, off + j * 2 + 1, none⟩) HKE.out.1).trans HKE.out.2.2
          go_simp
          try with_reducible rfl
        try simp only [oColKN4, PT]
        refine tkH 5 oColKN5 ((.bool true)) (y_eqS rfl (.tmp 11) (.tmp 15) rfl s0 s1 y0 y1 rfl rfl _ HQD.out) ?_
        try simp only [oColKN5, PT]
        refine wpAnyH_done (by kernel_rfl) ?_ _
        go_wp2_with fail
        go_ret
        have h1 := HI.out
        exact ⟨by rw [← HV.out, plI_hit hju (by have h2 := of_decide_eq_true HQD.out; rw [HY.out, h2.1, h2.2]) (fun i hi => h1 i (by omega) hi)]; rfl, HB1.out.trans ((HB.out.trans (hv0.mono HB.out.size)).mono HB1.out.size)⟩
      | false =>
        have hv0 : Below wr.heap.size wr wr.drew := (Below.refl _ _).drew
        refine wp_region_held_drew (S := fun W => Below wr.heap.size wr W) (by kernel_rfl) (hv0) (fun hHeld => ?_)
        refine tkH 0 oColKN0 ?v0_101 (.inl ⟨by rfl, ?h0_101⟩) ?r0_101
        case h0_101 =>
          intro W hSW
          unfold oColKN0
          try dsimp only at hSW
          have c0 := (hSW.cell (p := ⟨bv, 0, none⟩) HKV.out.1).trans HKV.out.2.1
          have c1 := (hSW.cell (p := ⟨bv, 1, none⟩) HKV.out.1).trans HKV.out.2.2
          go_simp
          try with_reducible rfl
        try simp only [oColKN0, PT]
        refine tkH 1 oColKN1 ?v1_102 (.inl ⟨by rfl, ?h1_102⟩) ?r1_102
        case h1_102 =>
          intro W hSW
          unfold oColKN1
          try dsimp only at hSW
          go_simp
          try with_reducible rfl
        try simp only [oColKN1, PT]
        refine tkH 2 oColKN2 ?v2_103 (.inl ⟨by rfl, ?h2_103⟩) ?r2_103
        case h2_103 =>
          intro W hSW
          unfold oColKN2
          try dsimp only at hSW
          go_simp
          try with_reducible rfl
        try simp only [oColKN2, PT]
        refine tkH 3 oColKN3 ?v3_104 (.inl ⟨by rfl, ?h3_104⟩) ?r3_104
        case h3_104 =>
          intro W hSW
          unfold oColKN3
          try dsimp only at hSW
          go_simp
          try with_reducible rfl
        try simp only [oColKN3, PT]
        refine tkH 4 oColKN4 ?v4_105 (.inl ⟨by rfl, ?h4_105⟩) ?r4_105
        case h4_105 =>
          intro W hSW
          unfold oColKN4
          try dsimp only at hSW
          have d0 := (hSW.cell (p := ⟨b, off + j * 2, none⟩) HKE.out.1).trans HKE.out.2.1
          have d1 := (hSW.cell (p := ⟨b, off + j * 2 + 1, none⟩) HKE.out.1).trans HKE.out.2.2
          go_simp
          try with_reducible rfl
        try simp only [oColKN4, PT]
        refine tkH 5 oColKN5 ((.bool false)) (y_eqS rfl (.tmp 11) (.tmp 15) rfl s0 s1 y0 y1 rfl rfl _ HQD.out) ?_
        try simp only [oColKN5, PT]
        refine wpAnyH_done (by kernel_rfl) ?_ _
        go_wp2_with fail
        go_roundw
        case rel =>
          refine ⟨_, j + 1, rfl, by omega, by go_num, Lib.hid fun i hi hij => ?_, Lib.hid (HB.out.trans (hv0.mono HB.out.size))⟩
          rcases Nat.lt_or_ge i j with e | e
          · exact HI.out i hi e
          · obtain rfl : i = j := by omega
            exact fun h => of_decide_eq_false HQD.out (by rw [HY.out] at h; injection h with h1 h2; exact ⟨h1, h2⟩)
        case measure => simp [intOf]; omega
    · obtain rfl : j = n := by omega
      go_wp2_with fail
      go_ret
      exact ⟨by rw [← HV.out, plI_miss (fun i hi => HI.out i hi (by rw [← HL.out]; exact hi))]; rfl, HB1.out.trans (HB.out.mono HB1.out.size)⟩
set_option maxRecDepth 100000 in
theorem containsS25 (A : Option Addr) (n c : Nat) (L : List (Int × Int)) (hL : L.length = n) (hn : n ≤ 100000) (s0 s1 : Int) (q : Bool) (hq : decide ((s0, s1) ∈ L) = q) (w : World) (hr : Rd w w.heap.size 2 A n (L.flatMap stC)) :
    Calls Tryz.prog 43 #[.slice A n c, .agg #[.int .i64 s0, .int .i64 s1]] w fun e w' => e = .returned (.bool q) ∧ Below w.heap.size w w' := by
  have HI := Lib.hid (fun W hW => indexS25 A n c L hL hn s0 s1 W hW)
  have hm := plI_mem L (s0, s1)
  rw [hq] at hm
  obtain ⟨V, hV⟩ : ∃ V, plI L (s0, s1) = V := ⟨_, rfl⟩
  rw [hV] at HI hm
  have HR := Lib.hid hr
  clear hV hr hq
  go_enter Tryz.func43, Tryz.ntmps43
  go_wp2_with (first
    | (refine S.wpList_boxRow rfl _ _ rfl [.int .i64 s0, .int .i64 s1] rfl rfl ?_; intro w1 rs1 b1 z1)
    | (refine wpList_load_mid rfl _ (.tmp 3) rfl w.heap.size 0 rfl [.int .i64 s0, .int .i64 s1] _ (fun j v hv => by rw [Nat.zero_add, rs1.cell]; exact hv) Tryz.underlying35 rfl sizeS25 ?_)
    | (go_at_call 71; refine (HI.out _ ((HR.out.below b1).more b1.size)).mono ?_; rintro e w2 ⟨rfl, b2⟩))
  go_ret
  exact ⟨by rw [← hm]; rfl, b1.trans (b2.mono b1.size)⟩
end
/-! collect.Merge: the steps that move the live chunks of two stripes to a third one. Conditions: the table is kept. -/
section
open Go.RowKit
namespace Col
open Chk (Ck)
/-- where a chunk is -/
def atOf (l : List Ck) (id : Int) : Chk.Un := match Chk.pos (Chk.ids l) id with
  | some k => (Chk.nth l k).at_
  | none => Chk.z
/-- the steps of a merge: the chunk, where it is, its number -/
def sts (l : List Ck) (xs : List Int) : List (Int × Chk.Un × Nat) := xs.zipIdx.map fun p => (p.1, atOf l p.1, p.2)
theorem sts_len (l : List Ck) (xs : List Int) : (sts l xs).length = xs.length := by simp [sts]
theorem sts_get (l : List Ck) (xs : List Int) (k : Nat) (hk : k < (sts l xs).length) (hx : k < xs.length) : (sts l xs)[k] = (xs[k], atOf l xs[k], k) := by simp [sts]
theorem sts_take (l : List Ck) (xs : List Int) (k : Nat) (hx : k < xs.length) : (sts l xs).take (k + 1) = (sts l xs).take k ++ [(xs[k], atOf l xs[k], k)] := by
  have hk : k < (sts l xs).length := by rw [sts_len]; exact hx
  rw [List.take_succ_eq_append_getElem hk, sts_get l xs k hk hx]
inductive MgR where
  | arg | lim | ok
deriving DecidableEq
/-- are the arguments bad: no number of data units, or two of the stripes are the same -/
def mgBad (L : List St) (d : Int) : Bool := !decide (1 ≤ d ∧ d ≤ 32) || (List.range 3).any fun i => decide (L.getD i (0, 0) ∈ L.take i)
def mgF (l : List Ck) (a b tg : St) (d : Int) : MgR := if mgBad [a, b, tg] d = true then .arg else if d < ((both l a b).length : Int) then .lim else .ok
theorem mgBad_no {L : List St} {d : Int} (hd : decide (1 ≤ d ∧ d ≤ 32) = true) (h : ∀ i, i < 3 → L.getD i (0, 0) ∉ L.take i) : mgBad L d = false := by
  unfold mgBad
  rw [hd]
  simp only [Bool.not_true, Bool.false_or, List.any_eq_false, List.mem_range]
  intro i hi
  simpa using h i hi
theorem mgBad_data {L : List St} {d : Int} (hd : decide (1 ≤ d ∧ d ≤ 32) = false) : mgBad L d = true := by
  unfold mgBad; rw [hd]; rfl
theorem mgBad_twice {L : List St} {d : Int} {i : Nat} (hi : i < 3) (h : L.getD i (0, 0) ∈ L.take i) : mgBad L d = true := by
  unfold mgBad
  rw [Bool.or_eq_true]
  exact .inr (List.any_eq_true.2 ⟨i, List.mem_range.2 hi, by simpa using h⟩)
theorem mgBad_abt {a b tg : St} {d : Int} (h1 : 1 ≤ d ∧ d ≤ 32) (h2 : a ≠ b) (h3 : a ≠ tg) (h4 : b ≠ tg) : mgBad [a, b, tg] d = false := by
  refine mgBad_no (by simp [h1]) fun i hi => ?_
  rcases i with _ | _ | _ | i
  · simp
  · simp [Ne.symm h2]
  · simp [Ne.symm h3, Ne.symm h4]
  · omega
/-- each of the chunks is found -/
theorem both_pos {l : List Ck} (hI : Chk.Inv l) {a b : St} {id : Int} (h : id ∈ both l a b) : ∃ k, Chk.pos (Chk.ids l) id = some k := by
  have key : ∀ s : St, id ∈ Chk.live l s.1 s.2 → ∃ k, Chk.pos (Chk.ids l) id = some k := fun s hs => by
    obtain ⟨n, _, hu⟩ := live_mem.1 hs
    obtain ⟨k, c, h1, h2, h3, h4⟩ := (Chk.unitAt_some hI).1 hu
    have := pos_get hI h1
    rw [h4] at this
    exact ⟨k, this⟩
  rcases List.mem_append.1 h with h | h
  · exact key a h
  · exact key b h
theorem both_le (l : List Ck) (a b : St) : (both l a b).length ≤ 64 := by
  unfold both; rw [List.length_append]
  have := live_le l a.1 a.2
  have := live_le l b.1 b.2
  omega
end Col
def stpC (tg : Int × Int) (x : Int × Chk.Un × Nat) : List Value := [.int .i64 x.1, .int .i64 x.2.1.r, .int .i64 x.2.1.g, .int .i64 x.2.1.u, .int .i64 tg.1, .int .i64 tg.2, .int .i64 (x.2.2 : Int)]
theorem stpC_one (tg : Int × Int) (x : Int × Chk.Un × Nat) : ∀ u ∈ stpC tg x, u.oneCell' = true := by intro u hu; simp only [stpC, List.mem_cons, List.not_mem_nil, or_false] at hu; rcases hu with rfl | rfl | rfl | rfl | rfl | rfl | rfl <;> rfl
def zStp : List Value := [.int .i64 0, .int .i64 0, .int .i64 0, .int .i64 0, .int .i64 0, .int .i64 0, .int .i64 0]
theorem stpT25 : ElemT Tryz.prog 51 57 (.agg zStp.toArray) 7 56 := ⟨Tryz.underlying51, by kernel_rfl, rfl, by decide, by decide⟩
def MgIs (l : List Chk.Ck) (tg : Int × Int) (xs : List Int) (w : World) (e : Ending) (w' : World) : Col.MgR → Prop
  | .arg => e = .returned (.tuple #[.slice none 0 0, .int .i64 1]) ∧ Below w.heap.size w w'
  | .lim => e = .returned (.tuple #[.slice none 0 0, .int .i64 2]) ∧ Below w.heap.size w w'
  | .ok => ∃ A c, e = .returned (.tuple #[.slice A xs.length c, .int .i64 0]) ∧ w'.ownsRow w.heap.size 57 7 (.slice A xs.length c) xs.length ((Col.sts l xs).flatMap (stpC tg)) ∧ Below w.heap.size w w'
theorem get25 {w : World} {F S : Nat → Prop} {a : Nat} {t : TM} {l : List Chk.Ck} (h : TAt w F S a t l) (id : Int) (k : Nat) (hp : Chk.pos (Chk.ids l) id = some k) (u : Chk.Un) (hu : Col.atOf l id = u) :
    Calls Tryz.prog 14 #[.pointer (some ⟨a, 0, none⟩), .int .i64 id] w fun e w' => ∃ cs : List Value, e = .returned (.tuple #[.agg cs.toArray, .bool true]) ∧ cs.length = 23 ∧ (cs.all (·.oneCell') = true) ∧ cs[18]? = some (.int .i64 u.r) ∧ cs[19]? = some (.int .i64 u.g) ∧ cs[20]? = some (.int .i64 u.u) ∧ Below w.heap.size w w' := by
  refine (get_some h id k hp).mono fun e w' hg => ?_
  obtain ⟨A, kk, he, _, hb⟩ := hg
  have hat : (Chk.nth l k).at_ = u := by rw [← hu]; unfold Col.atOf; rw [hp]
  have hdg := (h.inv.ok _ (List.mem_of_getElem? (Chk.nth_get (Chk.pos_lt hp).1))).dg
  have hc := ckCells_at (Chk.nth l k) (.slice A (Chk.nth l k).refs.length kk) hdg
  rw [hat] at hc
  exact ⟨_, he, ckCells_len hdg _, List.all_eq_true.2 (ckCells_one _ _ rfl), hc.2.2.1, hc.2.2.2.1, hc.2.2.2.2.1, hb⟩
theorem run_buildI2 (w : World) (A1 A2 : Option Addr) (n1 c1 n2 c2 : Nat) : (Instr.buildSlice 139 2 #[(0, .slice A1 n1 c1), (1, .slice A2 n2 c2)]).run Tryz.prog w = .ok (.slice (some ⟨w.heap.size, 0, none⟩) 2 2) (w.alloc (.cells #[.slice A1 n1 c1, .slice A2 n2 c2] 47)) := by
  kernel_rfl
theorem wp_buildI2 {o : Oper} {a : Act} {w : World} {K : Act → World → Prop} {Q : Exit → Act → World → Prop} (x y : Operand) (ho : o.op = .buildSlice 139 2 #[(0, x), (1, y)]) (A1 : Option Addr) (n1 c1 : Nat) (A2 : Option Addr) (n2 c2 : Nat) (hx : a.eval x = .slice A1 n1 c1) (hy : a.eval y = .slice A2 n2 c2)
    (h : K (a.put o.dst (.slice (some ⟨w.heap.size, 0, none⟩) 2 2)) (w.alloc (.cells #[.slice A1 n1 c1, .slice A2 n2 c2] 47))) : o.wp Tryz.prog a w K Q := by
  unfold Oper.wp execOp
  simp only [ho, List.map_toArray, List.map_cons, List.map_nil, hx, hy, Sem.run_bind, Sem.run_pure, run_buildI2 w, Result.andThen_ok]
  exact h
theorem size325 : (Tryz.prog.info? 109).map (·.size) = some 6 := by kernel_rfl
def z325 : List Value := [.int .i64 0, .int .i64 0, .int .i64 0, .int .i64 0, .int .i64 0, .int .i64 0]
theorem info325 : (Tryz.prog.info? 109).map (fun i => (i.zero, i.size)) = some (some (.agg z325.toArray), z325.length) := by kernel_rfl
theorem run_index3 (W : World) (a0 a1 b0 b1 t0 t1 : Int) {j : Nat} (hj : j < 3) {y : Int × Int} (hy : [(a0, a1), (b0, b1), (t0, t1)].getD j (0, 0) = y) : (Instr.index 109 (.agg #[.int .i64 a0, .int .i64 a1, .int .i64 b0, .int .i64 b1, .int .i64 t0, .int .i64 t1]) (.int .i64 (j : Int))).run Tryz.prog W = .ok (.agg #[.int .i64 y.1, .int .i64 y.2]) W := by
  subst hy
  rcases j with _ | _ | _ | j
  · kernel_rfl
  · kernel_rfl
  · kernel_rfl
  · omega
theorem run_cut3 (W : World) (b : Nat) {j : Nat} (hj : j < 3) : (Instr.sliceAt 109 (.pointer (some ⟨b, 0, none⟩)) none (some (.int .i64 (j : Int))) none).run Tryz.prog W = .ok (.slice (some ⟨b, 0, none⟩) j 3) W := by
  rcases j with _ | _ | _ | j
  · kernel_rfl
  · kernel_rfl
  · kernel_rfl
  · omega
/-- the variables of Merge in memory -/
structure MgS (a b tg : Int × Int) (b6 b7 b8 b12 : Nat) (W : World) : Prop where
  r6 : IsRow W b6 35 (stC a)
  r7 : IsRow W b7 35 (stC b)
  r8 : IsRow W b8 35 (stC tg)
  r12 : IsRow W b12 109 ([a, b, tg].flatMap stC)
theorem MgS.below {a b tg : Int × Int} {b6 b7 b8 b12 : Nat} {W W' : World} (h : MgS a b tg b6 b7 b8 b12 W) (hb : Below W.heap.size W W') : MgS a b tg b6 b7 b8 b12 W' := ⟨h.r6.below' hb, h.r7.below' hb, h.r8.below' hb, h.r12.below' hb⟩
theorem MgS.three {a b tg : Int × Int} {b6 b7 b8 b12 : Nat} {W : World} (h : MgS a b tg b6 b7 b8 b12 W) {j : Nat} (hj : j ≤ 3) : Rd W W.heap.size 2 (some ⟨b12, 0, none⟩) j (([a, b, tg].take j).flatMap stC) := by
  have h3 : Rd W W.heap.size 2 (some ⟨b12, 0, none⟩) 3 ([a, b, tg].flatMap stC) := h.r12.rd rfl h.r12.lt
  have := h3.take hj
  rwa [flat_take (f := stC) (fun _ _ => rfl)] at this
theorem concat2 (A1 : Option Addr) (n1 c1 : Nat) (l1 : List Int) (A2 : Option Addr) (n2 c2 : Nat) (l2 xs : List Int) (hx : l1 ++ l2 = xs) (N : Nat) (hN : xs.length = N) (hN9 : N ≤ 1000) (vb : Nat) (w : World) (h1 : l1.length = n1) (h2 : l2.length = n2)
    (r1 : Rd w w.heap.size 1 A1 n1 (ivs l1)) (r2 : Rd w w.heap.size 1 A2 n2 (ivs l2)) {T : TypeId} (rv : IsRow w vb T [.slice A1 n1 c1, .slice A2 n2 c2]) :
    Calls Tryz.prog 44 #[.slice (some ⟨vb, 0, none⟩) 2 2] w fun e w' => ∃ A' c', e = .returned (.slice A' N c') ∧ w'.ownsRow w.heap.size 3 1 (.slice A' N c') N (ivs xs) ∧ Below w.heap.size w w' := by
  have hc : catI [⟨A1, n1, c1, l1⟩, ⟨A2, n2, c2, l2⟩] = xs := by rw [← hx]; simp [catI]
  have h := concatI_any (some ⟨vb, 0, none⟩) 2 2 [⟨A1, n1, c1, l1⟩, ⟨A2, n2, c2, l2⟩] rfl (by omega) w.heap.size w (rv.rd rfl rv.lt) (fun y hy => by
    simp only [List.mem_cons, List.not_mem_nil, or_false] at hy
    rcases hy with rfl | rfl
    · exact ⟨h1, r1⟩
    · exact ⟨h2, r2⟩) (Nat.le_refl _) (by rw [hc, hN]; omega)
  rw [hc, hN] at h
  exact h
set_option maxRecDepth 100000 in
set_option maxHeartbeats 3200000 in
theorem merge_any {w : World} {F SS : Nat → Prop} {a : Nat} {t : TM} {l : List Chk.Ck} (ht : TAt w F SS a t l) (a0 a1 b0 b1 t0 t1 d : Int) :
    Calls Tryz.prog 13 #[.pointer (some ⟨a, 0, none⟩), .agg #[.int .i64 a0, .int .i64 a1], .agg #[.int .i64 b0, .int .i64 b1], .agg #[.int .i64 t0, .int .i64 t1], .int .i64 d] w fun e w' => MgIs l (t0, t1) (Col.both l (a0, a1) (b0, b1)) w e w' (Col.mgF l (a0, a1) (b0, b1) (t0, t1) d) := by
  obtain ⟨V, hV⟩ : ∃ V, Col.mgF l (a0, a1) (b0, b1) (t0, t1) d = V := ⟨_, rfl⟩
  rw [hV]
  have HV := Lib.hid hV
  have HT := Lib.hid ht
  obtain ⟨L, hL⟩ : ∃ L : List (Int × Int), [(a0, a1), (b0, b1), (t0, t1)] = L := ⟨_, rfl⟩
  have HLL := Lib.hid hL
  obtain ⟨dd, hdd⟩ : ∃ q, decide (1 ≤ d ∧ d ≤ 32) = q := ⟨_, rfl⟩
  have HDD := Lib.hid hdd
  have HID := Lib.hid (fun W => isData_any d dd hdd W)
  obtain ⟨xs, hxs⟩ : ∃ xs, Col.both l (a0, a1) (b0, b1) = xs := ⟨_, rfl⟩
  have HXS := Lib.hid hxs
  rw [hxs]
  clear hV ht hL hdd hxs
  go_enter Tryz.func13, Tryz.ntmps13
  go_upto_region 2 with (first
    | (refine S.wpList_boxRow rfl _ _ rfl [.int .i64 a0, .int .i64 a1] rfl rfl ?_; intro w6 rs6 bb6 z6)
    | (have tk := rs6; refine S.wpList_boxRow rfl _ _ rfl [.int .i64 b0, .int .i64 b1] rfl rfl ?_; intro w7 rs7 bb7 z7; clear tk)
    | (have tk := rs7; refine S.wpList_boxRow rfl _ _ rfl [.int .i64 t0, .int .i64 t1] rfl rfl ?_; intro w8 rs8 bb8 z8; clear tk; have q7 := rs7.below' bb8; have q6 := (rs6.below' bb7).below' bb8)
    | (refine wpList_load_mid rfl _ (.tmp 6) rfl w.heap.size 0 rfl [.int .i64 a0, .int .i64 a1] _ (fun j v hv => by rw [Nat.zero_add, q6.cell]; exact hv) Tryz.underlying35 rfl sizeS25 ?_)
    | (refine wpList_load_mid rfl _ (.tmp 7) rfl w6.heap.size 0 (by simp only [z6]; rfl) [.int .i64 b0, .int .i64 b1] _ (fun j v hv => by rw [Nat.zero_add, q7.cell]; exact hv) Tryz.underlying35 rfl sizeS25 ?_)
    | (refine wpList_load_mid rfl _ (.tmp 8) rfl w7.heap.size 0 (by simp only [z7, z6]; rfl) [.int .i64 t0, .int .i64 t1] _ (fun j v hv => by rw [Nat.zero_add, rs8.cell]; exact hv) Tryz.underlying35 rfl sizeS25 ?_)
    | (refine wpList_allocRow rfl _ rfl _ info325 ?_; intro w9 rz9 b9 z9)
    | (refine wpList_storeRow rfl _ (.tmp 12) (.tmp 24) rfl (l' := [.int .i64 a0, .int .i64 a1, .int .i64 b0, .int .i64 b1, .int .i64 t0, .int .i64 t1]) rz9 rfl rfl size325 rfl rfl ?_; intro w2 rz2 g2 z2))
  have hb9 : Below w8.heap.size w8 w2 := b9.grown g2 b9.size (fun i hi => by have := Option.some.inj hi; omega)
  have p6 := q6.below' hb9
  have p7 := q7.below' hb9
  have p8 := rs8.below' hb9
  have hb2 : Below w.heap.size w w2 := bb6.trans ((bb7.trans ((bb8.trans (hb9.mono bb8.size)).mono bb7.size)).mono bb6.size)
  obtain ⟨x6, h6⟩ : ∃ x, w.heap.size = x := ⟨_, rfl⟩
  obtain ⟨x7, h7⟩ : ∃ x, x6 + 1 = x := ⟨_, rfl⟩
  obtain ⟨x8, h8⟩ : ∃ x, x7 + 1 = x := ⟨_, rfl⟩
  obtain ⟨x12, h12⟩ : ∃ x, w8.heap.size = x := ⟨_, rfl⟩
  have HS2 : Hid (MgS (a0, a1) (b0, b1) (t0, t1) x6 x7 x8 x12 w2) := Lib.hid ⟨h6 ▸ p6, by rw [show w6.heap.size = x7 by omega] at p7; exact p7, by rw [show w7.heap.size = x8 by omega] at p8; exact p8, by rw [h12] at rz2; exact rz2⟩
  have hr12 : w2.rangeAt x12 0 [.int .i64 a0, .int .i64 a1, .int .i64 b0, .int .i64 b1, .int .i64 t0, .int .i64 t1] := fun q u hu => by rw [Nat.zero_add, HS2.out.r12.cell]; exact hu
  have HB2 := Lib.hid hb2
  rw [h6, h7, h8, h12]
  clear rs6 bb6 z6 rs7 bb7 z7 rs8 bb8 z8 q7 q6 rz9 b9 z9 rz2 g2 z2 hb9 p6 p7 p8 hb2 h6 h7 h8 h12
  try simp only [PT]
  go_upto_region 3 with (refine wpList_load_mid rfl _ (.tmp 12) rfl x12 0 rfl [.int .i64 a0, .int .i64 a1, .int .i64 b0, .int .i64 b1, .int .i64 t0, .int .i64 t1] _ hr12 Tryz.underlying109 rfl size325 ?_)
  clear hr12
  go_loopw [26] (fun u26 wx => ∃ (wr : World) (j : Nat), wr = wx ∧ j ≤ 3 ∧ u26 = .int .i64 (j : Int) ∧ Hid (∀ i, i < j → dd = true ∧ L.getD i (0, 0) ∉ L.take i) ∧ Hid (Below w2.heap.size w2 wr)) (fun u26 _ => 3 - (intOf u26).toNat)
  case atStart => exact ⟨_, 0, rfl, Nat.zero_le _, rfl, Lib.hid (fun i hi => absurd hi (Nat.not_lt_zero i)), Lib.hid (Below.refl _ _)⟩
  case round =>
    obtain ⟨wr, j, rfl, hj, rfl, HJ, HBR⟩ := hrel
    by_cases hlt : j < 3
    · obtain ⟨⟨y0, y1⟩, hy⟩ : ∃ y, L.getD j (0, 0) = y := ⟨_, rfl⟩
      have hix := fun W => run_index3 W a0 a1 b0 b1 t0 t1 hlt (y := (y0, y1)) (by rw [HLL.out]; exact hy)
      dsimp only at hix
      have HY := Lib.hid hy
      have e1 : (0 : Int) ≤ (j : Int) := by omega
      have e2 : (j : Int) < 3 := by omega
      clear hy
      go_upto_region 5 with (first
        | (refine wpList_allocRow rfl _ rfl _ infoS25 ?_; intro w3 rz3 b3 z3; clear z3)
        | (refine wpList_storeRow rfl _ (.tmp 14) (.tmp 29) rfl (l' := [.int .i64 y0, .int .i64 y1]) rz3 rfl rfl sizeS25 rfl rfl ?_; intro w4 rz4 g4 z4; clear z4))
      have hb4 : Below wr.heap.size wr w4 := b3.grown g4 b3.size (fun i hi => by have := Option.some.inj hi; omega)
      obtain ⟨x14, h14⟩ : ∃ y, wr.heap.size = y := ⟨_, rfl⟩
      have HB4 := Lib.hid (HBR.out.trans (hb4.mono HBR.out.size))
      rw [h14] at rz4 ⊢
      have HR4 := Lib.hid rz4
      have hth : ∀ W, Below w4.heap.size w4 W → Rd W W.heap.size 2 (some ⟨x12, 0, none⟩) j ((L.take j).flatMap stC) := fun W hW => by
        have := ((HS2.out.below HB4.out).below hW).three hj
        rwa [HLL.out] at this
      have HTH := Lib.hid hth
      clear rz3 b3 g4 hb4 h14 rz4 hix hth
      try simp only [PT]
      cases dd with
      | false =>
        obtain rfl : V = .arg := by rw [← HV.out]; unfold Col.mgF; rw [HLL.out, Col.mgBad_data HDD.out, if_pos rfl]
        have hv0 : Below w4.heap.size w4 w4.drew := (Below.refl _ _).drew
        refine wp_region_held_drew (S := fun W => Below w4.heap.size w4 W) (by kernel_rfl) (hv0) (fun hHeld => ?_)
        refine tkH 0 oColKN6 ?v0_1 (.inl ⟨by rfl, ?h0_1⟩) ?r0_1
        case h0_1 =>
          intro W hSW
          unfold oColKN6
          try dsimp only at hSW
          go_simp
          try with_reducible rfl
        try simp only [oColKN6, PT]
        refine rdyH [1] ?_
        refine AllReadyH.cons (o := oColKN7) rfl (fun K hK => ?_) AllReadyH.nil
        unfold oColKN7
        go_simp
        refine (HID.out _).mono ?_
        rintro e w20 ⟨rfl, hw20⟩
        have hv20 : Below w4.heap.size w4 w20 := by rw [hw20]; exact hv0
        clear hw20
        refine hK.out _ _ (hv20) (fun hHeld => ?_)
        clear hK K
        try simp only [PT]
        refine tkH 2 oColKN8 ?v2_2 (.inl ⟨by rfl, ?h2_2⟩) ?r2_2
        case h2_2 =>
          intro W hSW
          unfold oColKN8
          try dsimp only at hSW
          go_simp
          try with_reducible rfl
        try simp only [oColKN8, PT]
        refine tkH 3 oColKN9 ?v3_3 (.inl ⟨by rfl, ?h3_3⟩) ?r3_3
        case h3_3 =>
          intro W hSW
          unfold oColKN9
          try dsimp only at hSW
          go_simp
          try with_reducible rfl
        try simp only [oColKN9, PT]
        refine tkH 4 oColKN10 undef (.inr ⟨by rfl, rfl⟩) ?_
        try simp only [oColKN10, PT]
        refine tkH 5 oColKN11 undef (.inr ⟨by rfl, rfl⟩) ?_
        try simp only [oColKN11, PT]
        refine tkH 6 oColKN12 undef (.inr ⟨by rfl, rfl⟩) ?_
        try simp only [oColKN12, PT]
        refine tkH 7 oColKN13 undef (.inr ⟨by rfl, rfl⟩) ?_
        try simp only [oColKN13, PT]
        refine tkH 8 oColKN14 ?v8_8 (.inl ⟨by rfl, ?h8_8⟩) ?r8_8
        case h8_8 =>
          intro W hSW
          unfold oColKN14
          try dsimp only at hSW
          go_simp
          try with_reducible rfl
        try simp only [oColKN14, PT]
        refine wpAnyH_done (by kernel_rfl) ?_ _
        go_wp2_with fail
        go_ret2
        exact ⟨rfl, HB2.out.trans ((HB4.out.trans (hv20.mono HB4.out.size)).mono HB2.out.size)⟩
      | true =>
        obtain ⟨q, hq⟩ : ∃ q, decide ((y0, y1) ∈ L.take j) = q := ⟨_, rfl⟩
        have HCN := Lib.hid (fun (W : World) (hW : Below w4.heap.size w4 W) => containsS25 (some ⟨x12, 0, none⟩) j 3 (L.take j) (by rw [List.length_take, ← HLL.out]; show min j 3 = j; omega) (by omega) y0 y1 q hq W (HTH.out W hW))
        cases q with
        | true =>
          obtain rfl : V = .arg := by rw [← HV.out]; unfold Col.mgF; rw [HLL.out, Col.mgBad_twice hlt (by rw [HY.out]; exact of_decide_eq_true hq), if_pos rfl]
          clear hq
          have hv0 : Below w4.heap.size w4 w4.drew := (Below.refl _ _).drew
          refine wp_region_held_drew (S := fun W => Below w4.heap.size w4 W) (by kernel_rfl) (hv0) (fun hHeld => ?_)
          refine tkH 0 oColKN6 ?v0_101 (.inl ⟨by rfl, ?h0_101⟩) ?r0_101
          case h0_101 =>
            intro W hSW
            unfold oColKN6
            try dsimp only at hSW
            go_simp
            try with_reducible rfl
          try simp only [oColKN6, PT]
          refine rdyH [1] ?_
          refine AllReadyH.cons (o := oColKN7) rfl (fun K hK => ?_) AllReadyH.nil
          unfold oColKN7
          go_simp
          refine (HID.out _).mono ?_
          rintro e w20 ⟨rfl, hw20⟩
          have hv20 : Below w4.heap.size w4 w20 := by rw [hw20]; exact hv0
          clear hw20
          refine hK.out _ _ (hv20) (fun hHeld => ?_)
          clear hK K
          try simp only [PT]
          refine tkH 2 oColKN8 ?v2_102 (.inl ⟨by rfl, ?h2_102⟩) ?r2_102
          case h2_102 =>
            intro W hSW
            unfold oColKN8
            try dsimp only at hSW
            go_simp
            try with_reducible rfl
          try simp only [oColKN8, PT]
          refine tkH 3 oColKN9 ?v3_103 (.inl ⟨by rfl, ?h3_103⟩) ?r3_103
          case h3_103 =>
            intro W hSW
            unfold oColKN9
            try dsimp only at hSW
            go_simp
            try with_reducible rfl
          try simp only [oColKN9, PT]
          refine tkH 4 oColKN10 ?v4_104 (.inl ⟨by rfl, ?h4_104⟩) ?r4_104
          case h4_104 =>
            intro W hSW
            unfold oColKN10
            try dsimp only at hSW
            go_simp
            try with_reducible rfl
          try simp only [oColKN10, PT]
          refine tkH 5 oColKN11 ?v5_105 (.inl ⟨by rfl, ?h5_105⟩) ?r5_105
          case h5_105 =>
            intro W hSW
            unfold oColKN11
            try dsimp only at hSW
            have hcut := run_cut3 W x12 hlt
            go_simp
            try with_reducible rfl
          try simp only [oColKN11, PT]
          refine tkH 6 oColKN12 ?v6_106 (.inl ⟨by rfl, ?h6_106⟩) ?r6_106
          case h6_106 =>
            intro W hSW
            unfold oColKN12
            try dsimp only at hSW
            have c0 := (hSW.cell (p := ⟨x14, 0, none⟩) HR4.out.lt).trans (HR4.out.cell 0)
            have c1 := (hSW.cell (p := ⟨x14, 1, none⟩) HR4.out.lt).trans (HR4.out.cell 1)
            dsimp only [List.getElem?_cons_zero, List.getElem?_cons_succ] at c0 c1
            go_simp
            try with_reducible rfl
          try simp only [oColKN12, PT]
          refine rdyH [7] ?_
          refine AllReadyH.cons (o := oColKN13) rfl (fun K hK => ?_) AllReadyH.nil
          unfold oColKN13
          go_simp
          refine (HCN.out _ hv20).mono ?_
          rintro e w21 ⟨rfl, b21⟩
          have hv21 : Below w4.heap.size w4 w21 := hv20.trans (b21.mono hv20.size)
          clear b21
          refine hK.out _ _ (hv21) (fun hHeld => ?_)
          clear hK K
          try simp only [PT]
          refine tkH 8 oColKN14 ?v8_107 (.inl ⟨by rfl, ?h8_107⟩) ?r8_107
          case h8_107 =>
            intro W hSW
            unfold oColKN14
            try dsimp only at hSW
            go_simp
            try with_reducible rfl
          try simp only [oColKN14, PT]
          refine wpAnyH_done (by kernel_rfl) ?_ _
          go_wp2_with fail
          go_ret2
          exact ⟨rfl, HB2.out.trans ((HB4.out.trans (hv21.mono HB4.out.size)).mono HB2.out.size)⟩
        | false =>
          have HNQ : Hid ((y0, y1) ∉ L.take j) := Lib.hid (of_decide_eq_false hq)
          clear hq
          have hv0 : Below w4.heap.size w4 w4.drew := (Below.refl _ _).drew
          refine wp_region_held_drew (S := fun W => Below w4.heap.size w4 W) (by kernel_rfl) (hv0) (fun hHeld => ?_)
          refine tkH 0 oColKN6 ?v0_201 (.inl ⟨by rfl, ?h0_201⟩) ?r0_201
          case h0_201 =>
            intro W hSW
            unfold oColKN6
            try dsimp only at hSW
            go_simp
            try with_reducible rfl
          try simp only [oColKN6, PT]
          refine rdyH [1] ?_
          refine AllReadyH.cons (o := oColKN7) rfl (fun K hK => ?_) AllReadyH.nil
          unfold oColKN7
          go_simp
          refine (HID.out _).mono ?_
          rintro e w20 ⟨rfl, hw20⟩
          have hv20 : Below w4.heap.size w4 w20 := by rw [hw20]; exact hv0
          clear hw20
          refine hK.out _ _ (hv20) (fun hHeld => ?_)
          clear hK K
          try simp only [PT]
          refine tkH 2 oColKN8 ?v2_202 (.inl ⟨by rfl, ?h2_202⟩) ?r2_202
          case h2_202 =>
            intro W hSW
            unfold oColKN8
            try dsimp only at hSW
            go_simp
            try with_reducible rfl
          try simp only [oColKN8, PT]
          refine tkH 3 oColKN9 ?v3_203 (.inl ⟨by rfl, ?h3_203⟩) ?r3_203
          case h3_203 =>
            intro W hSW
            unfold oColKN9
            try dsimp only at hSW
            go_simp
            try with_reducible rfl
          try simp only [oColKN9, PT]
          refine tkH 4 oColKN10 ?v4_204 (.inl ⟨by rfl, ?h4_204⟩) ?r4_204
          case h4_204 =>
            intro W hSW
            unfold oColKN10
            try dsimp only at hSW
            go_simp
            try with_reducible rfl
          try simp only [oColKN10, PT]
          refine tkH 5 oColKN11 ?v5_205 (.inl ⟨by rfl, ?h5_205⟩) ?r5_205
          case h5_205 =>
            intro W hSW
            unfold oColKN11
            try dsimp only at hSW
            have hcut := run_cut3 W x12 hlt
            go_simp
            try with_reducible rfl
          try simp only [oColKN11, PT]
          refine tkH 6 oColKN12 ?v6_206 (.inl ⟨by rfl, ?h6_206⟩) ?r6_206
          case h6_206 =>
            intro W hSW
            unfold oColKN12
            try dsimp only at hSW
            have c0 := (hSW.cell (p := ⟨x14, 0, none⟩) HR4.out.lt).trans (HR4.out.cell 0)
            have c1 := (hSW.cell (p := ⟨x14, 1, none⟩) HR4.out.lt).trans (HR4.out.cell 1)
            dsimp only [List.getElem?_cons_zero, List.getElem?_cons_succ] at c0 c1
            go_simp
            try with_reducible rfl
          try simp only [oColKN12, PT]
          refine rdyH [7] ?_
          refine AllReadyH.cons (o := oColKN13) rfl (fun K hK => ?_) AllReadyH.nil
          unfold oColKN13
          go_simp
          refine (HCN.out _ hv20).mono ?_
          rintro e w21 ⟨rfl, b21⟩
          have hv21 : Below w4.heap.size w4 w21 := hv20.trans (b21.mono hv20.size)
          clear b21
          refine hK.out _ _ (hv21) (fun hHeld => ?_)
          clear hK K
          try simp only [PT]
          refine tkH 8 oColKN14 ?v8_207 (.inl ⟨by rfl, ?h8_207⟩) ?r8_207
          case h8_207 =>
            intro W hSW
            unfold oColKN14
            try dsimp only at hSW
            go_simp
            try with_reducible rfl
          try simp only [oColKN14, PT]
          refine wpAnyH_done (by kernel_rfl) ?_ _
          go_wp2_with fail
          go_roundw
          case rel =>
            refine ⟨_, j + 1, rfl, by omega, by go_num, Lib.hid fun i hi => ?_, Lib.hid (HB4.out.trans (hv21.mono HB4.out.size))⟩
            rcases Nat.lt_or_ge i j with e | e
            · exact ⟨trivial, (HJ.out i e).2⟩
            · obtain rfl : i = j := by omega
              exact ⟨trivial, by rw [HY.out]; exact HNQ.out⟩
          case measure => simp [intOf]; omega
    · obtain rfl : j = 3 := by omega
      obtain rfl : dd = true := (HJ.out 0 (by omega)).1
      have HNB : Hid (Col.mgBad L d = false) := Lib.hid (Col.mgBad_no HDD.out fun i hi => (HJ.out i hi).2)
      have HLA := Lib.hid (fun (W : World) (hW : Below wr.heap.size wr W) => live_any (((HT.out.below HB2.out).below HBR.out).below hW) a0 a1)
      have HLB := Lib.hid (fun (W : World) (hW : Below wr.heap.size wr W) => live_any (((HT.out.below HB2.out).below HBR.out).below hW) b0 b1)
      obtain ⟨n1, hn1⟩ : ∃ n, (Chk.live l a0 a1).length = n := ⟨_, rfl⟩
      obtain ⟨n2, hn2⟩ : ∃ n, (Chk.live l b0 b1).length = n := ⟨_, rfl⟩
      obtain ⟨l1, hl1⟩ : ∃ x, Chk.live l a0 a1 = x := ⟨_, rfl⟩
      obtain ⟨l2, hl2⟩ : ∃ x, Chk.live l b0 b1 = x := ⟨_, rfl⟩
      rw [hn1, hl1] at HLA
      rw [hn2, hl2] at HLB
      rw [hl1] at hn1
      rw [hl2] at hn2
      obtain ⟨N, hN⟩ : ∃ n, xs.length = n := ⟨_, rfl⟩
      have hx12 : l1 ++ l2 = xs := by rw [← HXS.out, ← hl1, ← hl2]; rfl
      have hN9 : N ≤ 64 := by rw [← hN, ← HXS.out]; exact Col.both_le _ _ _
      have HCC := Lib.hid (fun (A1 : Option Addr) (c1 : Nat) (A2 : Option Addr) (c2 : Nat) (vb : Nat) (W : World) (r1 : Rd W W.heap.size 1 A1 n1 (ivs l1)) (r2 : Rd W W.heap.size 1 A2 n2 (ivs l2)) (T : TypeId) (rv : IsRow W vb T [.slice A1 n1 c1, .slice A2 n2 c2]) => concat2 A1 n1 c1 l1 A2 n2 c2 l2 xs hx12 N hN (by omega) vb W hn1 hn2 r1 r2 rv)
      have HNN := Lib.hid hN
      have HSR := Lib.hid (HS2.out.below HBR.out)
      clear hn1 hn2 hl1 hl2 hx12 hN HS2
      go_upto_region 8 with fail
      have hv0 : Below wr.heap.size wr wr.drew := (Below.refl _ _).drew
      refine wp_region_held_drew (S := fun W => Below wr.heap.size wr W) (by kernel_rfl) (hv0) (fun hHeld => ?_)
      refine tkH 0 oColKN15 ?v0_301 (.inl ⟨by rfl, ?h0_301⟩) ?r0_301
      case h0_301 =>
        intro W hSW
        unfold oColKN15
        try dsimp only at hSW
        go_simp
        try with_reducible rfl
      try simp only [oColKN15, PT]
      refine tkH 1 oColKN16 ?v1_302 (.inl ⟨by rfl, ?h1_302⟩) ?r1_302
      case h1_302 =>
        intro W hSW
        unfold oColKN16
        try dsimp only at hSW
        have c0 := (hSW.cell (p := ⟨x6, 0, none⟩) HSR.out.r6.lt).trans (HSR.out.r6.cell 0)
        have c1 := (hSW.cell (p := ⟨x6, 1, none⟩) HSR.out.r6.lt).trans (HSR.out.r6.cell 1)
        unfold stC at c0 c1
        dsimp only [List.getElem?_cons_zero, List.getElem?_cons_succ] at c0 c1
        go_simp
        try with_reducible rfl
      try simp only [oColKN16, PT]
      refine tkH 3 oColKN17 ?v3_303 (.inl ⟨by rfl, ?h3_303⟩) ?r3_303
      case h3_303 =>
        intro W hSW
        unfold oColKN17
        try dsimp only at hSW
        go_simp
        try with_reducible rfl
      try simp only [oColKN17, PT]
      refine tkH 4 oColKN18 ?v4_304 (.inl ⟨by rfl, ?h4_304⟩) ?r4_304
      case h4_304 =>
        intro W hSW
        unfold oColKN18
        try dsimp only at hSW
        have c0 := (hSW.cell (p := ⟨x7, 0, none⟩) HSR.out.r7.lt).trans (HSR.out.r7.cell 0)
        have c1 := (hSW.cell (p := ⟨x7, 1, none⟩) HSR.out.r7.lt).trans (HSR.out.r7.cell 1)
        unfold stC at c0 c1
        dsimp only [List.getElem?_cons_zero, List.getElem?_cons_succ] at c0 c1
        go_simp
        try with_reducible rfl
      try simp only [oColKN18, PT]
      refine rdyH [2] ?_
      refine AllReadyH.cons (o := oColKN19) rfl (fun K hK => ?_) AllReadyH.nil
      unfold oColKN19
      go_simp
      refine (HLA.out _ hv0).mono ?_
      rintro e w40 ⟨A1, c1, rfl, own1, b40⟩
      have hv40 : Below wr.heap.size wr w40 := hv0.trans (b40.mono hv0.size)
      have rd1 := Rd.of_own own1
      clear b40 own1
      refine hK.out _ _ (hv40) (fun hHeld => ?_)
      clear hK K
      try simp only [PT]
      refine rdyH [5] ?_
      refine AllReadyH.cons (o := oColKN20) rfl (fun K hK => ?_) AllReadyH.nil
      unfold oColKN20
      go_simp
      refine (HLB.out _ hv40).mono ?_
      rintro e w41 ⟨A2, c2, rfl, own2, b41⟩
      have hv41 : Below wr.heap.size wr w41 := hv40.trans (b41.mono hv40.size)
      have rd2 := Rd.of_own own2
      replace rd1 := (rd1.below b41).more b41.size
      clear b41 own2
      refine hK.out _ _ (hv41) (fun hHeld => ?_)
      clear hK K
      try simp only [PT]
      refine rdyH [6] ?_
      refine AllReadyH.cons (o := oColKN21) rfl (fun K hK => ?_) AllReadyH.nil
      unfold oColKN21
      rw [if_pos (by rfl)]
      refine wp_buildI2 (.tmp 42) (.tmp 45) rfl A1 n1 c1 A2 n2 c2 rfl rfl ?_
      have rv := IsRow.new w41 47 [.slice A1 n1 c1, .slice A2 n2 c2]
      have b42 : Below w41.heap.size w41 (w41.alloc (.cells #[.slice A1 n1 c1, .slice A2 n2 c2] 47)) := (Below.refl _ _).alloc (Nat.le_refl _) _
      obtain ⟨w42, hw42⟩ : ∃ x, w41.alloc (.cells #[.slice A1 n1 c1, .slice A2 n2 c2] 47) = x := ⟨_, rfl⟩
      rw [show w41.alloc (.cells [.slice A1 n1 c1, .slice A2 n2 c2].toArray 47) = w42 from hw42] at rv
      rw [hw42] at b42
      rw [hw42]
      obtain ⟨vb, hvb⟩ : ∃ x, w41.heap.size = x := ⟨_, rfl⟩
      rw [hvb] at rv
      rw [hvb]
      have hv42 : Below wr.heap.size wr w42 := hv41.trans (b42.mono hv41.size)
      replace rd1 := (rd1.below b42).more b42.size
      replace rd2 := (rd2.below b42).more b42.size
      have HRV := Lib.hid (And.intro rd1 (And.intro rd2 rv))
      clear b42 hw42 hvb rv rd1 rd2
      refine hK.out _ _ (hv42) (fun hHeld => ?_)
      clear hK K
      try simp only [PT]
      refine rdyH [7] ?_
      refine AllReadyH.cons (o := oColKN22) rfl (fun K hK => ?_) AllReadyH.nil
      unfold oColKN22
      go_simp
      refine (HCC.out _ _ _ _ _ _ HRV.out.1 HRV.out.2.1 _ HRV.out.2.2).mono ?_
      rintro e w43 ⟨A9, c9, rfl, own9, b43⟩
      have hv43 : Below wr.heap.size wr w43 := hv42.trans (b43.mono hv42.size)
      have HRI := Lib.hid (Rd.of_own own9)
      have HBI := Lib.hid hv43
      clear b43 own9 HCC HLA HLB HRV
      refine hK.out _ _ (hv43) (fun hHeld => ?_)
      clear hK K
      try simp only [PT]
      refine tkH 8 oColKN23 ?v8_305 (.inl ⟨by rfl, ?h8_305⟩) ?r8_305
      case h8_305 =>
        intro W hSW
        unfold oColKN23
        try dsimp only at hSW
        go_simp
        try with_reducible rfl
      try simp only [oColKN23, PT]
      refine wpAnyH_done (by kernel_rfl) ?_ _
      obtain ⟨w9, hw9⟩ : ∃ x, w43 = x := ⟨_, rfl⟩
      rw [hw9] at HRI HBI
      rw [hw9]
      clear hw9
      by_cases hgt : d < (N : Int)
      · obtain rfl : V = .lim := by rw [← HV.out]; unfold Col.mgF; rw [HLL.out, HNB.out, if_neg (by decide), HXS.out, HNN.out, if_pos hgt]
        go_wp2_with fail
        go_ret2
        exact ⟨rfl, HB2.out.trans ((HBR.out.trans (HBI.out.mono HBR.out.size)).mono HB2.out.size)⟩
      · obtain rfl : V = .ok := by rw [← HV.out]; unfold Col.mgF; rw [HLL.out, HNB.out, if_neg (by decide), HXS.out, HNN.out, if_neg hgt]
        replace HSR := Lib.hid (HSR.out.below HBI.out)
        replace HT := Lib.hid (((HT.out.below HB2.out).below HBR.out).below HBI.out)
        have HBW := Lib.hid (HB2.out.trans ((HBR.out.trans (HBI.out.mono HBR.out.size)).mono HB2.out.size))
        clear HBI HBR HB2
        go_upto_region 13 with fail
        go_loopw [16, 54] (fun u16 u54 wx => ∃ (wr : World) (j : Nat) (A3 : Option Addr) (c3 : Nat), wr = wx ∧ j ≤ N ∧ u54 = .int .i64 (j : Int) ∧ u16 = .slice A3 j c3 ∧ Hid (wr.ownsRow w9.heap.size 57 7 (.slice A3 j c3) j (((Col.sts l xs).take j).flatMap (stpC (t0, t1)))) ∧ Hid (Below w9.heap.size w9 wr)) (fun _ u54 _ => N - (intOf u54).toNat)
        case atStart => exact ⟨_, 0, none, 0, rfl, Nat.zero_le _, rfl, rfl, Lib.hid (World.ownsRow_nil _ _ _ _), Lib.hid (Below.refl _ _)⟩
        case round =>
          obtain ⟨wr, j, A3, c3, rfl, hj, rfl, rfl, HO, HBR⟩ := hrel
          by_cases hlt : j < N
          · have hjl : j < xs.length := by rw [HNN.out]; exact hlt
            obtain ⟨bi, off, rfl, hbb, hc0⟩ := HRI.out.get (f := fun x : Int => Value.int .i64 x) hjl
            have hc1 := (HBR.out.cell (p := ⟨bi, off + j, none⟩) hbb).trans hc0
            have hst := Col.sts_take l xs j hjl
            obtain ⟨k, hk⟩ := Col.both_pos HT.out.inv (id := xs[j]) (by rw [HXS.out]; exact List.getElem_mem hjl)
            obtain ⟨id, hid⟩ : ∃ x, xs[j] = x := ⟨_, rfl⟩
            rw [hid] at hc1 hst hk
            obtain ⟨u, hu⟩ : ∃ u, Col.atOf l id = u := ⟨_, rfl⟩
            have HG := Lib.hid (get25 (HT.out.below HBR.out) id k hk u hu)
            rw [hu] at hst
            have HST := Lib.hid hst
            have e1 : (0 : Int) ≤ (j : Int) := by omega
            have e2 : (j : Int) < (N : Int) := by omega
            clear hjl hbb hc0 hst hk hid hu
            go_upto_region 16 with (first
              | (go_at_call 14; refine HG.out.mono ?_; rintro e w20 ⟨cs, rfl, hlen, hone, h18, h19, h20, b20⟩)
              | (refine wpList_allocRow rfl _ rfl _ infoCk' ?_; intro w21 rz21 b21 z21)
              | (refine wpList_storeRow rfl _ (.tmp 19) (.tmp 63) rfl (l' := cs) rz21 rfl rfl (by rw [hlen]; exact sizeCk) (by rw [hlen]; rfl) hone ?_; intro w22 rz22 g22 z22))
            have hb22 : Below wr.heap.size wr w22 := b20.trans ((b21.grown g22 b21.size (fun i hi => by have := Option.some.inj hi; omega)).mono b20.size)
            obtain ⟨x19, h19x⟩ : ∃ y, w20.heap.size = y := ⟨_, rfl⟩
            rw [h19x] at rz22 ⊢
            have k18 := (rz22.cell 18).trans h18
            have k19 := (rz22.cell 19).trans h19
            have k20 := (rz22.cell 20).trans h20
            have hr18 : w22.rangeAt x19 18 [.int .i64 u.r, .int .i64 u.g, .int .i64 u.u] := fun q v hq => by
              rcases q with _ | _ | _ | q
              · exact k18.trans hq
              · exact k19.trans hq
              · exact k20.trans hq
              · simp at hq
            have hs8 := ((HSR.out.below HBR.out).below hb22).r8
            have hr8 : w22.rangeAt x8 0 [.int .i64 t0, .int .i64 t1] := fun q v hq => by rw [Nat.zero_add, hs8.cell]; exact hq
            have HO4 := Lib.hid (own_below HO.out hb22)
            have HB4 := Lib.hid (HBR.out.trans (hb22.mono HBR.out.size))
            clear hlen hone h18 h19 h20 b20 rz21 b21 z21 rz22 g22 z22 hb22 h19x k18 k19 k20 hs8 hc1
            try simp only [PT]
            go_wp2_with (first
              | (refine wpList_load_mid rfl _ (.tmp 67) rfl x19 18 rfl [.int .i64 u.r, .int .i64 u.g, .int .i64 u.u] _ hr18 Tryz.underlying55 rfl sizeUn25 ?_)
              | (refine wpList_load_mid rfl _ (.tmp 8) rfl x8 0 rfl [.int .i64 t0, .int .i64 t1] _ hr8 Tryz.underlying35 rfl sizeS25 ?_)
              | (at_builtin; refine wpList_appN rfl (.tmp 65) (.tmp 73) 51 rfl w9.heap.size 57 _ 7 56 stpT25 A3 j c3 (((Col.sts l xs).take j).flatMap (stpC (t0, t1))) (stpC (t0, t1) (id, u, j)) _ rfl rfl rfl HO4.out HB4.out rfl (stpC_one _ _) (by omega) (Nat.le_refl _) HB4.out.size ?_; intro g5 c5 w5 own5 hb5 hg5; have HO5 := Lib.hid own5; have HB5 := Lib.hid hb5; clear own5 hb5 hg5))
            go_roundw
            case rel => exact ⟨_, j + 1, _, c5, rfl, by omega, by go_num, rfl, Lib.hid (by rw [HST.out, List.flatMap_append, List.flatMap_singleton]; exact HO5.out), HB5⟩
            case measure => simp [intOf]; omega
          · obtain rfl : j = N := by omega
            go_wp2_with fail
            go_ret2
            have ho := HO.out
            rw [List.take_of_length_le (by rw [Col.sts_len, HNN.out]; exact Nat.le_refl _)] at ho
            unfold MgIs
            dsimp only
            rw [HNN.out]
            exact ⟨A3, c3, rfl, own_base ho HBW.out.size, HBW.out.trans (HBR.out.mono HBW.out.size)⟩
end
end Go.Proofs.YtihhkcndcgljbaaGreat
