/- Joined texts: ColC, ColD, ColF, ColR. Conditions: as each part says. -/
import Derived.Test.YtihhkcndcgljbaaGreatColPB
import Derived.Test.YtihhkcndcgljbaaGreatColPl
namespace Go.Proofs.YtihhkcndcgljbaaGreat
set_option linter.unusedVariables false
set_option linter.unusedSimpArgs false
/-! The small functions of layer 25: isCode, isData, Bound, the law's at, few. Conditions: as each contract says. -/
section
open Go.RowKit
theorem isCode_any (c : Int) (q : Bool) (hq : decide (0 ≤ c ∧ c < 8) = q) (w : World) : Calls Tryz.prog 65 #[.int .i64 c] w fun e w' => e = .returned (.bool q) ∧ w' = w := by
  subst hq
  by_cases h1 : 0 ≤ c
  · by_cases h2 : c < 8
    · have hd : decide (0 ≤ c ∧ c < 8) = true := by simp [h1, h2]
      rw [hd]
      go_enter Tryz.func65, Tryz.ntmps65
      go_wp2
      go_ret
      exact ⟨rfl, rfl⟩
    · have hd : decide (0 ≤ c ∧ c < 8) = false := by simp [h2]
      rw [hd]
      go_enter Tryz.func65, Tryz.ntmps65
      go_wp2
      go_ret
      exact ⟨rfl, rfl⟩
  · have hd : decide (0 ≤ c ∧ c < 8) = false := by simp [h1]
    rw [hd]
    go_enter Tryz.func65, Tryz.ntmps65
    go_wp2
    go_ret
    exact ⟨rfl, rfl⟩
theorem isData_any (c : Int) (q : Bool) (hq : decide (1 ≤ c ∧ c ≤ 32) = q) (w : World) : Calls Tryz.prog 37 #[.int .i64 c] w fun e w' => e = .returned (.bool q) ∧ w' = w := by
  subst hq
  by_cases h1 : 1 ≤ c
  · by_cases h2 : c ≤ 32
    · have hd : decide (1 ≤ c ∧ c ≤ 32) = true := by simp [h1, h2]
      rw [hd]
      go_enter Tryz.func37, Tryz.ntmps37
      go_wp2
      go_ret
      exact ⟨rfl, rfl⟩
    · have hd : decide (1 ≤ c ∧ c ≤ 32) = false := by simp [h2]
      rw [hd]
      go_enter Tryz.func37, Tryz.ntmps37
      go_wp2
      go_ret
      exact ⟨rfl, rfl⟩
  · have hd : decide (1 ≤ c ∧ c ≤ 32) = false := by simp [h1]
    rw [hd]
    go_enter Tryz.func37, Tryz.ntmps37
    go_wp2
    go_ret
    exact ⟨rfl, rfl⟩
theorem bound_any (n d : Int) (v : Int) (hv : Col.bound n d = v) (w : World) : Calls Tryz.prog 32 #[.int .i64 n, .int .i64 d] w fun e w' => e = .returned (.int .i64 v) ∧ w' = w := by
  have HD := Lib.hid (fun W => isData_any d _ rfl W)
  by_cases h1 : n < 1
  · have hb : Col.bound n d = 0 := by unfold Col.bound; rw [if_pos (by omega)]
    rw [hb] at hv; subst hv; clear hb HD
    go_enter Tryz.func32, Tryz.ntmps32
    go_wp2
    go_ret
    exact ⟨rfl, rfl⟩
  by_cases h2 : 2147483647 < n
  · have hb : Col.bound n d = 0 := by unfold Col.bound; rw [if_pos (by omega)]
    rw [hb] at hv; subst hv; clear hb HD
    go_enter Tryz.func32, Tryz.ntmps32
    go_wp2
    go_ret
    exact ⟨rfl, rfl⟩
  by_cases h3 : 1 ≤ d ∧ d ≤ 32
  · have hb : Col.bound n d = 2 * ((n + d - 1) / d) := by unfold Col.bound; rw [if_neg (by omega)]
    have hq : (n + d - 1).tdiv d = (n + d - 1) / d := Int.tdiv_eq_ediv_of_nonneg (by omega)
    obtain ⟨q, hqq⟩ : ∃ q, (n + d - 1) / d = q := ⟨_, rfl⟩
    have hq0 : 0 ≤ q := by rw [← hqq]; exact Int.ediv_nonneg (by omega) (by omega)
    have hq1 : q ≤ 2147483700 := by rw [← hqq]; exact Int.le_trans (Int.ediv_le_self _ (by omega)) (by omega)
    have hd : decide (1 ≤ d ∧ d ≤ 32) = true := by simp [h3]
    rw [hb, hqq] at hv; subst hv
    rw [hqq] at hq
    rw [hd] at HD
    obtain ⟨h4, h5⟩ := h3
    have hd0 : ¬ d = 0 := by omega
    have e1 : IntKind.i64.wrap (n + d) = n + d := IntWalk.i64_in _ (by omega)
    have e2 : IntKind.i64.wrap (n + d - 1) = n + d - 1 := IntWalk.i64_in _ (by omega)
    have e3 : IntKind.i64.wrap q = q := IntWalk.i64_in _ (by omega)
    have e4 : IntKind.i64.wrap (2 * q) = 2 * q := IntWalk.i64_in _ (by omega)
    clear hb hd hqq
    go_enter Tryz.func32, Tryz.ntmps32
    go_wp2_with (go_at_call 37; refine (HD.out _).mono ?_; rintro e w2 ⟨rfl, rfl⟩)
    go_ret
    exact ⟨rfl, rfl⟩
  · have hb : Col.bound n d = 0 := by unfold Col.bound; rw [if_pos (by omega)]
    have hd : decide (1 ≤ d ∧ d ≤ 32) = false := by simp [h3]
    rw [hb] at hv; subst hv
    rw [hd] at HD
    clear hb hd h3
    go_enter Tryz.func32, Tryz.ntmps32
    go_wp2_with (go_at_call 37; refine (HD.out _).mono ?_; rintro e w2 ⟨rfl, rfl⟩)
    go_ret
    exact ⟨rfl, rfl⟩
def zS25 : List Value := [.int .i64 0, .int .i64 0]
theorem infoS25 : (Tryz.prog.info? 35).map (fun i => (i.zero, i.size)) = some (some (.agg zS25.toArray), zS25.length) := by kernel_rfl
theorem sizeS25 : (Tryz.prog.info? 35).map (·.size) = some 2 := by kernel_rfl
theorem at25_any (r g : Int) (w : World) : Calls Tryz.prog 30 #[.int .i64 r, .int .i64 g] w fun e w' => e = .returned (.agg #[.int .i64 r, .int .i64 g]) ∧ Below w.heap.size w w' := by
  go_enter Tryz.func30, Tryz.ntmps30
  go_wp2_with (first
    | (refine wpList_allocRow rfl _ rfl _ infoS25 ?_; intro w2 rz2 b2 z2; clear z2)
    | (refine wpList_storeRow rfl _ (.tmp 4) (.tmp 7) rfl (l' := [.int .i64 r, .int .i64 g]) rz2 rfl rfl sizeS25 rfl rfl ?_; intro w4 rz4 g4 z4; clear z4))
  refine bodyPost_ret (results_cell_row rfl _ _ _ 35 #[.int .i64 r, .int .i64 g] (0, 0) _ rfl rz4 Tryz.underlying35 rfl sizeS25) rfl ?_
  exact ⟨rfl, b2.grown g4 b2.size (fun i hi => by have := Option.some.inj hi; omega)⟩
end
/-! collect.Loads: the stripes of a code with the numbers of their live chunks. Conditions: at most 65536 rows, at most 100000 stripes. -/
section
open Go.RowKit
def ldL (s : Int × Int) (k : Nat) : List Value := [.int .i64 s.1, .int .i64 s.2, .int .i64 (k : Int)]
def ldLs (l : List Chk.Ck) (ss : List (Int × Int)) : List Value := ss.flatMap fun s => ldL s (Chk.live l s.1 s.2).length
theorem ldL_one (s : Int × Int) (k : Nat) : ∀ u ∈ ldL s k, u.oneCell' = true := by intro u hu; simp only [ldL, List.mem_cons, List.not_mem_nil, or_false] at hu; rcases hu with rfl | rfl | rfl <;> rfl
theorem ldLs_snoc (l : List Chk.Ck) (ss : List (Int × Int)) (s : Int × Int) : ldLs l ss ++ ldL s (Chk.live l s.1 s.2).length = ldLs l (ss ++ [s]) := by simp [ldLs]
theorem loadT : ElemT Tryz.prog 87 95 (.agg #[.int .i64 0, .int .i64 0, .int .i64 0]) 3 24 := ⟨Tryz.underlying87, by kernel_rfl, rfl, by decide, by decide⟩
theorem run_buildLd (w : World) (x y z : Int) : (Instr.buildSlice 87 1 #[(0, .agg #[.int .i64 x, .int .i64 y, .int .i64 z])]).run Tryz.prog w = .ok (.slice (some ⟨w.heap.size, 0, none⟩) 1 1) (w.alloc (.cells #[.int .i64 x, .int .i64 y, .int .i64 z] 95)) := by kernel_rfl
theorem wp_buildLd {o : Oper} {a : Act} {w : World} {K : Act → World → Prop} {Q : Exit → Act → World → Prop} (z : Operand) (ho : o.op = .buildSlice 87 1 #[(0, z)]) (x y v : Int) (hx : a.eval z = .agg #[.int .i64 x, .int .i64 y, .int .i64 v])
    (h : K (a.put o.dst (.slice (some ⟨w.heap.size, 0, none⟩) 1 1)) (w.alloc (.cells #[.int .i64 x, .int .i64 y, .int .i64 v] 95))) : o.wp Tryz.prog a w K Q := by
  unfold Oper.wp execOp
  simp only [ho, List.map_toArray, List.map_cons, List.map_nil, hx, Sem.run_bind, Sem.run_pure, run_buildLd w x y v, Result.andThen_ok]
  exact h
set_option maxRecDepth 100000 in
set_option maxHeartbeats 1600000 in
theorem loads_any {w : World} {B m cp : Nat} {A : Option Addr} {D : List S.RR} {rs : List S.Str.Rw} (h : S.RowsAt w B A m D rs) (hB : B ≤ w.heap.size) (hmc : m ≤ cp) {F T : Nat → Prop} {a : Nat} {t : TM} {l : List Chk.Ck} (ht : TAt w F T a t l)
    (c : Int) (ss : List (Int × Int)) (hss : Col.lss c rs = ss) (n : Nat) (hn : ss.length = n) (hn9 : n ≤ 100000) :
    Calls Tryz.prog 27 #[.slice A m cp, .pointer (some ⟨a, 0, none⟩), .int .i64 c] w fun e w' => ∃ A' c', e = .returned (.slice A' n c') ∧ w'.ownsRow w.heap.size 95 3 (.slice A' n c') n (ldLs l ss) ∧ Below w.heap.size w w' := by
  have HC := Lib.hid (fun W => isCode_any c _ rfl W)
  by_cases hc : 0 ≤ c ∧ c < 8
  · have hd : decide (0 ≤ c ∧ c < 8) = true := by simp [hc]
    rw [hd] at HC
    have hss2 : S.Str.strs c rs 0 = ss := by rw [← hss]; unfold Col.lss; rw [if_pos hc]
    have HSC := Lib.hid (S.stripes_any h hB hmc c)
    rw [hss2, hn] at HSC
    have HT := Lib.hid ht
    have HN := Lib.hid hn
    have HN9 := Lib.hid hn9
    clear hd hc hss hss2 hn hn9 h hB hmc ht
    go_enter Tryz.func27, Tryz.ntmps27
    go_upto_region 5 with (first
      | (go_at_call 65; refine (HC.out _).mono ?_; rintro e w2 ⟨rfl, rfl⟩)
      | (go_at_call 66; refine HSC.out.mono ?_; rintro e w2 ⟨A2, c2, rfl, own2, b2⟩))
    have HR2 := Lib.hid (Rd.of_own own2)
    have HB2 := Lib.hid b2
    clear own2 b2
    go_loopw [7, 17] (fun u7 u17 wx => ∃ (wr : World) (j : Nat) (A3 : Option Addr) (c3 : Nat), wr = wx ∧ j ≤ n ∧ u17 = .int .i64 (j : Int) ∧ u7 = .slice A3 j c3 ∧ Hid (wr.ownsRow w2.heap.size 95 3 (.slice A3 j c3) j (ldLs l (ss.take j))) ∧ Hid (Below w2.heap.size w2 wr)) (fun _ u17 _ => n - (intOf u17).toNat)
    case atStart => exact ⟨_, 0, none, 0, rfl, Nat.zero_le _, rfl, rfl, Lib.hid (World.ownsRow_nil _ _ _ _), Lib.hid (Below.refl _ _)⟩
    case round =>
      obtain ⟨wr, j, A3, c3, rfl, hj, rfl, rfl, HO, HBR⟩ := hrel
      by_cases hlt : j < n
      · have hjl : j < ss.length := by rw [HN.out]; exact hlt
        obtain ⟨b, off, rfl, hbb, hrg⟩ := HR2.out.elem (f := S.stL) (fun _ _ => rfl) hjl hlt
        have HTK := Lib.hid (List.take_succ_eq_append_getElem hjl)
        obtain ⟨s, hs⟩ : ∃ s, ss[j] = s := ⟨_, rfl⟩
        rw [hs] at hrg HTK
        have hrw : wr.rangeAt b (off + j * 2) [.int .i64 s.1, .int .i64 s.2] := fun q u hq => (HBR.out.cell (p := ⟨b, off + j * 2 + q, none⟩) hbb).trans (hrg q u hq)
        have e1 : (0 : Int) ≤ (j : Int) := by omega
        have e2 : (j : Int) < (n : Int) := by omega
        have HJ : Hid (j ≤ 100000) := Lib.hid (by have := HN9.out; omega)
        clear hjl hbb hrg hs
        go_upto_region 7 with (first
          | (refine wpList_load_mid rfl _ (.tmp 19) rfl b (off + j * 2) rfl [.int .i64 s.1, .int .i64 s.2] _ hrw Tryz.underlying35 rfl sizeS25 ?_)
          | (refine wpList_allocRow rfl _ rfl _ infoS25 ?_; intro w3 rz3 b3 z3; clear z3)
          | (refine wpList_storeRow rfl _ (.tmp 9) (.tmp 20) rfl (l' := [.int .i64 s.1, .int .i64 s.2]) rz3 rfl rfl sizeS25 rfl rfl ?_; intro w4 rz4 g4 z4; clear z4))
        have hb4 : Below wr.heap.size wr w4 := b3.grown g4 b3.size (fun i hi => by have := Option.some.inj hi; omega)
        obtain ⟨b9, hb9⟩ : ∃ y, wr.heap.size = y := ⟨_, rfl⟩
        have HB4 := Lib.hid (HBR.out.trans (hb4.mono HBR.out.size))
        have HO4 := Lib.hid (own_below HO.out hb4)
        rw [hb9] at rz4 ⊢
        have HR9 := Lib.hid rz4
        have HK0 := Lib.hid (rz4.cell 0)
        have HK1 := Lib.hid (rz4.cell 1)
        dsimp only [List.getElem?_cons_zero, List.getElem?_cons_succ] at HK0 HK1
        clear rz3 b3 g4 hrw hb4 hb9 rz4
        try simp only [Act.put, List.setIfInBounds_toArray, List.set_cons_zero, List.set_cons_succ]
        have HLV := Lib.hid (fun (W : World) (hW : Below w4.heap.size w4 W) => live_any (((HT.out.below HB2.out).below HB4.out).below hW) s.1 s.2)
        obtain ⟨k, hk⟩ : ∃ k, (Chk.live l s.1 s.2).length = k := ⟨_, rfl⟩
        rw [hk] at HLV
        have HKL := Lib.hid hk
        clear hk
        have hv0 : Below w4.heap.size w4 w4.drew := (Below.refl _ _).drew
        refine wp_region_late (fun W => Below w4.heap.size w4 W) [8, 9] (by kernel_rfl) (hv0) (fun hHeld => ?_)
        refine wpAnyL_take (i := 0) (oi := { dst := some 21, op := Op.move (Operand.tmp 7), type := 87, pos := "collect.go:42", after := #[], guard := none }) (v := ?v0_1) rfl (by kernel_rfl) (by kernel_rfl) (by kernel_rfl) (by kernel_rfl) (fun _ _ _ h => h) (Or.inl ⟨by rfl, ?h0_1⟩) (by assumption) ?r0_1
        case h0_1 =>
          intro W hSW
          try dsimp only at hSW
          go_simp
          try with_reducible rfl
        try simp only [Act.put, List.setIfInBounds_toArray, List.set_cons_zero, List.set_cons_succ]
        refine wpAnyL_take (i := 1) (oi := { dst := some 22, op := Op.load 35 (Operand.tmp 9), type := 35, pos := "collect.go:42", after := #[], guard := none }) (v := ?v1_2) rfl (by kernel_rfl) (by kernel_rfl) (by kernel_rfl) (by kernel_rfl) (fun _ _ _ h => h) (Or.inl ⟨by rfl, ?h1_2⟩) (by assumption) ?r1_2
        case h1_2 =>
          intro W hSW
          try dsimp only at hSW
          have c0 := (hSW.cell (p := ⟨b9, 0, none⟩) HR9.out.lt).trans HK0.out
          have c1 := (hSW.cell (p := ⟨b9, 1, none⟩) HR9.out.lt).trans HK1.out
          go_simp
          try with_reducible rfl
        try simp only [Act.put, List.setIfInBounds_toArray, List.set_cons_zero, List.set_cons_succ]
        refine wpAnyL_take (i := 2) (oi := { dst := some 23, op := Op.move (Operand.tmp 1), type := 27, pos := "collect.go:42", after := #[], guard := none }) (v := ?v2_3) rfl (by kernel_rfl) (by kernel_rfl) (by kernel_rfl) (by kernel_rfl) (fun _ _ _ h => h) (Or.inl ⟨by rfl, ?h2_3⟩) (by assumption) ?r2_3
        case h2_3 =>
          intro W hSW
          try dsimp only at hSW
          go_simp
          try with_reducible rfl
        try simp only [Act.put, List.setIfInBounds_toArray, List.set_cons_zero, List.set_cons_succ]
        refine wpAnyL_take (i := 3) (oi := { dst := some 24, op := Op.load 35 (Operand.tmp 9), type := 35, pos := "collect.go:42", after := #[], guard := none }) (v := ?v3_4) rfl (by kernel_rfl) (by kernel_rfl) (by kernel_rfl) (by kernel_rfl) (fun _ _ _ h => h) (Or.inl ⟨by rfl, ?h3_4⟩) (by assumption) ?r3_4
        case h3_4 =>
          intro W hSW
          try dsimp only at hSW
          have c0 := (hSW.cell (p := ⟨b9, 0, none⟩) HR9.out.lt).trans HK0.out
          have c1 := (hSW.cell (p := ⟨b9, 1, none⟩) HR9.out.lt).trans HK1.out
          go_simp
          try with_reducible rfl
        try simp only [Act.put, List.setIfInBounds_toArray, List.set_cons_zero, List.set_cons_succ]
        refine wpAnyL_ready (rs := [4]) (by kernel_rfl) (by simp) ?_
        refine AllReadyL.cons (o := { dst := some 25, op := Op.call { callee := Callee.value (Operand.func 16), args := #[Operand.tmp 23, Operand.tmp 24], argTypes := #[27, 35] }, type := 47, pos := "collect.go:42", after := #[{ on := 2, ground := Ground.data }, { on := 3, ground := Ground.data }], guard := none }) rfl (fun K hK => ?_) AllReadyL.nil
        go_simp
        refine (HLV.out _ hv0).mono ?_
        rintro e w40 ⟨A7, c7, rfl, _, b40⟩
        have hv40 : Below w4.heap.size w4 w40 := hv0.trans (b40.mono hv0.size)
        clear b40
        refine hK.out _ _ (hv40) (fun hHeld => ?_)
        clear hK K
        try simp only [Act.put, List.setIfInBounds_toArray, List.set_cons_zero, List.set_cons_succ]
        refine wpAnyL_take (i := 5) (oi := { dst := some 26, op := Op.call { callee := Callee.builtin Builtin.len, args := #[Operand.tmp 25], argTypes := #[47] }, type := 3, pos := "collect.go:42", after := #[{ on := 4, ground := Ground.data }], guard := none }) (v := ?v5_5) rfl (by kernel_rfl) (by kernel_rfl) (by kernel_rfl) (by kernel_rfl) (fun _ _ _ h => h) (Or.inl ⟨by rfl, ?h5_5⟩) (by assumption) ?r5_5
        case h5_5 =>
          intro W hSW
          try dsimp only at hSW
          go_simp
          try with_reducible rfl
        try simp only [Act.put, List.setIfInBounds_toArray, List.set_cons_zero, List.set_cons_succ]
        refine wpAnyL_take (i := 6) (oi := { dst := some 27, op := Op.build 95 #[(0, Operand.tmp 22), (1, Operand.tmp 26)], type := 95, pos := "collect.go:42", after := #[{ on := 1, ground := Ground.data }, { on := 5, ground := Ground.data }], guard := none }) (v := ?v6_6) rfl (by kernel_rfl) (by kernel_rfl) (by kernel_rfl) (by kernel_rfl) (fun _ _ _ h => h) (Or.inl ⟨by rfl, ?h6_6⟩) (by assumption) ?r6_6
        case h6_6 =>
          intro W hSW
          try dsimp only at hSW
          go_simp
          try with_reducible rfl
        try simp only [Act.put, List.setIfInBounds_toArray, List.set_cons_zero, List.set_cons_succ]
        refine wpAnyL_ready (rs := [7]) (by kernel_rfl) (by simp) ?_
        refine AllReadyL.cons (o := { dst := some 28, op := Op.buildSlice 87 1 #[(0, Operand.tmp 27)], type := 87, pos := "collect.go:42", after := #[{ on := 6, ground := Ground.data }], guard := none }) rfl (fun K hK => ?_) AllReadyL.nil
        rw [if_pos (by rfl)]
        refine wp_buildLd (.tmp 27) rfl s.1 s.2 (k : Int) rfl ?_
        have rL := Rd.new w40 (ldL s k) 95 1 (size := 3) rfl
        obtain ⟨w41, hw41⟩ : ∃ x, w40.alloc (.cells #[.int .i64 s.1, .int .i64 s.2, .int .i64 (k : Int)] 95) = x := ⟨_, rfl⟩
        have rL : Rd w41 w41.heap.size 3 (some ⟨w40.heap.size, 0, none⟩) 1 (ldL s k) := by rw [← hw41]; exact rL.more (by simp)
        rw [hw41]
        have b41 : Below w40.heap.size w40 w41 := by rw [← hw41]; exact (Below.refl _ _).alloc (Nat.le_refl _) _
        have hv41 : Below w4.heap.size w4 w41 := hv40.trans (b41.mono hv40.size)
        clear hw41 b41
        refine hK.out _ _ (hv41) (fun hHeld => ?_)
        clear hK K
        try simp only [Act.put, List.setIfInBounds_toArray, List.set_cons_zero, List.set_cons_succ]
        refine wpAnyL_ready (rs := [8]) (by kernel_rfl) (by simp) ?_
        refine AllReadyL.late (o := { dst := some 29, op := Op.call { callee := Callee.builtin Builtin.append, args := #[Operand.tmp 21, Operand.tmp 28], argTypes := #[87, 87] }, type := 87, pos := "collect.go:42", after := #[{ on := 0, ground := Ground.data }, { on := 7, ground := Ground.data }, { on := 4, ground := Ground.chain }], guard := none }) rfl (by rfl) (fun K hK => ?_) AllReadyL.nil
        rw [if_pos (by rfl)]
        refine wp_app _ (.tmp 21) (.tmp 28) 87 rfl w2.heap.size 95 _ 3 24 loadT A3 j c3 (ldLs l (ss.take j)) rfl (own_below HO4.out hv41) _ _ 1 1 (ldL s k) rfl rL (ldL_one s k) (by have := HJ.out; omega) (by have := HJ.out; unfold maxLen; omega) (Nat.le_trans HB4.out.size hv41.size) ?_
        intro A8 c8 w42 oA gA _
        have hvE : w2.heap.size ≤ w42.heap.size ∧ Below w2.heap.size w2 w42 := ⟨Nat.le_trans (HB4.out.trans (hv41.mono HB4.out.size)).size gA.size, (HB4.out.trans (hv41.mono HB4.out.size)).grown gA (HB4.out.trans (hv41.mono HB4.out.size)).size (fun q hq => (own_below HO4.out hv41).lt q hq |>.1)⟩
        refine hK.out _ _ ?_
        clear hK K
        try simp only [Act.put, List.setIfInBounds_toArray, List.set_cons_zero, List.set_cons_succ]
        refine wpAnyL_takeE (i := 9) (oi := { dst := some 7, op := Op.assign (Operand.tmp 29), type := 87, pos := "collect.go:42", after := #[{ on := 8, ground := Ground.data }, { on := 8, ground := Ground.chain }, { on := 0, ground := Ground.phase }, { on := 1, ground := Ground.phase }, { on := 2, ground := Ground.phase }, { on := 3, ground := Ground.phase }, { on := 4, ground := Ground.phase }, { on := 5, ground := Ground.phase }, { on := 6, ground := Ground.phase }, { on := 7, ground := Ground.phase }, { on := 8, ground := Ground.phase }], guard := none }) (v := ?v9_7) rfl (by kernel_rfl) (by kernel_rfl) (by kernel_rfl) (by kernel_rfl) (fun _ _ _ h => h) (Or.inl ⟨by rfl, ?h9_7⟩) ?r9_7
        case h9_7 =>
          intro W
          go_simp
          try with_reducible rfl
        try simp only [Act.put, List.setIfInBounds_toArray, List.set_cons_zero, List.set_cons_succ]
        refine wpAnyL_done (by kernel_rfl) ?_ _
        have HO5 := Lib.hid oA
        have HB5 := Lib.hid hvE
        have hj9 := HJ.out
        go_wp2_with fail
        go_roundw
        case rel => exact ⟨_, j + 1, A8, c8, rfl, by omega, by go_num, rfl, Lib.hid (by have := HO5.out; rw [HTK.out]; rw [← HKL.out, ldLs_snoc] at this; exact this), Lib.hid HB5.out.2⟩
        case measure => simp [intOf]; omega
      · obtain rfl : j = n := by omega
        have HE := Lib.hid (show ss.take j = ss from List.take_of_length_le (by rw [HN.out]; exact Nat.le_refl _))
        go_wp2_with fail
        go_ret
        have ho := HO.out
        rw [HE.out] at ho
        exact ⟨A3, c3, rfl, own_base ho HB2.out.size, HB2.out.trans (HBR.out.mono HB2.out.size)⟩
  · have hd : decide (0 ≤ c ∧ c < 8) = false := by simp [hc]
    rw [hd] at HC
    have hs0 : ss = [] := by rw [← hss]; unfold Col.lss; rw [if_neg hc]
    subst hs0
    have hn0 : n = 0 := by rw [← hn]; rfl
    subst hn0
    clear hd hc hss hn hn9 h hB hmc ht
    go_enter Tryz.func27, Tryz.ntmps27
    go_wp2_with (go_at_call 65; refine (HC.out _).mono ?_; rintro e w2 ⟨rfl, rfl⟩)
    go_ret
    exact ⟨none, 0, rfl, World.ownsRow_nil _ _ _ _, Below.refl _ _⟩
end
/-! The law's few: at most 64 rows with at most 200 used stripes. Conditions: rows as an argument holds them. -/
section
open Go.RowKit
theorem used_take : ∀ (l : List S.Str.Rw) (j : Nat) (r : S.Str.Rw), l[j]? = some r → Col.used (l.take (j + 1)) = Col.used (l.take j) + r.used.length
  | [], j, r, h => by simp at h
  | x :: l, 0, r, h => by simp at h; subst h; simp [Col.used]
  | x :: l, j + 1, r, h => by
    rw [List.getElem?_cons_succ] at h
    rw [List.take_succ_cons, List.take_succ_cons, Col.used, Col.used, used_take l j r h]; omega
set_option maxRecDepth 100000 in
set_option maxHeartbeats 1600000 in
theorem few_any {w : World} {B n cp : Nat} {A : Option Addr} {D : List S.RR} {rs : List S.Str.Rw} (h : S.RowsIn w B A n D rs) (hB : B ≤ w.heap.size) (hmc : n ≤ cp) (q : Bool) (hq : decide (n ≤ 64 ∧ Col.used rs ≤ 200) = q) :
    Calls Tryz.prog 5 #[.slice A n cp] w fun e w' => e = .returned (.bool q) ∧ Below w.heap.size w w' := by
  have HD := Lib.hid (h.more hB)
  have HQ := Lib.hid hq
  have hmx := h.mx
  clear h hB hq
  go_enter Tryz.func5, Tryz.ntmps5
  go_upto_region 3 with fail
  go_loopw [3, 8] (fun u3 u8 wx => ∃ (wr : World) (j : Nat) (x : Int), wr = wx ∧ j ≤ n ∧ u8 = .int .i64 (j : Int) ∧ u3 = .int .i64 x ∧ Hid (n ≤ 64 → x = (Col.used (rs.take j) : Int) ∧ x ≤ (j : Int) * 140737488355328) ∧ Hid (Below w.heap.size w wr)) (fun _ u8 _ => n - (intOf u8).toNat)
  case atStart => exact ⟨_, 0, 0, rfl, Nat.zero_le _, rfl, rfl, Lib.hid (fun _ => ⟨by simp [Col.used], by simp⟩), Lib.hid (Below.refl _ _)⟩
  case round =>
    obtain ⟨wr, j, x, rfl, hj, rfl, rfl, HX, HBR⟩ := hrel
    by_cases hlt : j < n
    · obtain ⟨b, off, r, rfl, hbb, hD, hl, hin, hrg, _⟩ := HD.out.at hlt
      have hul := used_take _ _ _ hl
      have hmr := hin.mx
      obtain ⟨k, hk⟩ : ∃ k, r.r.used.length = k := ⟨_, rfl⟩
      have HRL : Hid (S.rwL r = [.int .i64 r.r.code, .int .i64 r.r.width, .slice r.A k r.k]) := Lib.hid (by unfold S.rwL S.RR.v; rw [hk])
      have hle := hin.le
      rw [hk] at hul hmr hle
      have hrw : wr.rangeAt b (off + j * 3) (S.rwL r) := fun q u hq => (HBR.out.cell (p := ⟨b, off + j * 3 + q, none⟩) hbb).trans (hrg q u hq)
      obtain ⟨os, hos⟩ : ∃ os, S.rwL r = os := ⟨_, rfl⟩
      rw [hos] at hrw HRL
      have HLN := Lib.hid (show os.length = 3 by rw [← hos]; rfl)
      have HON := Lib.hid (show os.all (·.oneCell') = true by rw [← hos]; rfl)
      have HUL := Lib.hid hul
      have HMR := Lib.hid hmr
      have e1 : (0 : Int) ≤ (j : Int) := by omega
      have e2 : (j : Int) < (n : Int) := by omega
      clear hbb hD hl hin hrg hul hk hos
      go_upto_region 5 with (first
        | (refine wpList_load_mid rfl _ (.tmp 10) rfl b (off + j * 3) rfl os _ hrw Tryz.underlying44 rfl (by rw [HLN.out]; exact S.sizeRw) ?_)
        | (refine wpList_allocRow rfl _ rfl _ S.infoRw ?_; intro w3 rz3 b3 z3; clear z3)
        | (refine wpList_storeRow rfl _ (.tmp 5) (.tmp 11) rfl (l' := os) rz3 rfl rfl (by rw [HLN.out]; exact S.sizeRw) (by rw [HLN.out]; rfl) HON.out ?_; intro w4 rz4 g4 z4; clear z4))
      have hb4 : Below wr.heap.size wr w4 := b3.grown g4 b3.size (fun i hi => by have := Option.some.inj hi; omega)
      rw [HRL.out] at rz4
      have y2 := rz4.cell 2
      dsimp only [List.getElem?_cons_zero, List.getElem?_cons_succ] at y2
      have HB4 := Lib.hid (HBR.out.trans (hb4.mono HBR.out.size))
      clear rz3 b3 g4 hrw hb4 rz4
      try simp only [Act.put, List.setIfInBounds_toArray, List.set_cons_zero, List.set_cons_succ]
      obtain ⟨x2, hx2⟩ : ∃ x2, IntKind.i64.wrap (x + (k : Int)) = x2 := ⟨_, rfl⟩
      have HX2 := Lib.hid hx2
      clear hx2
      go_wp2_with fail
      go_roundw
      case rel => exact ⟨_, j + 1, _, rfl, by omega, by go_num, rfl, Lib.hid (fun h64 => by
          obtain ⟨h1, h2⟩ := HX.out h64
          have h3 := HUL.out
          have h4 := HMR.out
          have h5 : (j : Int) * 140737488355328 ≤ 64 * 140737488355328 := Int.mul_le_mul_of_nonneg_right (by omega) (by omega)
          have hw : wrap64 (x + (k : Int)) = x + (k : Int) := IntWalk.wrap64_in _ (by omega)
          rw [hw]
          refine ⟨by omega, ?_⟩
          have : ((j + 1 : Nat) : Int) * 140737488355328 = (j : Int) * 140737488355328 + 140737488355328 := by omega
          omega), HB4⟩
      case measure => simp [intOf]; omega
    · obtain rfl : j = n := by omega
      have HE := Lib.hid (show rs.take j = rs from List.take_of_length_le (by rw [HD.out.len.2]; exact Nat.le_refl _))
      by_cases h64 : j ≤ 64
      · obtain ⟨h1, _⟩ := HX.out h64
        rw [HE.out] at h1
        have HQ2 : Hid (decide (x ≤ 200) = q) := Lib.hid (by rw [← HQ.out]; exact decide_eq_decide.2 ⟨fun e => ⟨h64, by omega⟩, fun e => by omega⟩)
        have e3 : (j : Int) ≤ 64 := by omega
        clear h1
        go_wp2_with fail
        go_ret
        exact ⟨by have := HQ2.out; subst this; rfl, HBR.out⟩
      · have HQ2 : Hid (false = q) := Lib.hid (by rw [← HQ.out]; exact (decide_eq_false (fun e => h64 e.1)).symm)
        have e3 : ¬ (j : Int) ≤ 64 := by omega
        go_wp2_with fail
        go_ret
        exact ⟨by have := HQ2.out; subst this; rfl, HBR.out⟩
end
/-! The rows of layer 25's examples. No condition. -/
section
open Go.RowKit
def rs25 : List S.Str.Rw := [⟨0, 4, [⟨0, 0, 0⟩, ⟨1, 0, 0⟩]⟩, ⟨0, 4, [⟨0, 0, 0⟩]⟩, ⟨0, 4, [⟨0, 0, 0⟩]⟩]
set_option maxRecDepth 100000 in
set_option maxHeartbeats 1600000 in
theorem rows25_any (w : World) :
    Calls Tryz.prog 28 #[] w fun e w' => ∃ A D, e = .returned (.slice A 3 3) ∧ S.RowsAt w' w'.heap.size A 3 D rs25 ∧ Below w.heap.size w w' := by
  have r1 := Rd.new w [.int .i64 0, .int .i64 0, .int .i64 0] 107 1 (size := 3) rfl
  obtain ⟨w1, h1⟩ : ∃ x, w.alloc (.cells #[.int .i64 0, .int .i64 0, .int .i64 0] 107) = x := ⟨_, rfl⟩
  have s1 : w1.heap.size = w.heap.size + 1 := by rw [← h1]; simp
  have b1 : Below w.heap.size w w1 := by rw [← h1]; exact (Below.refl _ _).alloc (Nat.le_refl _) _
  rw [show w.alloc (.cells [Value.int .i64 0, .int .i64 0, .int .i64 0].toArray 107) = w1 from h1] at r1
  have r2 := Rd.new w1 [.int .i64 0, .int .i64 0, .int .i64 0, .int .i64 1, .int .i64 0, .int .i64 0] 107 2 (size := 3) rfl
  obtain ⟨w2, h2⟩ : ∃ x, w1.alloc (.cells #[.int .i64 0, .int .i64 0, .int .i64 0, .int .i64 1, .int .i64 0, .int .i64 0] 107) = x := ⟨_, rfl⟩
  have s2 : w2.heap.size = w1.heap.size + 1 := by rw [← h2]; simp
  have b2 : Below w1.heap.size w1 w2 := by rw [← h2]; exact (Below.refl _ _).alloc (Nat.le_refl _) _
  rw [show w1.alloc (.cells [Value.int .i64 0, .int .i64 0, .int .i64 0, .int .i64 1, .int .i64 0, .int .i64 0].toArray 107) = w2 from h2] at r2
  obtain ⟨D, hD⟩ : ∃ D : List S.RR, D = [⟨⟨0, 4, [⟨0, 0, 0⟩, ⟨1, 0, 0⟩]⟩, some ⟨w1.heap.size, 0, none⟩, 2⟩, ⟨⟨0, 4, [⟨0, 0, 0⟩]⟩, some ⟨w.heap.size, 0, none⟩, 1⟩, ⟨⟨0, 4, [⟨0, 0, 0⟩]⟩, some ⟨w.heap.size, 0, none⟩, 1⟩] := ⟨_, rfl⟩
  have r3 := Rd.new w2 (D.flatMap S.rwL) 44 3 (size := 3) (by rw [hD]; rfl)
  obtain ⟨w3, h3⟩ : ∃ x, w2.alloc (.cells (D.flatMap S.rwL).toArray 44) = x := ⟨_, rfl⟩
  have s3 : w3.heap.size = w2.heap.size + 1 := by rw [← h3]; simp
  have b3 : Below w2.heap.size w2 w3 := by rw [← h3]; exact (Below.refl _ _).alloc (Nat.le_refl _) _
  rw [h3] at r3
  have HW : Hid (w.alloc (.cells #[.int .i64 0, .int .i64 0, .int .i64 0] 107) = w1) := Lib.hid h1
  have HFIN : Hid (S.RowsAt w3 w3.heap.size (some ⟨w2.heap.size, 0, none⟩) 3 D rs25 ∧ Below w.heap.size w w3) := by
    have q1 : Rd w3 w3.heap.size 3 (some ⟨w.heap.size, 0, none⟩) 1 [.int .i64 0, .int .i64 0, .int .i64 0] := (((r1.more (by omega)).below b2).more (by omega)).below b3 |>.more (by omega)
    have q2 : Rd w3 w3.heap.size 3 (some ⟨w1.heap.size, 0, none⟩) 2 [.int .i64 0, .int .i64 0, .int .i64 0, .int .i64 1, .int .i64 0, .int .i64 0] := ((r2.more (by omega)).below b3).more (by omega)
    refine Lib.hid ⟨⟨r3.more (by omega), by rw [hD]; rfl, fun x hx => ?_, by omega⟩, b1.trans ((b2.mono (by omega)).trans (b3.mono (by omega)))⟩
    rw [hD] at hx
    simp only [List.mem_cons, List.not_mem_nil, or_false] at hx
    rcases hx with rfl | rfl | rfl
    · exact ⟨q2, by simp, by simp⟩
    · exact ⟨q1, by simp, by simp⟩
    · exact ⟨q1, by simp, by simp⟩
  have HW2 : Hid (w1.alloc (.cells #[.int .i64 0, .int .i64 0, .int .i64 0, .int .i64 1, .int .i64 0, .int .i64 0] 107) = w2) := Lib.hid h2
  have HW3 : Hid (w2.alloc (.cells #[.int .i64 0, .int .i64 4, .slice (some ⟨w1.heap.size, 0, none⟩) 2 2, .int .i64 0, .int .i64 4, .slice (some ⟨w.heap.size, 0, none⟩) 1 1, .int .i64 0, .int .i64 4, .slice (some ⟨w.heap.size, 0, none⟩) 1 1] 44) = w3) := Lib.hid (by rw [← h3, hD]; rfl)
  have HS1 := Lib.hid s1
  have HS2 := Lib.hid s2
  clear r1 r2 r3 b1 b2 b3 h1 h2 h3 s1 s2 s3 hD
  go_enter Tryz.func28, Tryz.ntmps28
  go_wp2_with fail
  go_ret
  rw [HW.out, ← HS1.out, HW2.out, ← HS2.out, HW3.out]
  exact ⟨some ⟨w2.heap.size, 0, none⟩, D, rfl, HFIN.out.1, HFIN.out.2⟩
end
end Go.Proofs.YtihhkcndcgljbaaGreat
