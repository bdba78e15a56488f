/- Joined texts: ColY, ColMp. Conditions: as each part says. -/
import Derived.Test.YtihhkcndcgljbaaGreatColVU
import Derived.Test.YtihhkcndcgljbaaGreatChkRJK
import Derived.Test.YtihhkcndcgljbaaGreatColZ
namespace Go.Proofs.YtihhkcndcgljbaaGreat
set_option linter.unusedVariables false
set_option linter.unusedSimpArgs false
/-! The specification's Loads of layer 25. Conditions: at most 65536 rows, at most 100000 stripes. -/
section
open Go.RowKit
theorem rloadT : ElemT Tryz.prog 49 68 (.agg #[.int .i64 0, .int .i64 0, .int .i64 0]) 3 24 := ⟨Tryz.underlying49, by kernel_rfl, by kernel_rfl, by decide, by decide⟩
theorem run_buildRL (w : World) (x y z : Int) : (Instr.buildSlice 49 1 #[(0, .agg #[.int .i64 x, .int .i64 y, .int .i64 z])]).run Tryz.prog w = .ok (.slice (some ⟨w.heap.size, 0, none⟩) 1 1) (w.alloc (.cells #[.int .i64 x, .int .i64 y, .int .i64 z] 68)) := by kernel_rfl
theorem wp_buildRL {o : Oper} {a : Act} {w : World} {K : Act → World → Prop} {Q : Exit → Act → World → Prop} (z : Operand) (ho : o.op = .buildSlice 49 1 #[(0, z)]) (x y v : Int) (hx : a.eval z = .agg #[.int .i64 x, .int .i64 y, .int .i64 v])
    (h : K (a.put o.dst (.slice (some ⟨w.heap.size, 0, none⟩) 1 1)) (w.alloc (.cells #[.int .i64 x, .int .i64 y, .int .i64 v] 68))) : o.wp Tryz.prog a w K Q := by
  unfold Oper.wp execOp
  simp only [ho, List.map_toArray, List.map_cons, List.map_nil, hx, Sem.run_bind, Sem.run_pure, run_buildRL w x y v, Result.andThen_ok]
  exact h
namespace Col
/-- the stripes of the rows before k, and those of row k before i -/
def upTo (c : Int) (rs : List S.Str.Rw) (k i : Nat) (us : List S.Str.Us) : List St := S.Str.strs c (rs.take k) 0 ++ (us.take i).map fun u => ((k : Int), u.g)
theorem upTo_snoc {c : Int} {rs : List S.Str.Rw} {k i : Nat} {us : List S.Str.Us} (hi : i < us.length) : upTo c rs k (i + 1) us = upTo c rs k i us ++ [((k : Int), us[i].g)] := by
  unfold upTo; rw [List.take_succ_eq_append_getElem hi, List.map_append, List.append_assoc]; rfl
theorem strs_next {c : Int} {rs : List S.Str.Rw} {k : Nat} {r : S.Str.Rw} (hk : rs[k]? = some r) : S.Str.strs c (rs.take (k + 1)) 0 = S.Str.strs c (rs.take k) 0 ++ (if r.code = c then r.used.map (fun u => ((k : Int), u.g)) else []) := by
  have hl := (List.getElem?_eq_some_iff.1 hk).1
  have hr : rs[k] = r := by rw [List.getElem?_eq_getElem hl] at hk; exact Option.some.inj hk
  rw [List.take_succ_eq_append_getElem hl, strs_snoc, hr, List.length_take, Nat.min_eq_left (by omega), Nat.zero_add]
theorem strs_pre (c : Int) : ∀ (rs : List S.Str.Rw) (k : Nat), (S.Str.strs c (rs.take k) 0).length ≤ (S.Str.strs c rs 0).length := fun rs k => by
  rcases Nat.lt_or_ge k rs.length with h | h
  · have key : ∀ (a b : List S.Str.Rw) (j : Nat), (S.Str.strs c a j).length ≤ (S.Str.strs c (a ++ b) j).length := fun a => by
      induction a with
      | nil => intro b j; simp [S.Str.strs]
      | cons x a ih =>
        intro b j
        rw [List.cons_append, S.Str.strs, S.Str.strs]
        have := ih b (j + 1)
        split
        · rw [List.length_append, List.length_append]; omega
        · exact this
    have := key (rs.take k) (rs.drop k) 0
    rwa [List.take_append_drop] at this
  · rw [List.take_of_length_le h]; exact Nat.le_refl _
end Col
set_option maxRecDepth 100000 in
set_option maxHeartbeats 3200000 in
theorem rloads25 {w : World} {B m cp : Nat} {A : Option Addr} {D : List S.RR} {rs : List S.Str.Rw} (h : S.RowsAt w B A m D rs) (hB : B ≤ w.heap.size) (hmc : m ≤ cp) {F T : Nat → Prop} {a : Nat} {t : RM} {l : List Chk.Ck} (ht : RAt w F T a t l)
    (c : Int) (hc0 : 0 ≤ c) (hc8 : c < 8) (ss : List (Int × Int)) (hss : S.Str.strs c rs 0 = ss) (n : Nat) (hn : ss.length = n) (hn9 : n ≤ 100000) :
    Calls Tryz.prog 12 #[.slice A m cp, .pointer (some ⟨a, 0, none⟩), .int .i64 c] w fun e w' => ∃ A' c', e = .returned (.slice A' n c') ∧ w'.ownsRow w.heap.size 68 3 (.slice A' n c') n (ldLs l ss) ∧ Below w.heap.size w w' := by
  have HR := Lib.hid h
  have HBB := Lib.hid hB
  have HT := Lib.hid ht
  have HL := Lib.hid h.len
  have HSS := Lib.hid hss
  have HNN := Lib.hid hn
  have hmx := h.mx
  clear h hB ht hss hn
  go_enter Tryz.func12, Tryz.ntmps12
  go_upto_region 5 with fail
  go_loopw [7, 8] (fun u7 u8 wx => ∃ (wr : World) (k N : Nat) (A3 : Option Addr) (c3 : Nat), wr = wx ∧ k ≤ m ∧ u8 = .int .i64 (k : Int) ∧ u7 = .slice A3 N c3 ∧ Hid ((S.Str.strs c (rs.take k) 0).length = N) ∧ Hid (wr.ownsRow w.heap.size 68 3 (.slice A3 N c3) N (ldLs l (S.Str.strs c (rs.take k) 0))) ∧ Hid (Below w.heap.size w wr)) (fun _ u8 _ => m - (intOf u8).toNat)
  case atStart => exact ⟨_, 0, 0, none, 0, rfl, Nat.zero_le _, rfl, rfl, Lib.hid (by simp [S.Str.strs]), Lib.hid (by have := World.ownsRow_nil w w.heap.size 68 3; simpa [S.Str.strs, ldLs] using this), Lib.hid (Below.refl _ _)⟩
  case round =>
    obtain ⟨wr, k, N0, A3, c3, rfl, hk, rfl, rfl, HLN0, HO, HBR⟩ := hrel
    by_cases hlt : k < m
    · obtain ⟨b, off, x, rfl, hbb, hD, hl, hok, hrg, c0, _, c2⟩ := HR.out.at hlt
      have hblt := Nat.lt_of_lt_of_le hbb HBB.out
      have HNX := Lib.hid (Col.strs_next (c := c) hl)
      have HX := Lib.hid (hok.more HBB.out)
      have hmu := hok.mx
      obtain ⟨⟨cd, wd, us⟩, xA, xk⟩ := x
      unfold S.RR.v at c2
      dsimp only at c0 c2 hmu HNX
      obtain ⟨mu, hmu2⟩ : ∃ y, us.length = y := ⟨_, rfl⟩
      rw [hmu2] at c2 hmu
      have HMU := Lib.hid hmu2
      have HC0 := Lib.hid (And.intro hblt (And.intro c0 c2))
      have hk0 := (HBR.out.cell (p := ⟨b, off + k * 3, none⟩) hblt).trans c0
      have e1 : (0 : Int) ≤ (k : Int) := by omega
      have e2 : (k : Int) < (m : Int) := by omega
      clear hbb hD hl hok hrg c0 c2 hblt hmu2
      by_cases hcd : cd = c
      · have e3 : (cd != c) = false := by simp [hcd]
        have hnx := HNX.out
        rw [if_pos hcd] at hnx
        have HN2 := Lib.hid hnx
        have hle9 : N0 + mu ≤ 100000 := by
          have h1 := congrArg List.length hnx
          rw [List.length_append, List.length_map, HLN0.out, HMU.out] at h1
          have h2 := Col.strs_pre c rs (k + 1)
          rw [HSS.out, HNN.out] at h2
          omega
        have HJ9 := Lib.hid hle9
        clear hnx hcd hle9
        go_upto_region 9 with fail
        clear hk0
        go_loopw [7, 9] (fun u7 u9 wx => ∃ (wi : World) (i N : Nat) (A4 : Option Addr) (c4 : Nat), wi = wx ∧ i ≤ mu ∧ u9 = .int .i64 (i : Int) ∧ u7 = .slice A4 N c4 ∧ Hid ((Col.upTo c rs k i us).length = N) ∧ Hid (wi.ownsRow w.heap.size 68 3 (.slice A4 N c4) N (ldLs l (Col.upTo c rs k i us))) ∧ Hid (Below w.heap.size w wi)) (fun _ u9 _ => mu - (intOf u9).toNat)
        case atStart => exact ⟨_, 0, N0, A3, c3, rfl, Nat.zero_le _, rfl, rfl, Lib.hid (by unfold Col.upTo; simpa using HLN0.out), Lib.hid (by unfold Col.upTo; simpa using HO.out), HBR⟩
        case round =>
          obtain ⟨wi, i, N, A3, c3, rfl, hi, rfl, rfl, HLN, HO, HBI⟩ := hrel
          have k2 := (HBI.out.cell (p := ⟨b, off + k * 3 + 2, none⟩) HC0.out.1).trans HC0.out.2.2
          by_cases hlt2 : i < mu
          · have hiu : i < us.length := by rw [HMU.out]; exact hlt2
            obtain ⟨bu, ou, hA, hbu, -, cu⟩ := HX.out.at (k := i) hiu
            dsimp only at hA cu
            subst hA
            have HSN := Lib.hid (Col.upTo_snoc (c := c) (rs := rs) (k := k) hiu)
            obtain ⟨ug, hug⟩ : ∃ y, us[i].g = y := ⟨_, rfl⟩
            rw [hug] at cu HSN
            have hcu := (HBI.out.cell (p := ⟨bu, ou + i * 3, none⟩) hbu).trans cu
            have HJ : Hid (N < 100000) := Lib.hid (by
              have h1 := HLN.out
              unfold Col.upTo at h1
              rw [List.length_append, List.length_map, List.length_take, HLN0.out] at h1
              have := HJ9.out
              have := HMU.out
              omega)
            have e5 : (0 : Int) ≤ (i : Int) := by omega
            have e6 : (i : Int) < (mu : Int) := by omega
            clear hiu hbu cu hug
            go_upto_region 12 with (first
              | (refine wpList_allocRow rfl _ rfl _ infoS25 ?_; intro w3 rz3 b3 z3; clear z3)
              | (refine wpList_storeRow rfl _ (.tmp 10) (.tmp 50) rfl (l' := [.int .i64 (k : Int), .int .i64 ug]) rz3 rfl rfl sizeS25 rfl rfl ?_; intro w4 rz4 g4 z4; clear z4))
            have hb4 : Below wi.heap.size wi w4 := b3.grown g4 b3.size (fun i hi => by have := Option.some.inj hi; omega)
            obtain ⟨b9, hb9⟩ : ∃ y, wi.heap.size = y := ⟨_, rfl⟩
            have HB4 := Lib.hid (HBI.out.trans (hb4.mono HBI.out.size))
            have HO4 := Lib.hid (own_below HO.out hb4)
            rw [hb9] at rz4 ⊢
            have HR9 := Lib.hid rz4
            have HK0 := Lib.hid (rz4.cell 0)
            have HK1 := Lib.hid (rz4.cell 1)
            dsimp only [List.getElem?_cons_zero, List.getElem?_cons_succ] at HK0 HK1
            clear rz3 b3 g4 hb4 hb9 rz4 hcu k2
            try simp only [Act.put, List.setIfInBounds_toArray, List.set_cons_zero, List.set_cons_succ]
            have HLV := Lib.hid (fun (W : World) (hW : Below w4.heap.size w4 W) => rlive_any ((HT.out.below HB4.out).below hW) (k : Int) ug)
            obtain ⟨q, hq⟩ : ∃ q, (Chk.live l (k : Int) ug).length = q := ⟨_, rfl⟩
            rw [hq] at HLV
            have HQK := Lib.hid hq
            obtain ⟨SL, hSL⟩ : ∃ x, Col.upTo c rs k i us = x := ⟨_, rfl⟩
            rw [hSL] at HLN HO4 HSN
            clear hq hSL
            have hv0 : Below w4.heap.size w4 w4.drew := (Below.refl _ _).drew
            refine wp_region_late (fun W => Below w4.heap.size w4 W) [8, 9] (by kernel_rfl) (hv0) (fun hHeld => ?_)
            refine wpAnyL_take (i := 0) (oi := { dst := some 51, op := Op.move (Operand.tmp 7), type := 49, pos := "ref.go:35", after := #[], guard := none }) (v := ?v0_1) rfl (by kernel_rfl) (by kernel_rfl) (by kernel_rfl) (by kernel_rfl) (fun _ _ _ h => h) (Or.inl ⟨by rfl, ?h0_1⟩) (by assumption) ?r0_1
            case h0_1 =>
              intro W hSW
              try dsimp only at hSW
              go_simp
              try with_reducible rfl
            try simp only [Act.put, List.setIfInBounds_toArray, List.set_cons_zero, List.set_cons_succ]
            refine wpAnyL_take (i := 1) (oi := { dst := some 52, op := Op.load 35 (Operand.tmp 10), type := 35, pos := "ref.go:35", after := #[], guard := none }) (v := ?v1_2) rfl (by kernel_rfl) (by kernel_rfl) (by kernel_rfl) (by kernel_rfl) (fun _ _ _ h => h) (Or.inl ⟨by rfl, ?h1_2⟩) (by assumption) ?r1_2
            case h1_2 =>
              intro W hSW
              try dsimp only at hSW
              have c0 := (hSW.cell (p := ⟨b9, 0, none⟩) HR9.out.lt).trans HK0.out
              have c1 := (hSW.cell (p := ⟨b9, 1, none⟩) HR9.out.lt).trans HK1.out
              go_simp
              try with_reducible rfl
            try simp only [Act.put, List.setIfInBounds_toArray, List.set_cons_zero, List.set_cons_succ]
            refine wpAnyL_take (i := 2) (oi := { dst := some 53, op := Op.move (Operand.tmp 1), type := 28, pos := "ref.go:35", after := #[], guard := none }) (v := ?v2_3) rfl (by kernel_rfl) (by kernel_rfl) (by kernel_rfl) (by kernel_rfl) (fun _ _ _ h => h) (Or.inl ⟨by rfl, ?h2_3⟩) (by assumption) ?r2_3
            case h2_3 =>
              intro W hSW
              try dsimp only at hSW
              go_simp
              try with_reducible rfl
            try simp only [Act.put, List.setIfInBounds_toArray, List.set_cons_zero, List.set_cons_succ]
            refine wpAnyL_take (i := 3) (oi := { dst := some 54, op := Op.load 35 (Operand.tmp 10), type := 35, pos := "ref.go:35", after := #[], guard := none }) (v := ?v3_4) rfl (by kernel_rfl) (by kernel_rfl) (by kernel_rfl) (by kernel_rfl) (fun _ _ _ h => h) (Or.inl ⟨by rfl, ?h3_4⟩) (by assumption) ?r3_4
            case h3_4 =>
              intro W hSW
              try dsimp only at hSW
              have c0 := (hSW.cell (p := ⟨b9, 0, none⟩) HR9.out.lt).trans HK0.out
              have c1 := (hSW.cell (p := ⟨b9, 1, none⟩) HR9.out.lt).trans HK1.out
              go_simp
              try with_reducible rfl
            try simp only [Act.put, List.setIfInBounds_toArray, List.set_cons_zero, List.set_cons_succ]
            refine wpAnyL_ready (rs := [4]) (by kernel_rfl) (by simp) ?_
            refine AllReadyL.cons (o := { dst := some 55, op := Op.call { callee := Callee.value (Operand.func 11), args := #[Operand.tmp 53, Operand.tmp 54], argTypes := #[28, 35] }, type := 47, pos := "ref.go:35", after := #[{ on := 2, ground := Ground.data }, { on := 3, ground := Ground.data }], guard := none }) rfl (fun K hK => ?_) AllReadyL.nil
            go_simp
            refine (HLV.out _ hv0).mono ?_
            rintro e w40 ⟨A7, c7, rfl, _, b40⟩
            have hv40 : Below w4.heap.size w4 w40 := hv0.trans (b40.mono hv0.size)
            clear b40
            refine hK.out _ _ (hv40) (fun hHeld => ?_)
            clear hK K
            try simp only [Act.put, List.setIfInBounds_toArray, List.set_cons_zero, List.set_cons_succ]
            refine wpAnyL_take (i := 5) (oi := { dst := some 56, op := Op.call { callee := Callee.builtin Builtin.len, args := #[Operand.tmp 55], argTypes := #[47] }, type := 3, pos := "ref.go:35", after := #[{ on := 4, ground := Ground.data }], guard := none }) (v := ?v5_5) rfl (by kernel_rfl) (by kernel_rfl) (by kernel_rfl) (by kernel_rfl) (fun _ _ _ h => h) (Or.inl ⟨by rfl, ?h5_5⟩) (by assumption) ?r5_5
            case h5_5 =>
              intro W hSW
              try dsimp only at hSW
              go_simp
              try with_reducible rfl
            try simp only [Act.put, List.setIfInBounds_toArray, List.set_cons_zero, List.set_cons_succ]
            refine wpAnyL_take (i := 6) (oi := { dst := some 57, op := Op.build 68 #[(0, Operand.tmp 52), (1, Operand.tmp 56)], type := 68, pos := "ref.go:35", after := #[{ on := 1, ground := Ground.data }, { on := 5, ground := Ground.data }], guard := none }) (v := ?v6_6) rfl (by kernel_rfl) (by kernel_rfl) (by kernel_rfl) (by kernel_rfl) (fun _ _ _ h => h) (Or.inl ⟨by rfl, ?h6_6⟩) (by assumption) ?r6_6
            case h6_6 =>
              intro W hSW
              try dsimp only at hSW
              go_simp
              try with_reducible rfl
            try simp only [Act.put, List.setIfInBounds_toArray, List.set_cons_zero, List.set_cons_succ]
            refine wpAnyL_ready (rs := [7]) (by kernel_rfl) (by simp) ?_
            refine AllReadyL.cons (o := { dst := some 58, op := Op.buildSlice 49 1 #[(0, Operand.tmp 57)], type := 49, pos := "ref.go:35", after := #[{ on := 6, ground := Ground.data }], guard := none }) rfl (fun K hK => ?_) AllReadyL.nil
            rw [if_pos (by rfl)]
            refine wp_buildRL (.tmp 57) rfl (k : Int) ug (q : Int) rfl ?_
            have rL := Rd.new w40 (ldL ((k : Int), ug) q) 68 1 (size := 3) rfl
            obtain ⟨w41, hw41⟩ : ∃ x, w40.alloc (.cells #[.int .i64 (k : Int), .int .i64 ug, .int .i64 (q : Int)] 68) = x := ⟨_, rfl⟩
            have rL : Rd w41 w41.heap.size 3 (some ⟨w40.heap.size, 0, none⟩) 1 (ldL ((k : Int), ug) q) := by rw [← hw41]; exact rL.more (by simp)
            rw [hw41]
            have b41 : Below w40.heap.size w40 w41 := by rw [← hw41]; exact (Below.refl _ _).alloc (Nat.le_refl _) _
            have hv41 : Below w4.heap.size w4 w41 := hv40.trans (b41.mono hv40.size)
            clear hw41 b41
            refine hK.out _ _ (hv41) (fun hHeld => ?_)
            clear hK K
            try simp only [Act.put, List.setIfInBounds_toArray, List.set_cons_zero, List.set_cons_succ]
            refine wpAnyL_ready (rs := [8]) (by kernel_rfl) (by simp) ?_
            refine AllReadyL.late (o := { dst := some 59, op := Op.call { callee := Callee.builtin Builtin.append, args := #[Operand.tmp 51, Operand.tmp 58], argTypes := #[49, 49] }, type := 49, pos := "ref.go:35", after := #[{ on := 0, ground := Ground.data }, { on := 7, ground := Ground.data }, { on := 4, ground := Ground.chain }], guard := none }) rfl (by rfl) (fun K hK => ?_) AllReadyL.nil
            rw [if_pos (by rfl)]
            refine wp_app _ (.tmp 51) (.tmp 58) 49 rfl w.heap.size 68 _ 3 24 rloadT A3 N c3 (ldLs l SL) rfl (own_below HO4.out hv41) _ _ 1 1 (ldL ((k : Int), ug) q) rfl rL (ldL_one ((k : Int), ug) q) (by have := HJ.out; omega) (by have := HJ.out; unfold maxLen; omega) (Nat.le_trans HB4.out.size hv41.size) ?_
            intro A8 c8 w42 oA gA _
            have hvE : w.heap.size ≤ w42.heap.size ∧ Below w.heap.size w w42 := ⟨Nat.le_trans (HB4.out.trans (hv41.mono HB4.out.size)).size gA.size, (HB4.out.trans (hv41.mono HB4.out.size)).grown gA (HB4.out.trans (hv41.mono HB4.out.size)).size (fun q hq => (own_below HO4.out hv41).lt q hq |>.1)⟩
            refine hK.out _ _ ?_
            clear hK K
            try simp only [Act.put, List.setIfInBounds_toArray, List.set_cons_zero, List.set_cons_succ]
            refine wpAnyL_takeE (i := 9) (oi := { dst := some 7, op := Op.assign (Operand.tmp 59), type := 49, pos := "ref.go:35", after := #[{ on := 8, ground := Ground.data }, { on := 8, ground := Ground.chain }, { on := 0, ground := Ground.phase }, { on := 1, ground := Ground.phase }, { on := 2, ground := Ground.phase }, { on := 3, ground := Ground.phase }, { on := 4, ground := Ground.phase }, { on := 5, ground := Ground.phase }, { on := 6, ground := Ground.phase }, { on := 7, ground := Ground.phase }, { on := 8, ground := Ground.phase }], guard := none }) (v := ?v9_7) rfl (by kernel_rfl) (by kernel_rfl) (by kernel_rfl) (by kernel_rfl) (fun _ _ _ h => h) (Or.inl ⟨by rfl, ?h9_7⟩) ?r9_7
            case h9_7 =>
              intro W
              go_simp
              try with_reducible rfl
            try simp only [Act.put, List.setIfInBounds_toArray, List.set_cons_zero, List.set_cons_succ]
            refine wpAnyL_done (by kernel_rfl) ?_ _
            have HO5 := Lib.hid oA
            have HB5 := Lib.hid hvE
            have hj9 := HJ.out
            go_wp2_with fail
            go_roundw
            case rel => exact ⟨_, i + 1, N + 1, A8, c8, rfl, by omega, by go_num, rfl, Lib.hid (by rw [HSN.out, List.length_append, HLN.out]; rfl), Lib.hid (by have := HO5.out; rw [HSN.out, ← ldLs_snoc, HQK.out]; exact this), Lib.hid HB5.out.2⟩
            case measure => simp [intOf]; omega
          · obtain rfl : i = mu := by omega
            have hup : Col.upTo c rs k i us = S.Str.strs c (rs.take (k + 1)) 0 := by
              unfold Col.upTo
              rw [show us.take i = us from List.take_of_length_le (by rw [HMU.out]; exact Nat.le_refl _), HN2.out]
            have hln := HLN.out
            have ho := HO.out
            rw [hup] at hln ho
            have HLN2 := Lib.hid hln
            have HO2 := Lib.hid ho
            clear hup hln ho
            go_wp2_with fail
            go_roundw
            case rel => exact ⟨_, k + 1, N, A3, c3, rfl, by omega, by go_num, rfl, HLN2, HO2, HBI⟩
            case measure => simp [intOf]; omega
      · have e3 : (cd != c) = true := by simp [hcd]
        have hnx := HNX.out
        rw [if_neg hcd, List.append_nil] at hnx
        have HN2 := Lib.hid hnx
        clear hnx hcd
        go_wp2_with fail
        go_roundw
        case rel => exact ⟨_, k + 1, N0, A3, c3, rfl, by omega, by go_num, rfl, Lib.hid (by rw [HN2.out]; exact HLN0.out), Lib.hid (by rw [HN2.out]; exact HO.out), HBR⟩
        case measure => simp [intOf]; omega
    · obtain rfl : k = m := by omega
      have htk : rs.take k = rs := List.take_of_length_le (by rw [HL.out.2]; exact Nat.le_refl _)
      have hln := HLN0.out
      have ho := HO.out
      rw [htk, HSS.out] at hln ho
      obtain rfl : N0 = n := by rw [← hln, HNN.out]
      have HO2 := Lib.hid ho
      clear ho hln htk
      go_wp2_with fail
      go_ret
      exact ⟨A3, c3, rfl, HO2.out, HBR.out⟩
end
/-! For CollectMerges: an allocation's stripes, the sum, what is wanted, in plain data. Conditions: as each theorem says. -/
section
open Go.RowKit
namespace Col
open Chk (Ck Inv)
open S.Str (Us Rw Asc strs)
theorem insU_mem {u x : Us} : ∀ {l : List Us}, x ∈ insU u l ↔ x = u ∨ x ∈ l
  | [] => by simp [insU]
  | y :: l => by
    rw [insU]
    split
    · simp
    · rw [List.mem_cons, insU_mem, List.mem_cons]
      constructor
      · rintro (h | h | h)
        · exact .inr (.inl h)
        · exact .inl h
        · exact .inr (.inr h)
      · rintro (h | h | h)
        · exact .inr (.inl h)
        · exact .inl h
        · exact .inr (.inr h)
theorem insU_len (u : Us) : ∀ l : List Us, (insU u l).length = l.length + 1
  | [] => rfl
  | x :: l => by
    rw [insU]
    split
    · rfl
    · rw [List.length_cons, insU_len u l]; rfl
theorem asc_ins {g : Int} : ∀ {us : List Us} {lo : Int}, Asc lo us → lo ≤ g → (∀ u ∈ us, u.g ≠ g) → Asc lo (insU ⟨g, 0, 0⟩ us)
  | [], lo, _, h, _ => ⟨h, trivial⟩
  | x :: l, lo, ha, h, hn => by
    rw [insU]
    by_cases hx : g < x.g
    · rw [if_pos hx]; exact ⟨h, by show g + 1 ≤ x.g; omega, ha.2⟩
    · rw [if_neg hx]
      have h1 := hn x (by simp)
      exact ⟨ha.1, asc_ins ha.2 (by omega) fun u hu => hn u (by simp [hu])⟩
theorem strs_iff {c : Int} : ∀ {rs : List Rw} {j : Nat} {s : St}, s ∈ strs c rs j ↔ ∃ (i : Nat) (x : Rw), rs[i]? = some x ∧ x.code = c ∧ s.1 = ((j + i : Nat) : Int) ∧ ∃ u ∈ x.used, u.g = s.2
  | [], j, s => by simp [strs]
  | r :: l, j, s => by
    have ih := strs_iff (c := c) (rs := l) (j := j + 1) (s := s)
    have tail : (∃ (i : Nat) (x : Rw), (r :: l)[i + 1]? = some x ∧ x.code = c ∧ s.1 = ((j + (i + 1) : Nat) : Int) ∧ ∃ u ∈ x.used, u.g = s.2) ↔ s ∈ strs c l (j + 1) := by
      rw [ih]
      constructor
      · rintro ⟨i, x, h1, h2, h3, h4⟩; exact ⟨i, x, by simpa using h1, h2, by rw [h3]; congr 1; omega, h4⟩
      · rintro ⟨i, x, h1, h2, h3, h4⟩; exact ⟨i, x, by simpa using h1, h2, by rw [h3]; congr 1; omega, h4⟩
    have all : (∃ (i : Nat) (x : Rw), (r :: l)[i]? = some x ∧ x.code = c ∧ s.1 = ((j + i : Nat) : Int) ∧ ∃ u ∈ x.used, u.g = s.2) ↔ ((r.code = c ∧ s.1 = (j : Int) ∧ ∃ u ∈ r.used, u.g = s.2) ∨ s ∈ strs c l (j + 1)) := by
      rw [← tail]
      constructor
      · rintro ⟨i, x, h1, h2, h3, h4⟩
        rcases i with _ | i
        · have : r = x := by simpa using h1
          subst this
          exact .inl ⟨h2, by simpa using h3, h4⟩
        · exact .inr ⟨i, x, h1, h2, h3, h4⟩
      · rintro (⟨h2, h3, h4⟩ | ⟨i, x, h1, h2, h3, h4⟩)
        · exact ⟨0, r, by simp, h2, by simpa using h3, h4⟩
        · exact ⟨i + 1, x, h1, h2, h3, h4⟩
    rw [all, strs]
    by_cases hc : r.code = c
    · rw [if_pos hc, List.mem_append, List.mem_map]
      constructor
      · rintro (⟨u, hu, rfl⟩ | h)
        · exact .inl ⟨hc, rfl, u, hu, rfl⟩
        · exact .inr h
      · rintro (⟨_, h3, u, hu, h4⟩ | h)
        · exact .inl ⟨u, hu, by rw [h4, ← h3]⟩
        · exact .inr h
    · rw [if_neg hc]
      constructor
      · exact .inr
      · rintro (⟨h, _⟩ | h)
        · exact absurd h hc
        · exact h
theorem used_set : ∀ {rs : List Rw} {i : Nat} {x y : Rw}, rs[i]? = some x → used (rs.set i y) + x.used.length = used rs + y.used.length
  | r :: l, 0, x, y, h => by
    have : r = x := by simpa using h
    subst this
    rw [List.set_cons_zero, used, used]; omega
  | r :: l, i + 1, x, y, h => by
    have := used_set (rs := l) (i := i) (x := x) (y := y) (by simpa using h)
    rw [List.set_cons_succ, used, used]; omega
/-- what an allocation of a stripe brings -/
structure Got (code : Int) (rs rs' : List Rw) (i : Nat) (g : Int) : Prop where
  il : i < rs.length
  g0 : 0 ≤ g
  g6 : g < 64
  len : rs'.length = rs.length
  no : ((i : Int), g) ∉ strs code rs 0
  old : ∀ s, s ∈ strs code rs 0 → s ∈ strs code rs' 0
  nd : (strs code rs' 0).Nodup
  us : used rs' ≤ used rs + 1
theorem got_of {code wd : Int} {rs rs' : List Rw} {i : Nat} {g : Int} (hc : 0 ≤ code) (h : RalcOk rs code wd rs' i g) (ha : ∀ r ∈ rs, r.code = code → Asc 0 r.used) : Got code rs rs' i g := by
  rcases h with ⟨x, hx, hxc, hub, h0, h6, rfl⟩ | ⟨rfl, x, hx, hxc, rfl⟩
  · have hil := (List.getElem?_eq_some_iff.1 hx).1
    have hm := List.mem_of_getElem? hx
    refine ⟨hil, h0, h6, by simp, fun hh => ?_, fun s hs => ?_, strs_nodup fun r hr hrc => ?_, ?_⟩
    · obtain ⟨k, y, h1, h2, h3, u, hu, h4⟩ := strs_iff.1 hh
      have h3' : (i : Int) = ((0 + k : Nat) : Int) := h3
      obtain rfl : k = i := by omega
      rw [hx] at h1; cases h1
      exact uB_no hub u hu h4
    · obtain ⟨k, y, h1, h2, h3, u, hu, h4⟩ := strs_iff.1 hs
      by_cases hk : k = i
      · subst hk
        rw [hx] at h1; cases h1
        exact strs_iff.2 ⟨k, ⟨x.code, x.width, insU ⟨g, 0, 0⟩ x.used⟩, by rw [List.getElem?_set_self hil], h2, h3, u, insU_mem.2 (.inr hu), h4⟩
      · exact strs_iff.2 ⟨k, y, by rw [List.getElem?_set_ne (Ne.symm hk)]; exact h1, h2, h3, u, hu, h4⟩
    · rcases List.mem_or_eq_of_mem_set hr with hr | hr
      · exact ha r hr hrc
      · subst hr; exact asc_ins (ha x hm hxc) h0 (uB_no hub)
    · have := used_set (y := ⟨x.code, x.width, insU ⟨g, 0, 0⟩ x.used⟩) hx
      rw [show (⟨x.code, x.width, insU ⟨g, 0, 0⟩ x.used⟩ : Rw).used.length = x.used.length + 1 from insU_len _ _] at this
      omega
  · have hil := (List.getElem?_eq_some_iff.1 hx).1
    refine ⟨hil, Int.le_refl _, by omega, by simp, fun hh => ?_, fun s hs => ?_, strs_nodup fun r hr hrc => ?_, ?_⟩
    · obtain ⟨k, y, h1, h2, h3, u, hu, h4⟩ := strs_iff.1 hh
      have h3' : (i : Int) = ((0 + k : Nat) : Int) := h3
      obtain rfl : k = i := by omega
      rw [hx] at h1; cases h1
      omega
    · obtain ⟨k, y, h1, h2, h3, u, hu, h4⟩ := strs_iff.1 hs
      have hk : k ≠ i := fun e => by subst e; rw [hx] at h1; cases h1; omega
      exact strs_iff.2 ⟨k, y, by rw [List.getElem?_set_ne (Ne.symm hk)]; exact h1, h2, h3, u, hu, h4⟩
    · rcases List.mem_or_eq_of_mem_set hr with hr | hr
      · exact ha r hr hrc
      · subst hr; exact ⟨Int.le_refl _, trivial⟩
    · have := used_set (y := ⟨code, wd, [⟨0, 0, 0⟩]⟩) hx
      rw [show (⟨code, wd, [⟨0, 0, 0⟩]⟩ : Rw).used.length = 1 from rfl] at this
      omega
theorem valid_asc {cf : S.Str.Cfg} {rs : List Rw} (hv : S.Str.validB cf rs = true) {code : Int} (hc : 0 ≤ code) : ∀ r ∈ rs, r.code = code → Asc 0 r.used := fun r hr hrc => by
  rcases ((S.Str.validB_iff.1 hv).rows r hr).ok with h | ⟨_, _, _, _, _, h, _⟩
  · rw [h] at hrc
    have : (-1 : Int) = code := hrc
    omega
  · exact h
/-- the sum over the two stripes -/
def sumF (l : List Ck) (a b : St) : List St → Int
  | [] => 0
  | s :: ss => (if s = a ∨ s = b then cnt l s else 0) + sumF l a b ss
theorem sumF_snoc (l : List Ck) (a b s : St) : ∀ ss : List St, sumF l a b (ss ++ [s]) = sumF l a b ss + (if s = a ∨ s = b then cnt l s else 0)
  | [] => by simp [sumF]
  | x :: ss => by rw [List.cons_append, sumF, sumF, sumF_snoc l a b s ss]; omega
theorem sumF_ind (l : List Ck) {a b : St} (hab : a ≠ b) : ∀ {ss : List St}, ss.Nodup → sumF l a b ss = (if a ∈ ss then cnt l a else 0) + (if b ∈ ss then cnt l b else 0)
  | [], _ => by simp [sumF]
  | x :: ss, h => by
    rw [List.nodup_cons] at h
    rw [sumF, sumF_ind l hab h.2]
    by_cases ha : x = a
    · subst ha
      rw [if_pos (.inl rfl), if_neg h.1, if_pos (List.mem_cons_self)]
      have e : (b ∈ x :: ss) = (b ∈ ss) := by rw [List.mem_cons]; simp [Ne.symm hab]
      simp only [e]; omega
    · by_cases hb : x = b
      · subst hb
        rw [if_pos (.inr rfl), if_neg h.1, if_pos (List.mem_cons_self)]
        have e : (a ∈ x :: ss) = (a ∈ ss) := by rw [List.mem_cons]; simp [hab]
        simp only [e]; omega
      · rw [if_neg (by rintro (e | e); exact ha e; exact hb e)]
        have e1 : (a ∈ x :: ss) = (a ∈ ss) := by rw [List.mem_cons]; simp [Ne.symm ha]
        have e2 : (b ∈ x :: ss) = (b ∈ ss) := by rw [List.mem_cons]; simp [Ne.symm hb]
        simp only [e1, e2]; omega
theorem sumF_all (l : List Ck) {a b : St} (hab : a ≠ b) {ss : List St} (h : ss.Nodup) (ha : a ∈ ss) (hb : b ∈ ss) : sumF l a b ss = cnt l a + cnt l b := by rw [sumF_ind l hab h, if_pos ha, if_pos hb]
theorem sumF_bd (l : List Ck) (a b : St) : ∀ ss : List St, 0 ≤ sumF l a b ss ∧ sumF l a b ss ≤ 32 * (ss.length : Int)
  | [] => by simp [sumF]
  | s :: ss => by
    have ih := sumF_bd l a b ss
    have h1 := cnt_nonneg l s
    have h2 := cnt_le l s
    rw [sumF, List.length_cons]
    split <;> omega
def wantF (l : List Ck) (a b tg s : St) (sum : Int) : Int := if s = a ∨ s = b then 0 else if s = tg then sum else cnt l s
theorem want_is {l l' : List Ck} {a b tg : St} (hI : Inv l) (ha : a ≠ tg) (hb : b ≠ tg) {K : Nat} (hK : (both l a b).length = K) (h32 : K ≤ 32) (hm : Mvd l tg (both l a b) K l') (s : St) : cnt l' s = wantF l a b tg s (cnt l a + cnt l b) := by
  subst hK
  unfold wantF
  by_cases h1 : s = a
  · subst h1
    rw [if_pos (.inl rfl)]; exact cnt_nil (hm.gone ha fun id hid => List.mem_append.2 (.inl hid))
  · by_cases h2 : s = b
    · subst h2
      rw [if_pos (.inr rfl)]; exact cnt_nil (hm.gone hb fun id hid => List.mem_append.2 (.inr hid))
    · rw [if_neg (by rintro (e | e); exact h1 e; exact h2 e)]
      by_cases h3 : s = tg
      · subst h3
        rw [if_pos rfl, ← both_len]
        show (((Chk.live l' s.1 s.2).length : Nat) : Int) = _
        rw [hm.all h32]
      · rw [if_neg h3]
        unfold cnt
        rw [hm.same h3 (both_not hI h1 h2)]
theorem Mvd.at_ {l0 l : List Ck} {tg : St} {xs : List Int} {j : Nat} (hI : Inv l0) (h : Mvd l0 tg xs j l) (hd : xs.Nodup) (hu : ∀ id ∈ xs, ∃ v : Chk.Un, (v.r, v.g) ≠ tg ∧ Chk.unitAt l0 v = some id) (hj : j < xs.length) :
    ∃ k, Chk.pos (Chk.ids l) xs[j] = some k ∧ atOf l xs[j] = atOf l0 xs[j] := by
  obtain ⟨v, hv, hu0⟩ := hu xs[j] (List.getElem_mem hj)
  have hn : xs[j] ∉ xs.take j := fun hm => by
    obtain ⟨k, hk, e⟩ := List.getElem_of_mem hm
    rw [List.length_take] at hk
    rw [List.getElem_take] at e
    exact List.pairwise_iff_getElem.1 hd k j (by omega) hj (by omega) e
  have hu1 : Chk.unitAt l v = some xs[j] := by
    rw [h.el v hv, hu0]
    show (if xs[j] ∈ xs.take j then none else some xs[j]) = _
    rw [if_neg hn]
  have key : ∀ m : List Ck, Inv m → Chk.unitAt m v = some xs[j] → ∃ k, Chk.pos (Chk.ids m) xs[j] = some k ∧ atOf m xs[j] = v := fun m hm hh => by
    obtain ⟨k, c, h1, h2, h3, h4⟩ := (Chk.unitAt_some hm).1 hh
    have hp := pos_get hm h1
    rw [h4] at hp
    refine ⟨k, hp, ?_⟩
    unfold atOf
    rw [hp]
    show (Chk.nth m k).at_ = v
    have := Chk.nth_get (Chk.pos_lt hp).1
    rw [h1] at this
    rw [← Option.some.inj this]; exact h3
  obtain ⟨k, hk, ek⟩ := key l h.inv hu1
  obtain ⟨_, _, e0⟩ := key l0 hI hu0
  exact ⟨k, hk, ek.trans e0.symm⟩
end Col
end
end Go.Proofs.YtihhkcndcgljbaaGreat
