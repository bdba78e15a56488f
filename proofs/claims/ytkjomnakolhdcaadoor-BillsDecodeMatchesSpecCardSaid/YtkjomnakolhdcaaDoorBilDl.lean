/- Layer 35's Decode: the reference's list and digest. Conditions: the bytes lie before the reader's variable. -/
import Derived.Test.YtkjomnakolhdcaaDoorBilDp
import Derived.Test.YtkjomnakolhdcaaDoorBilDr
import Derived.BigQuiet
import Derived.Deep.QuietTactic
namespace Go.Proofs.YtkjomnakolhdcaaDoor
set_option linter.unusedVariables false
set_option linter.unusedSimpArgs false
open Go.RowKit
theorem RSt.lt {w : World} {br : Nat} {b : List UInt8} {e : Int} (h : RSt w br b e) : br < w.heap.size := by obtain ⟨A, n, c, h, _⟩ := h.row; exact h.lt
theorem RSt.cell1 {w : World} {br : Nat} {b : List UInt8} {e : Int} (h : RSt w br b e) : w.cell? ⟨br, 1, none⟩ = some (.int .i64 e) := by obtain ⟨A, n, c, h1, _⟩ := h.row; exact h1.cell 1
theorem RSt.frozen1 {w : World} {br : Nat} {b : List UInt8} {e : Int} (h : RSt w br b e) : w.frozen? ⟨br, 1, none⟩ = false := by obtain ⟨A, n, c, h1, _⟩ := h.row; exact h1.frozen 1
theorem RSt.fail {w : World} {br : Nat} {b : List UInt8} {e : Int} (h : RSt w br b e) (e' : Int) : RSt (w.setCell ⟨br, 1, none⟩ (.int .i64 e')) br b e' := by
  obtain ⟨A, n, c, h1, h2, h3, h4, h5, h6⟩ := h.row
  exact ⟨A, n, c, h1.set 1 _, h2, h3, h4, h5, rd_set h6 h1.lt⟩
/-- the reader's slice, and what a cut of it leaves -/
theorem RSt.slice {w : World} {br : Nat} {b : List UInt8} {e : Int} (h : RSt w br b e) {u : Nat} (hu : u ≤ b.length) : ∃ A n c A2 m c2, w.cell? ⟨br, 0, none⟩ = some (.slice A n c) ∧ w.frozen? ⟨br, 0, none⟩ = false ∧ b.length = n ∧
    (∀ V : World, (Instr.sliceAt 58 (.slice A n c) (some (.int .i64 (u : Int))) none none).run Tryd.prog V = .ok (.slice A2 m c2) V) ∧ (∀ W, Keep (fun q => q = br) w W → W.heap[br]? = w.heap[br]? → RSt (W.setCell ⟨br, 0, none⟩ (.slice A2 m c2)) br (b.drop u) e) := by
  obtain ⟨A, n, c, h1, h2, h3, h4, h5, h6⟩ := h.row
  have hun : u ≤ n := by omega
  have hdr : (bvs b).drop (u * 1) = bvs (b.drop u) := by rw [Nat.mul_one]; simp [bvs, List.map_drop]
  refine ⟨A, n, c, (if c = u then A else A.map (·.add (u * 1))), n - u, c - u, h1.cell 0, h1.frozen 0, h2, fun V => run_cutFrom (P := Tryd.prog) V bytesE A n c u .i64 hun, fun W hW hb => ?_⟩
  have hr : IsRow W br _ [.slice A n c, .int .i64 e] := h1.keep hb
  have rd := (h6.cut hun h3)
  rw [hdr] at rd
  have rdW : Rd W br 1 (if c = u then A else A.map (·.add (u * 1))) (n - u) (bvs (b.drop u)) := rd.keep fun p hp => World.cell?_of_block (hW.block p.block (by have := h1.lt; omega) (by omega))
  exact ⟨_, n - u, c - u, hr.set 0 _, by rw [List.length_drop, h2], by omega, by omega, by omega, rd_set rdW hr.lt⟩
/-- what the reference's list gives -/
def RLstRes (w : World) (br : Nat) (R : List Int × List UInt8 × Int) (r : Ending) (w' : World) : Prop := ∃ A c, r = .returned (.slice A R.1.length c) ∧ w'.ownsRow w.heap.size 3 1 (.slice A R.1.length c) R.1.length (ivs R.1) ∧ RSt w' br R.2.1 R.2.2 ∧ Keep (fun q => q = br) w w'
theorem rlist_err (br : Nat) (b : List UInt8) (e n : Int) (he : e ≠ 0) (f : Value) (w : World) (h : RSt w br b e) : Calls Tryd.prog 66 #[.pointer (some ⟨br, 0, none⟩), .int .i64 n, f] w fun r w' => r = .returned (.slice none 0 0) ∧ w' = w := by
  have n1 : (e != 0) = true := by rw [bne_iff_ne]; exact he
  have c1 : w.cell? ⟨br, 1, none⟩ = some (.int .i64 e) := h.cell1
  clear h he
  go_enter Tryd.func66, Tryd.ntmps66
  go_wp2_with fail
  go_ret
  exact ⟨rfl, rfl⟩
theorem lst_congr {b : List UInt8} {e : Int} {n : Nat} {f g : Nat → Int} (h : ∀ i, i < n → f i = g i) : Bil.lst b e n f = Bil.lst b e n g := by
  unfold Bil.lst
  have : (∀ i, i < n → 0 ≤ (Wire.decI b).1.getD i 0 ∧ (Wire.decI b).1.getD i 0 ≤ f i) ↔ (∀ i, i < n → 0 ≤ (Wire.decI b).1.getD i 0 ∧ (Wire.decI b).1.getD i 0 ≤ g i) := by
    constructor <;> intro h1 i hi <;> (have := h1 i hi; have := h i hi; omega)
  simp only [this]
set_option maxRecDepth 100000 in
set_option maxHeartbeats 1600000 in
theorem rlist_nil (br : Nat) (b : List UInt8) (e : Int) (n : Nat) (hn16 : n ≤ 16) (w : World) (h : RSt w br b e) :
    Calls Tryd.prog 66 #[.pointer (some ⟨br, 0, none⟩), .int .i64 (n : Int), .slice none 0 0] w (RLstRes w br (Bil.lst b e n (fun _ => 9223372036854775807))) := by
  by_cases he : e = 0
  · subst he
    obtain ⟨l, u, er, hd⟩ : ∃ x u e, Wire.decI b = (x, u, e) := ⟨_, _, _, rfl⟩
    obtain ⟨A, n0, c, hr, hn, hnc, hcm, hn40, hrd⟩ := h.row
    have c1 : w.cell? ⟨br, 1, none⟩ = some (.int .i64 0) := hr.cell 1
    have c0 : w.cell? ⟨br, 0, none⟩ = some (.slice A n0 c) := hr.cell 0
    obtain ⟨L, hL⟩ : ∃ L, l.length = L := ⟨_, rfl⟩
    have HG : Hid (Calls Tryd.prog 82 #[.slice A n0 c] w fun e w' => ∃ A' c', e = .returned (.tuple #[.slice A' L c', .int .i64 u, .int .i64 er]) ∧ w'.ownsRow w.heap.size 3 1 (.slice A' L c') L (ivs l) ∧ Below w.heap.size w w') := Lib.hid (by
      subst hn
      subst hL
      exact refGetInts_any A c b w (hrd.more (Nat.le_of_lt hr.lt)) hn40 hnc hcm l u er hd)
    obtain ⟨mx, hmx⟩ : ∃ f : Nat → Int, (fun _ => 9223372036854775807) = f := ⟨_, rfl⟩
    rw [hmx]
    have HMX : Hid (∀ i, (9223372036854775807 : Int) = mx i) := Lib.hid (fun i => by rw [← hmx])
    obtain ⟨R, hR⟩ : ∃ R, Bil.lst b 0 n mx = R := ⟨_, rfl⟩
    have hRd : R = if er = 0 then (if l.length = n ∧ ∀ i, i < n → 0 ≤ l.getD i 0 ∧ l.getD i 0 ≤ mx i then (l, b.drop u, 0) else ([], b, 6)) else ([], b, er) := by
      rw [← hR]; unfold Bil.lst; rw [if_pos rfl, hd]
    have HRD := Lib.hid hRd
    rw [hR]
    have HH := Lib.hid h
    have HLN := Lib.hid hL
    have HUL : Hid (er = 0 → u ≤ b.length ∧ ∀ z ∈ l, -9223372036854775808 ≤ z ∧ z ≤ 9223372036854775807) := Lib.hid (fun h0 => by subst h0; exact ⟨(Wire.decI_ok hd).1, (Wire.decI_ok hd).2.2.1⟩)
    have HL0 : Hid (er ≠ 0 → L = 0) := Lib.hid (fun h0 => by rw [← hL, (Wire.decI_err' hd h0).1]; rfl)
    have HN16 := Lib.hid hn16
    clear hr hn hnc hcm hn40 hrd h hd hR hRd hL hmx hn16
    by_cases hz : er = 0
    case neg =>
      obtain rfl : L = 0 := HL0.out hz
      have hne : (er != 0) = true := by rw [bne_iff_ne]; exact hz
      have hne2 : (er == 0) = false := by rw [beq_eq_false_iff_ne]; exact hz
      have HRR : Hid (R = ([], b, er)) := Lib.hid (by rw [HRD.out, if_neg hz])
      clear hz
      go_enter Tryd.func66, Tryd.ntmps66
      go_upto_region 7 with (go_at_call 82; refine HG.out.mono ?_; rintro r w2 ⟨A2, c2, rfl, own, b2⟩; have HO := Lib.hid b2; have HH2 := Lib.hid (HH.out.below b2); have c1 : w2.cell? ⟨br, 1, none⟩ = some (.int .i64 0) := HH2.out.cell1; have f1 : w2.frozen? ⟨br, 1, none⟩ = false := HH2.out.frozen1; clear own b2)
      go_loopw [9, 10] (fun u9 u10 wr => u9 = .int .i64 er ∧ u10 = .int .i64 0 ∧ w2 = wr) (fun _ _ _ => 0)
      case atStart => exact ⟨rfl, rfl, rfl⟩
      case round =>
        obtain ⟨rfl, rfl, rfl⟩ := hrel
        go_wp2_with fail
        go_ret
        rw [HRR.out]
        exact ⟨none, 0, rfl, World.ownsRow_nil _ _ _ _, HH2.out.fail er, (Keep.of_below HO.out).trans (keep_br _ _ _ _)⟩
    case pos =>
    subst hz
    by_cases hLn : L = n
    case neg =>
      have hne : ((L : Int) != (n : Int)) = true := by rw [bne_iff_ne]; omega
      have HRR : Hid (R = ([], b, 6)) := Lib.hid (by rw [HRD.out, if_pos (by trivial), if_neg (fun hh => hLn (HLN.out.symm.trans hh.1))])
      clear hLn
      go_enter Tryd.func66, Tryd.ntmps66
      go_upto_region 7 with (go_at_call 82; refine HG.out.mono ?_; rintro r w2 ⟨A2, c2, rfl, own, b2⟩; have HO := Lib.hid b2; have HH2 := Lib.hid (HH.out.below b2); have c1 : w2.cell? ⟨br, 1, none⟩ = some (.int .i64 0) := HH2.out.cell1; have f1 : w2.frozen? ⟨br, 1, none⟩ = false := HH2.out.frozen1; clear own b2)
      go_loopw [9, 10] (fun u9 u10 wr => u9 = .int .i64 6 ∧ u10 = .int .i64 0 ∧ w2 = wr) (fun _ _ _ => 0)
      case atStart => exact ⟨rfl, rfl, rfl⟩
      case round =>
        obtain ⟨rfl, rfl, rfl⟩ := hrel
        by_cases h0 : (0 : Int) < (L : Int)
        · go_wp2_with fail
          go_ret
          rw [HRR.out]
          exact ⟨none, 0, rfl, World.ownsRow_nil _ _ _ _, HH2.out.fail 6, (Keep.of_below HO.out).trans (keep_br _ _ _ _)⟩
        · go_wp2_with fail
          go_ret
          rw [HRR.out]
          exact ⟨none, 0, rfl, World.ownsRow_nil _ _ _ _, HH2.out.fail 6, (Keep.of_below HO.out).trans (keep_br _ _ _ _)⟩
    case pos =>
    subst hLn
    have hne : ((L : Int) != (L : Int)) = false := by simp
    go_enter Tryd.func66, Tryd.ntmps66
    go_upto_region 7 with (go_at_call 82; refine HG.out.mono ?_; rintro r w2 ⟨A2, c2, rfl, own, b2⟩; have HO := Lib.hid (And.intro own b2); have HH2 := Lib.hid (HH.out.below b2); clear own b2)
    clear hne c0 c1
    go_loopw [9, 10] (fun u9 u10 wr => ∃ (i : Nat) (e' : Int), i ≤ L ∧ u10 = .int .i64 (i : Int) ∧ u9 = .int .i64 e' ∧ Hid (Below w2.heap.size w2 wr) ∧ Hid ((e' = 0 ∧ ∀ j, j < i → 0 ≤ l.getD j 0 ∧ l.getD j 0 ≤ mx j) ∨ (e' = 6 ∧ ∃ j, j < L ∧ ¬ (0 ≤ l.getD j 0 ∧ l.getD j 0 ≤ mx j)))) (fun _ u10 _ => L - (intOf u10).toNat)
    case atStart => exact ⟨0, 0, by omega, rfl, rfl, Lib.hid (Below.refl _ _), Lib.hid (.inl ⟨rfl, fun j hj => absurd hj (Nat.not_lt_zero _)⟩)⟩
    case round =>
      obtain ⟨i, e', hi, rfl, rfl, HB, HC⟩ := hrel
      have hl16 := HN16.out
      rcases HC.out with ⟨rfl, hall⟩ | ⟨rfl, hbad⟩
      · by_cases hlt : i < L
        · obtain ⟨x, hx⟩ : ∃ x, l.getD i 0 = x := ⟨_, rfl⟩
          have hA : ∃ g, A2 = some ⟨g, 0, none⟩ := by obtain ⟨g, cap, hv, _, _⟩ := HO.out.1.form (by omega); injection hv with hA _ _; exact ⟨g, hA⟩
          obtain ⟨g, rfl⟩ := hA
          have hcx : wr.cell? ⟨g, i, none⟩ = some (.int .i64 x) := by
            have h1 := HO.out.1.cells (g := g) rfl i (.int .i64 x) (by rw [← hx]; simp [ivs, List.getElem?_map, List.getD, List.getElem?_eq_getElem (show i < l.length by rw [HLN.out]; exact hlt)])
            rw [Addr.add_lit, Nat.zero_add] at h1
            exact (HB.out.cell (p := ⟨g, i, none⟩) (show g < w2.heap.size from (HO.out.1.lt g rfl).2)).trans h1
          have i1 : (i : Int) < (L : Int) := by omega
          have HX := Lib.hid hx
          have HALL := Lib.hid hall
          obtain ⟨y, hy⟩ : ∃ y, mx i = y := ⟨_, rfl⟩
          have HY := Lib.hid hy
          have i2 : ¬ ((i : Int) < 0) := by omega
          have i3 : decide ((i : Int) < 0) = false := decide_eq_false i2
          have hxy0 : x ≤ y := by
            rw [← hy, ← HMX.out i]
            have h1 := (HUL.out (by trivial)).2 x (by rw [← hx]; simp [List.getD, List.getElem?_eq_getElem (show i < l.length by rw [HLN.out]; exact hlt)])
            omega
          clear hx hall hy
          by_cases hx0 : x < 0
          · have HQ : Hid (∃ j, j < L ∧ ¬ (0 ≤ l.getD j 0 ∧ l.getD j 0 ≤ mx j)) := Lib.hid ⟨i, hlt, fun h => by rw [HX.out] at h; omega⟩
            go_upto_region 9 with fail
            go_wp2_with fail
            go_quiet (fail)
            go_wp2_with fail
            go_roundw
            case rel => exact ⟨i + 1, 6, by omega, by go_num, rfl, Lib.hid (below_drewN HB.out _), Lib.hid (.inr ⟨rfl, HQ.out⟩)⟩
            case measure => simp [intOf]; omega
          · by_cases hxy : x ≤ y
            · have HQ : Hid (∀ j, j < i + 1 → 0 ≤ l.getD j 0 ∧ l.getD j 0 ≤ mx j) := Lib.hid (fun j hj => by
                by_cases hji : j = i
                · subst hji; rw [HX.out, HY.out]; omega
                · exact HALL.out j (by omega))
              have hd0 : decide (x < 0) = false := decide_eq_false hx0
              clear hx0
              clear hxy hxy0 i2
              go_upto_region 9 with fail
              go_wp2_with fail
              have HGL : Hid (g < wr.heap.size) := Lib.hid (Nat.lt_of_lt_of_le (HO.out.1.lt g rfl).2 HB.out.size)
              have hv0 : Below wr.heap.size wr wr.drew := (Below.refl _ _).drew
              refine wp_region_held_drew (S := fun W => Below wr.heap.size wr W) (by kernel_rfl) (hv0) (fun hHeld => ?_)
              obtain ⟨wd, hwd⟩ : ∃ x, wr.drew = x := ⟨_, rfl⟩
              rw [hwd] at hv0 hHeld  ⊢
              clear hwd
              refine wpAnyH_take (i := 0) (oi := { dst := some 43, op := Op.move (Operand.tmp 7), type := 29, pos := "ref.go:205", after := #[], guard := none }) (v := ?v0_901) rfl (by kernel_rfl) (by kernel_rfl) (by kernel_rfl) (fun _ _ _ h => h) (Or.inl ⟨by rfl, ?h0_901⟩) (by assumption) ?r0_901
              case h0_901 =>
                intro W hSW
                try dsimp only at hSW
                go_simp
                try with_reducible rfl
              try simp only [Act.put, List.setIfInBounds_toArray, List.set_cons_zero, List.set_cons_succ]
              refine wpAnyH_take (i := 1) (oi := { dst := some 44, op := Op.move (Operand.tmp 10), type := 3, pos := "ref.go:205", after := #[], guard := none }) (v := ?v1_902) rfl (by kernel_rfl) (by kernel_rfl) (by kernel_rfl) (fun _ _ _ h => h) (Or.inl ⟨by rfl, ?h1_902⟩) (by assumption) ?r1_902
              case h1_902 =>
                intro W hSW
                try dsimp only at hSW
                go_simp
                try with_reducible rfl
              try simp only [Act.put, List.setIfInBounds_toArray, List.set_cons_zero, List.set_cons_succ]
              refine wpAnyH_take (i := 2) (oi := { dst := some 45, op := Op.indexAddr 29 (Operand.tmp 43) (Operand.tmp 44), type := 0, pos := "ref.go:205", after := #[{ on := 0, ground := Ground.data }, { on := 1, ground := Ground.data }], guard := none }) (v := ?v2_903) rfl (by kernel_rfl) (by kernel_rfl) (by kernel_rfl) (fun _ _ _ h => h) (Or.inl ⟨by rfl, ?h2_903⟩) (by assumption) ?r2_903
              case h2_903 =>
                intro W hSW
                try dsimp only at hSW
                go_simp
                try with_reducible rfl
              try simp only [Act.put, List.setIfInBounds_toArray, List.set_cons_zero, List.set_cons_succ]
              refine wpAnyH_take (i := 3) (oi := { dst := some 46, op := Op.load 3 (Operand.tmp 45), type := 3, pos := "ref.go:205", after := #[{ on := 2, ground := Ground.data }], guard := none }) (v := ?v3_904) rfl (by kernel_rfl) (by kernel_rfl) (by kernel_rfl) (fun _ _ _ h => h) (Or.inl ⟨by rfl, ?h3_904⟩) (by assumption) ?r3_904
              case h3_904 =>
                intro W hSW
                try dsimp only at hSW
                have hcc := (hSW.cell (p := ⟨g, i, none⟩) HGL.out).trans hcx
                go_simp
                try with_reducible rfl
              try simp only [Act.put, List.setIfInBounds_toArray, List.set_cons_zero, List.set_cons_succ]
              refine wpAnyH_take (i := 4) (oi := { dst := some 47, op := Op.binOp BinOp.lss 3 (Operand.tmp 46) (Operand.const (Value.int IntKind.i64 0)) 3, type := 4, pos := "ref.go:205", after := #[{ on := 3, ground := Ground.data }], guard := none }) (v := ?v4_905) rfl (by kernel_rfl) (by kernel_rfl) (by kernel_rfl) (fun _ _ _ h => h) (Or.inl ⟨by rfl, ?h4_905⟩) (by assumption) ?r4_905
              case h4_905 =>
                intro W hSW
                try dsimp only at hSW
                go_simp
                try with_reducible rfl
              try simp only [Act.put, List.setIfInBounds_toArray, List.set_cons_zero, List.set_cons_succ]
              refine wpAnyH_take (i := 5) (oi := { dst := some 48, op := Op.move (Operand.tmp 47), type := 4, pos := "ref.go:205", after := #[{ on := 4, ground := Ground.data }], guard := none }) (v := ?v5_906) rfl (by kernel_rfl) (by kernel_rfl) (by kernel_rfl) (fun _ _ _ h => h) (Or.inl ⟨by rfl, ?h5_906⟩) (by assumption) ?r5_906
              case h5_906 =>
                intro W hSW
                try dsimp only at hSW
                go_simp
                try with_reducible rfl
              try simp only [Act.put, List.setIfInBounds_toArray, List.set_cons_zero, List.set_cons_succ]
              refine wpAnyH_take (i := 6) (oi := { dst := some 49, op := Op.move (Operand.tmp 10), type := 3, pos := "ref.go:205", after := #[{ on := 5, ground := Ground.guard }], guard := some (5, false) }) (v := ?v6_907) rfl (by kernel_rfl) (by kernel_rfl) (by kernel_rfl) (fun _ _ _ h => h) (Or.inl ⟨by rfl, ?h6_907⟩) (by assumption) ?r6_907
              case h6_907 =>
                intro W hSW
                try dsimp only at hSW
                go_simp
                try with_reducible rfl
              try simp only [Act.put, List.setIfInBounds_toArray, List.set_cons_zero, List.set_cons_succ]
              refine wpAnyH_take (i := 7) (oi := { dst := some 50, op := Op.move (Operand.tmp 2), type := 29, pos := "ref.go:205", after := #[{ on := 5, ground := Ground.guard }], guard := some (5, false) }) (v := ?v7_908) rfl (by kernel_rfl) (by kernel_rfl) (by kernel_rfl) (fun _ _ _ h => h) (Or.inl ⟨by rfl, ?h7_908⟩) (by assumption) ?r7_908
              case h7_908 =>
                intro W hSW
                try dsimp only at hSW
                go_simp
                try with_reducible rfl
              try simp only [Act.put, List.setIfInBounds_toArray, List.set_cons_zero, List.set_cons_succ]
              refine wpAnyH_take (i := 8) (oi := { dst := some 51, op := Op.call { callee := Callee.builtin Builtin.len, args := #[Operand.tmp 50], argTypes := #[29] }, type := 3, pos := "ref.go:205", after := #[{ on := 7, ground := Ground.data }, { on := 5, ground := Ground.guard }], guard := some (5, false) }) (v := ?v8_909) rfl (by kernel_rfl) (by kernel_rfl) (by kernel_rfl) (fun _ _ _ h => h) (Or.inl ⟨by rfl, ?h8_909⟩) (by assumption) ?r8_909
              case h8_909 =>
                intro W hSW
                try dsimp only at hSW
                go_simp
                try with_reducible rfl
              try simp only [Act.put, List.setIfInBounds_toArray, List.set_cons_zero, List.set_cons_succ]
              refine wpAnyH_take (i := 9) (oi := { dst := some 52, op := Op.binOp BinOp.lss 3 (Operand.tmp 49) (Operand.tmp 51) 3, type := 4, pos := "ref.go:205", after := #[{ on := 6, ground := Ground.data }, { on := 8, ground := Ground.data }, { on := 5, ground := Ground.guard }], guard := some (5, false) }) (v := ?v9_910) rfl (by kernel_rfl) (by kernel_rfl) (by kernel_rfl) (fun _ _ _ h => h) (Or.inl ⟨by rfl, ?h9_910⟩) (by assumption) ?r9_910
              case h9_910 =>
                intro W hSW
                try dsimp only at hSW
                go_simp
                try with_reducible rfl
              try simp only [Act.put, List.setIfInBounds_toArray, List.set_cons_zero, List.set_cons_succ]
              refine wpAnyH_take (i := 10) (oi := { dst := some 53, op := Op.move (Operand.tmp 52), type := 4, pos := "ref.go:205", after := #[{ on := 9, ground := Ground.data }, { on := 5, ground := Ground.chain }, { on := 5, ground := Ground.guard }], guard := some (5, false) }) (v := ?v10_911) rfl (by kernel_rfl) (by kernel_rfl) (by kernel_rfl) (fun _ _ _ h => h) (Or.inl ⟨by rfl, ?h10_911⟩) (by assumption) ?r10_911
              case h10_911 =>
                intro W hSW
                try dsimp only at hSW
                go_simp
                try with_reducible rfl
              try simp only [Act.put, List.setIfInBounds_toArray, List.set_cons_zero, List.set_cons_succ]
              refine wpAnyH_take (i := 11) (oi := { dst := some 54, op := Op.move (Operand.tmp 7), type := 29, pos := "ref.go:205", after := #[{ on := 10, ground := Ground.guard }], guard := some (10, true) }) (v := undef) rfl (by kernel_rfl) (by kernel_rfl) (by kernel_rfl) (fun _ _ _ h => h) (Or.inr ⟨by rfl, rfl⟩) (by assumption) ?_
              try simp only [Act.put, List.setIfInBounds_toArray, List.set_cons_zero, List.set_cons_succ]
              refine wpAnyH_take (i := 12) (oi := { dst := some 55, op := Op.move (Operand.tmp 10), type := 3, pos := "ref.go:205", after := #[{ on := 10, ground := Ground.guard }], guard := some (10, true) }) (v := undef) rfl (by kernel_rfl) (by kernel_rfl) (by kernel_rfl) (fun _ _ _ h => h) (Or.inr ⟨by rfl, rfl⟩) (by assumption) ?_
              try simp only [Act.put, List.setIfInBounds_toArray, List.set_cons_zero, List.set_cons_succ]
              refine wpAnyH_take (i := 13) (oi := { dst := some 56, op := Op.indexAddr 29 (Operand.tmp 54) (Operand.tmp 55), type := 0, pos := "ref.go:205", after := #[{ on := 11, ground := Ground.data }, { on := 12, ground := Ground.data }, { on := 10, ground := Ground.guard }], guard := some (10, true) }) (v := undef) rfl (by kernel_rfl) (by kernel_rfl) (by kernel_rfl) (fun _ _ _ h => h) (Or.inr ⟨by rfl, rfl⟩) (by assumption) ?_
              try simp only [Act.put, List.setIfInBounds_toArray, List.set_cons_zero, List.set_cons_succ]
              refine wpAnyH_take (i := 14) (oi := { dst := some 57, op := Op.load 3 (Operand.tmp 56), type := 3, pos := "ref.go:205", after := #[{ on := 13, ground := Ground.data }, { on := 10, ground := Ground.guard }], guard := some (10, true) }) (v := undef) rfl (by kernel_rfl) (by kernel_rfl) (by kernel_rfl) (fun _ _ _ h => h) (Or.inr ⟨by rfl, rfl⟩) (by assumption) ?_
              try simp only [Act.put, List.setIfInBounds_toArray, List.set_cons_zero, List.set_cons_succ]
              refine wpAnyH_take (i := 15) (oi := { dst := some 58, op := Op.move (Operand.tmp 2), type := 29, pos := "ref.go:205", after := #[{ on := 10, ground := Ground.guard }], guard := some (10, true) }) (v := undef) rfl (by kernel_rfl) (by kernel_rfl) (by kernel_rfl) (fun _ _ _ h => h) (Or.inr ⟨by rfl, rfl⟩) (by assumption) ?_
              try simp only [Act.put, List.setIfInBounds_toArray, List.set_cons_zero, List.set_cons_succ]
              refine wpAnyH_take (i := 16) (oi := { dst := some 59, op := Op.move (Operand.tmp 10), type := 3, pos := "ref.go:205", after := #[{ on := 10, ground := Ground.guard }], guard := some (10, true) }) (v := undef) rfl (by kernel_rfl) (by kernel_rfl) (by kernel_rfl) (fun _ _ _ h => h) (Or.inr ⟨by rfl, rfl⟩) (by assumption) ?_
              try simp only [Act.put, List.setIfInBounds_toArray, List.set_cons_zero, List.set_cons_succ]
              refine wpAnyH_take (i := 17) (oi := { dst := some 60, op := Op.indexAddr 29 (Operand.tmp 58) (Operand.tmp 59), type := 0, pos := "ref.go:205", after := #[{ on := 15, ground := Ground.data }, { on := 16, ground := Ground.data }, { on := 10, ground := Ground.guard }], guard := some (10, true) }) (v := undef) rfl (by kernel_rfl) (by kernel_rfl) (by kernel_rfl) (fun _ _ _ h => h) (Or.inr ⟨by rfl, rfl⟩) (by assumption) ?_
              try simp only [Act.put, List.setIfInBounds_toArray, List.set_cons_zero, List.set_cons_succ]
              refine wpAnyH_take (i := 18) (oi := { dst := some 61, op := Op.load 3 (Operand.tmp 60), type := 3, pos := "ref.go:205", after := #[{ on := 17, ground := Ground.data }, { on := 10, ground := Ground.guard }], guard := some (10, true) }) (v := undef) rfl (by kernel_rfl) (by kernel_rfl) (by kernel_rfl) (fun _ _ _ h => h) (Or.inr ⟨by rfl, rfl⟩) (by assumption) ?_
              try simp only [Act.put, List.setIfInBounds_toArray, List.set_cons_zero, List.set_cons_succ]
              refine wpAnyH_take (i := 19) (oi := { dst := some 62, op := Op.binOp BinOp.gtr 3 (Operand.tmp 57) (Operand.tmp 61) 3, type := 4, pos := "ref.go:205", after := #[{ on := 14, ground := Ground.data }, { on := 18, ground := Ground.data }, { on := 10, ground := Ground.guard }], guard := some (10, true) }) (v := undef) rfl (by kernel_rfl) (by kernel_rfl) (by kernel_rfl) (fun _ _ _ h => h) (Or.inr ⟨by rfl, rfl⟩) (by assumption) ?_
              try simp only [Act.put, List.setIfInBounds_toArray, List.set_cons_zero, List.set_cons_succ]
              refine wpAnyH_take (i := 20) (oi := { dst := some 63, op := Op.pick (Operand.tmp 53) (Operand.tmp 62) (Operand.const (Value.bool false)), type := 4, pos := "ref.go:205", after := #[{ on := 10, ground := Ground.data }, { on := 19, ground := Ground.data }, { on := 5, ground := Ground.guard }], guard := some (5, false) }) (v := ?v20_921) rfl (by kernel_rfl) (by kernel_rfl) (by kernel_rfl) (fun _ _ _ h => h) (Or.inl ⟨by rfl, ?h20_921⟩) (by assumption) ?r20_921
              case h20_921 =>
                intro W hSW
                try dsimp only at hSW
                go_simp
                try with_reducible rfl
              try simp only [Act.put, List.setIfInBounds_toArray, List.set_cons_zero, List.set_cons_succ]
              refine wpAnyH_take (i := 21) (oi := { dst := some 64, op := Op.pick (Operand.tmp 48) (Operand.const (Value.bool true)) (Operand.tmp 63), type := 4, pos := "ref.go:205", after := #[{ on := 5, ground := Ground.data }, { on := 20, ground := Ground.data }], guard := none }) (v := ?v21_922) rfl (by kernel_rfl) (by kernel_rfl) (by kernel_rfl) (fun _ _ _ h => h) (Or.inl ⟨by rfl, ?h21_922⟩) (by assumption) ?r21_922
              case h21_922 =>
                intro W hSW
                try dsimp only at hSW
                go_simp
                try with_reducible rfl
              try simp only [Act.put, List.setIfInBounds_toArray, List.set_cons_zero, List.set_cons_succ]
              refine wpAnyH_done (by kernel_rfl) ?_ _
              have HVF := Lib.hid (HB.out.trans (hv0.mono HB.out.size))
              clear hv0
              go_wp2_with fail
              go_roundw
              case rel => exact ⟨i + 1, 0, by omega, by go_num, rfl, Lib.hid (HVF.out), Lib.hid (.inl ⟨rfl, HQ.out⟩)⟩
              case measure => simp [intOf]; omega
            · exact absurd hxy0 hxy
        · obtain rfl : L = i := by omega
          have HRR : Hid (R = (l, b.drop u, 0)) := Lib.hid (by rw [HRD.out, if_pos (by trivial), if_pos ⟨HLN.out, hall⟩])
          have hs := (HH2.out.below HB.out)
          obtain ⟨A5, n5, c5, A6, m6, c6, q0, f0, hn5, hcut, hfin⟩ := hs.slice (HUL.out (by trivial)).1
          have q1 : wr.cell? ⟨br, 1, none⟩ = some (.int .i64 0) := hs.cell1
          have HFIN := Lib.hid (hfin wr (Keep.refl _ _) rfl)
          clear hs hn5 hfin hall
          go_wp2_with fail
          go_ret
          rw [HRR.out]
          refine ⟨A2, c2, by simp only [HLN.out]; rfl, ?_, HFIN.out, ((Keep.of_below HO.out.2).then_below HB.out).trans (keep_br _ _ _ _)⟩
          simp only [HLN.out]
          exact own_keepD (own_below HO.out.1 HB.out) (keep_br wr br 0 _) (fun q hq => by have := HH.out.lt; omega)
      · have HRR : Hid (R = ([], b, 6)) := Lib.hid (by
          rw [HRD.out, if_pos (by trivial), if_neg]
          rintro ⟨_, h2⟩
          obtain ⟨j, hj, hb⟩ := hbad
          exact hb (h2 j hj))
        have hs := (HH2.out.below HB.out)
        have c1 : wr.cell? ⟨br, 1, none⟩ = some (.int .i64 0) := hs.cell1
        have f1 : wr.frozen? ⟨br, 1, none⟩ = false := hs.frozen1
        have HFL := Lib.hid (hs.fail 6)
        clear hs hbad
        by_cases h0 : (i : Int) < (L : Int)
        · go_wp2_with fail
          go_ret
          rw [HRR.out]
          exact ⟨none, 0, rfl, World.ownsRow_nil _ _ _ _, HFL.out, ((Keep.of_below HO.out.2).then_below HB.out).trans (keep_br _ _ _ _)⟩
        · go_wp2_with fail
          go_ret
          rw [HRR.out]
          exact ⟨none, 0, rfl, World.ownsRow_nil _ _ _ _, HFL.out, ((Keep.of_below HO.out.2).then_below HB.out).trans (keep_br _ _ _ _)⟩
  · have e1 : Bil.lst b e n (fun _ => 9223372036854775807) = ([], b, e) := by unfold Bil.lst; rw [if_neg he]
    rw [e1]
    have HE := Lib.hid (rlist_err br b e (n : Int) he (.slice none 0 0) w h)
    have HH := Lib.hid h
    refine HE.out.mono ?_
    rintro r w' ⟨rfl, rfl⟩
    exact ⟨none, 0, rfl, World.ownsRow_nil _ _ _ _, HH.out, Keep.refl _ _⟩
set_option maxRecDepth 100000 in
set_option maxHeartbeats 1600000 in
theorem rlist_most (br : Nat) (b : List UInt8) (e : Int) (n : Nat) (hn16 : n ≤ 16) (Am : Option Addr) (cm : Nat) (M : List Int) (w : World) (h : RSt w br b e) (hM : M.length = n) (rm : Rd w w.heap.size 1 Am n (ivs M)) :
    Calls Tryd.prog 66 #[.pointer (some ⟨br, 0, none⟩), .int .i64 (n : Int), .slice Am n cm] w (RLstRes w br (Bil.lst b e n (fun i => M.getD i 0))) := by
  by_cases he : e = 0
  · subst he
    obtain ⟨l, u, er, hd⟩ : ∃ x u e, Wire.decI b = (x, u, e) := ⟨_, _, _, rfl⟩
    obtain ⟨A, n0, c, hr, hn, hnc, hcm, hn40, hrd⟩ := h.row
    have c1 : w.cell? ⟨br, 1, none⟩ = some (.int .i64 0) := hr.cell 1
    have c0 : w.cell? ⟨br, 0, none⟩ = some (.slice A n0 c) := hr.cell 0
    obtain ⟨L, hL⟩ : ∃ L, l.length = L := ⟨_, rfl⟩
    have HG : Hid (Calls Tryd.prog 82 #[.slice A n0 c] w fun e w' => ∃ A' c', e = .returned (.tuple #[.slice A' L c', .int .i64 u, .int .i64 er]) ∧ w'.ownsRow w.heap.size 3 1 (.slice A' L c') L (ivs l) ∧ Below w.heap.size w w') := Lib.hid (by
      subst hn
      subst hL
      exact refGetInts_any A c b w (hrd.more (Nat.le_of_lt hr.lt)) hn40 hnc hcm l u er hd)
    obtain ⟨mx, hmx⟩ : ∃ f : Nat → Int, (fun i => M.getD i 0) = f := ⟨_, rfl⟩
    rw [hmx]
    have HMX : Hid (∀ i, M.getD i 0 = mx i) := Lib.hid (fun i => by rw [← hmx])
    obtain ⟨R, hR⟩ : ∃ R, Bil.lst b 0 n mx = R := ⟨_, rfl⟩
    have hRd : R = if er = 0 then (if l.length = n ∧ ∀ i, i < n → 0 ≤ l.getD i 0 ∧ l.getD i 0 ≤ mx i then (l, b.drop u, 0) else ([], b, 6)) else ([], b, er) := by
      rw [← hR]; unfold Bil.lst; rw [if_pos rfl, hd]
    have HRD := Lib.hid hRd
    rw [hR]
    have HH := Lib.hid h
    have HLN := Lib.hid hL
    have HUL : Hid (er = 0 → u ≤ b.length ∧ ∀ z ∈ l, -9223372036854775808 ≤ z ∧ z ≤ 9223372036854775807) := Lib.hid (fun h0 => by subst h0; exact ⟨(Wire.decI_ok hd).1, (Wire.decI_ok hd).2.2.1⟩)
    have HL0 : Hid (er ≠ 0 → L = 0) := Lib.hid (fun h0 => by rw [← hL, (Wire.decI_err' hd h0).1]; rfl)
    have HN16 := Lib.hid hn16
    have HM := Lib.hid (And.intro hM rm)
    clear hM rm
    clear hr hn hnc hcm hn40 hrd h hd hR hRd hL hmx hn16
    by_cases hz : er = 0
    case neg =>
      obtain rfl : L = 0 := HL0.out hz
      have hne : (er != 0) = true := by rw [bne_iff_ne]; exact hz
      have hne2 : (er == 0) = false := by rw [beq_eq_false_iff_ne]; exact hz
      have HRR : Hid (R = ([], b, er)) := Lib.hid (by rw [HRD.out, if_neg hz])
      clear hz
      go_enter Tryd.func66, Tryd.ntmps66
      go_upto_region 7 with (go_at_call 82; refine HG.out.mono ?_; rintro r w2 ⟨A2, c2, rfl, own, b2⟩; have HO := Lib.hid b2; have HH2 := Lib.hid (HH.out.below b2); have c1 : w2.cell? ⟨br, 1, none⟩ = some (.int .i64 0) := HH2.out.cell1; have f1 : w2.frozen? ⟨br, 1, none⟩ = false := HH2.out.frozen1; clear own b2)
      go_loopw [9, 10] (fun u9 u10 wr => u9 = .int .i64 er ∧ u10 = .int .i64 0 ∧ w2 = wr) (fun _ _ _ => 0)
      case atStart => exact ⟨rfl, rfl, rfl⟩
      case round =>
        obtain ⟨rfl, rfl, rfl⟩ := hrel
        go_wp2_with fail
        go_ret
        rw [HRR.out]
        exact ⟨none, 0, rfl, World.ownsRow_nil _ _ _ _, HH2.out.fail er, (Keep.of_below HO.out).trans (keep_br _ _ _ _)⟩
    case pos =>
    subst hz
    by_cases hLn : L = n
    case neg =>
      have hne : ((L : Int) != (n : Int)) = true := by rw [bne_iff_ne]; omega
      have HRR : Hid (R = ([], b, 6)) := Lib.hid (by rw [HRD.out, if_pos (by trivial), if_neg (fun hh => hLn (HLN.out.symm.trans hh.1))])
      clear hLn
      go_enter Tryd.func66, Tryd.ntmps66
      go_upto_region 7 with (go_at_call 82; refine HG.out.mono ?_; rintro r w2 ⟨A2, c2, rfl, own, b2⟩; have HO := Lib.hid b2; have HH2 := Lib.hid (HH.out.below b2); have c1 : w2.cell? ⟨br, 1, none⟩ = some (.int .i64 0) := HH2.out.cell1; have f1 : w2.frozen? ⟨br, 1, none⟩ = false := HH2.out.frozen1; clear own b2)
      go_loopw [9, 10] (fun u9 u10 wr => u9 = .int .i64 6 ∧ u10 = .int .i64 0 ∧ w2 = wr) (fun _ _ _ => 0)
      case atStart => exact ⟨rfl, rfl, rfl⟩
      case round =>
        obtain ⟨rfl, rfl, rfl⟩ := hrel
        by_cases h0 : (0 : Int) < (L : Int)
        · go_wp2_with fail
          go_ret
          rw [HRR.out]
          exact ⟨none, 0, rfl, World.ownsRow_nil _ _ _ _, HH2.out.fail 6, (Keep.of_below HO.out).trans (keep_br _ _ _ _)⟩
        · go_wp2_with fail
          go_ret
          rw [HRR.out]
          exact ⟨none, 0, rfl, World.ownsRow_nil _ _ _ _, HH2.out.fail 6, (Keep.of_below HO.out).trans (keep_br _ _ _ _)⟩
    case pos =>
    subst hLn
    have hne : ((L : Int) != (L : Int)) = false := by simp
    go_enter Tryd.func66, Tryd.ntmps66
    go_upto_region 7 with (go_at_call 82; refine HG.out.mono ?_; rintro r w2 ⟨A2, c2, rfl, own, b2⟩; have HO := Lib.hid (And.intro own b2); have HH2 := Lib.hid (HH.out.below b2); clear own b2)
    clear hne c0 c1
    go_loopw [9, 10] (fun u9 u10 wr => ∃ (i : Nat) (e' : Int), i ≤ L ∧ u10 = .int .i64 (i : Int) ∧ u9 = .int .i64 e' ∧ Hid (Below w2.heap.size w2 wr) ∧ Hid ((e' = 0 ∧ ∀ j, j < i → 0 ≤ l.getD j 0 ∧ l.getD j 0 ≤ mx j) ∨ (e' = 6 ∧ ∃ j, j < L ∧ ¬ (0 ≤ l.getD j 0 ∧ l.getD j 0 ≤ mx j)))) (fun _ u10 _ => L - (intOf u10).toNat)
    case atStart => exact ⟨0, 0, by omega, rfl, rfl, Lib.hid (Below.refl _ _), Lib.hid (.inl ⟨rfl, fun j hj => absurd hj (Nat.not_lt_zero _)⟩)⟩
    case round =>
      obtain ⟨i, e', hi, rfl, rfl, HB, HC⟩ := hrel
      have hl16 := HN16.out
      rcases HC.out with ⟨rfl, hall⟩ | ⟨rfl, hbad⟩
      · by_cases hlt : i < L
        · obtain ⟨x, hx⟩ : ∃ x, l.getD i 0 = x := ⟨_, rfl⟩
          have hA : ∃ g, A2 = some ⟨g, 0, none⟩ := by obtain ⟨g, cap, hv, _, _⟩ := HO.out.1.form (by omega); injection hv with hA _ _; exact ⟨g, hA⟩
          obtain ⟨g, rfl⟩ := hA
          have hcx : wr.cell? ⟨g, i, none⟩ = some (.int .i64 x) := by
            have h1 := HO.out.1.cells (g := g) rfl i (.int .i64 x) (by rw [← hx]; simp [ivs, List.getElem?_map, List.getD, List.getElem?_eq_getElem (show i < l.length by rw [HLN.out]; exact hlt)])
            rw [Addr.add_lit, Nat.zero_add] at h1
            exact (HB.out.cell (p := ⟨g, i, none⟩) (show g < w2.heap.size from (HO.out.1.lt g rfl).2)).trans h1
          have i1 : (i : Int) < (L : Int) := by omega
          have HX := Lib.hid hx
          have HALL := Lib.hid hall
          obtain ⟨y, hy⟩ : ∃ y, mx i = y := ⟨_, rfl⟩
          have HY := Lib.hid hy
          obtain ⟨gm, om, hAm, hgm, hcm_⟩ := HM.out.2.2 (by omega)
          have hcy : wr.cell? ⟨gm, om + i, none⟩ = some (.int .i64 y) := by
            refine (HB.out.cell (p := ⟨gm, om + i, none⟩) (Nat.lt_of_lt_of_le hgm HO.out.2.size)).trans ((HO.out.2.cell (p := ⟨gm, om + i, none⟩) hgm).trans (hcm_ i _ ?_))
            rw [← hy, ← HMX.out i]
            simp [ivs, List.getElem?_map, List.getD, List.getElem?_eq_getElem (show i < M.length by rw [HM.out.1]; exact hlt)]
          clear hcm_ hgm
          subst hAm
          clear hx hall hy
          by_cases hx0 : x < 0
          · have HQ : Hid (∃ j, j < L ∧ ¬ (0 ≤ l.getD j 0 ∧ l.getD j 0 ≤ mx j)) := Lib.hid ⟨i, hlt, fun h => by rw [HX.out] at h; omega⟩
            go_upto_region 9 with fail
            go_wp2_with fail
            go_quiet (fail)
            go_wp2_with fail
            go_roundw
            case rel => exact ⟨i + 1, 6, by omega, by go_num, rfl, Lib.hid (below_drewN HB.out _), Lib.hid (.inr ⟨rfl, HQ.out⟩)⟩
            case measure => simp [intOf]; omega
          · by_cases hxy : x ≤ y
            · have HQ : Hid (∀ j, j < i + 1 → 0 ≤ l.getD j 0 ∧ l.getD j 0 ≤ mx j) := Lib.hid (fun j hj => by
                by_cases hji : j = i
                · subst hji; rw [HX.out, HY.out]; omega
                · exact HALL.out j (by omega))
              have hd0 : decide (x < 0) = false := decide_eq_false hx0
              clear hx0
              have hyx : ¬ (y < x) := by omega
              clear hxy
              go_upto_region 9 with fail
              go_wp2_with fail
              go_quiet (fail)
              go_wp2_with fail
              go_roundw
              case rel => exact ⟨i + 1, 0, by omega, by go_num, rfl, Lib.hid (below_drewN HB.out _), Lib.hid (.inl ⟨rfl, HQ.out⟩)⟩
              case measure => simp [intOf]; omega
            · have HQ : Hid (∃ j, j < L ∧ ¬ (0 ≤ l.getD j 0 ∧ l.getD j 0 ≤ mx j)) := Lib.hid ⟨i, hlt, fun h => by rw [HX.out, HY.out] at h; omega⟩
              have hyx : y < x := by omega
              clear hxy
              go_upto_region 9 with fail
              go_wp2_with fail
              go_quiet (fail)
              go_wp2_with fail
              go_roundw
              case rel => exact ⟨i + 1, 6, by omega, by go_num, rfl, Lib.hid (below_drewN HB.out _), Lib.hid (.inr ⟨rfl, HQ.out⟩)⟩
              case measure => simp [intOf]; omega
        · obtain rfl : L = i := by omega
          have HRR : Hid (R = (l, b.drop u, 0)) := Lib.hid (by rw [HRD.out, if_pos (by trivial), if_pos ⟨HLN.out, hall⟩])
          have hs := (HH2.out.below HB.out)
          obtain ⟨A5, n5, c5, A6, m6, c6, q0, f0, hn5, hcut, hfin⟩ := hs.slice (HUL.out (by trivial)).1
          have q1 : wr.cell? ⟨br, 1, none⟩ = some (.int .i64 0) := hs.cell1
          have HFIN := Lib.hid (hfin wr (Keep.refl _ _) rfl)
          clear hs hn5 hfin hall
          go_wp2_with fail
          go_ret
          rw [HRR.out]
          refine ⟨A2, c2, by simp only [HLN.out]; rfl, ?_, HFIN.out, ((Keep.of_below HO.out.2).then_below HB.out).trans (keep_br _ _ _ _)⟩
          simp only [HLN.out]
          exact own_keepD (own_below HO.out.1 HB.out) (keep_br wr br 0 _) (fun q hq => by have := HH.out.lt; omega)
      · have HRR : Hid (R = ([], b, 6)) := Lib.hid (by
          rw [HRD.out, if_pos (by trivial), if_neg]
          rintro ⟨_, h2⟩
          obtain ⟨j, hj, hb⟩ := hbad
          exact hb (h2 j hj))
        have hs := (HH2.out.below HB.out)
        have c1 : wr.cell? ⟨br, 1, none⟩ = some (.int .i64 0) := hs.cell1
        have f1 : wr.frozen? ⟨br, 1, none⟩ = false := hs.frozen1
        have HFL := Lib.hid (hs.fail 6)
        clear hs hbad
        by_cases h0 : (i : Int) < (L : Int)
        · go_wp2_with fail
          go_ret
          rw [HRR.out]
          exact ⟨none, 0, rfl, World.ownsRow_nil _ _ _ _, HFL.out, ((Keep.of_below HO.out.2).then_below HB.out).trans (keep_br _ _ _ _)⟩
        · go_wp2_with fail
          go_ret
          rw [HRR.out]
          exact ⟨none, 0, rfl, World.ownsRow_nil _ _ _ _, HFL.out, ((Keep.of_below HO.out.2).then_below HB.out).trans (keep_br _ _ _ _)⟩
  · have e1 : Bil.lst b e n (fun i => M.getD i 0) = ([], b, e) := by unfold Bil.lst; rw [if_neg he]
    rw [e1]
    have HE := Lib.hid (rlist_err br b e (n : Int) he (.slice Am n cm) w h)
    have HH := Lib.hid h
    refine HE.out.mono ?_
    rintro r w' ⟨rfl, rfl⟩
    exact ⟨none, 0, rfl, World.ownsRow_nil _ _ _ _, HH.out, Keep.refl _ _⟩
end Go.Proofs.YtkjomnakolhdcaaDoor
