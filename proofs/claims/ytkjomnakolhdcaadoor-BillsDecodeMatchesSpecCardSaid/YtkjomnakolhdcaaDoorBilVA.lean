/- Joined texts: BilV, BilV2. Conditions: as each part says. -/
import Derived.Test.YtkjomnakolhdcaaDoorHeld2
import Derived.Test.YtkjomnakolhdcaaDoorBilUA
import Derived.Test.YtkjomnakolhdcaaDoorBilZ
import Derived.Test.YtkjomnakolhdcaaDoorBilUC
import Derived.Test.YtkjomnakolhdcaaDoorBilF
import Derived.Test.YtkjomnakolhdcaaDoorBilRA
namespace Go.Proofs.YtkjomnakolhdcaaDoor
set_option linter.unusedVariables false
set_option linter.unusedSimpArgs false
/-! Layer 35's reference: Encode. Conditions: the ledger's numbers have 64 bits. -/
section
open Go.RowKit
abbrev oVA0 : Oper := { dst := some 11, op := Op.move (Operand.tmp 0), type := 25, pos := "law.go:34", after := #[], guard := none }
abbrev oVA1 : Oper := { dst := some 13, op := Op.move (Operand.tmp 1), type := 40, pos := "law.go:34", after := #[], guard := none }
abbrev oVA2 : Oper := { dst := some 14, op := Op.nilCheck (Operand.tmp 13), type := 0, pos := "law.go:34", after := #[{ on := 2, ground := Ground.data }], guard := none }
abbrev oVA3 : Oper := { dst := some 15, op := Op.fieldAddr 76 (Operand.tmp 14) 0, type := 0, pos := "law.go:34", after := #[{ on := 3, ground := Ground.data }], guard := none }
abbrev oVA4 : Oper := { dst := some 16, op := Op.load 3 (Operand.tmp 15), type := 3, pos := "law.go:34", after := #[{ on := 4, ground := Ground.data }], guard := none }
abbrev oVA5 : Oper := { dst := some 12, op := Op.call { callee := Callee.value (Operand.func 43), args := #[Operand.tmp 11], argTypes := #[25] }, type := 3, pos := "law.go:34", after := #[{ on := 0, ground := Ground.data }], guard := none }
abbrev oVA6 : Oper := { dst := some 17, op := Op.binOp BinOp.neq 3 (Operand.tmp 12) (Operand.tmp 16) 3, type := 4, pos := "law.go:34", after := #[{ on := 1, ground := Ground.data }, { on := 5, ground := Ground.data }], guard := none }
abbrev oVA7 : Oper := { dst := some 18, op := Op.move (Operand.tmp 17), type := 4, pos := "law.go:34", after := #[{ on := 6, ground := Ground.data }, { on := 1, ground := Ground.chain }], guard := none }
abbrev oVA8 : Oper := { dst := some 19, op := Op.move (Operand.tmp 0), type := 25, pos := "law.go:34", after := #[{ on := 7, ground := Ground.guard }], guard := some (7, false) }
abbrev oVA9 : Oper := { dst := some 21, op := Op.move (Operand.tmp 1), type := 40, pos := "law.go:34", after := #[{ on := 7, ground := Ground.guard }], guard := some (7, false) }
abbrev oVA10 : Oper := { dst := some 22, op := Op.nilCheck (Operand.tmp 21), type := 0, pos := "law.go:34", after := #[{ on := 10, ground := Ground.data }, { on := 7, ground := Ground.guard }], guard := some (7, false) }
abbrev oVA11 : Oper := { dst := some 23, op := Op.fieldAddr 76 (Operand.tmp 22) 1, type := 0, pos := "law.go:34", after := #[{ on := 11, ground := Ground.data }, { on := 7, ground := Ground.guard }], guard := some (7, false) }
abbrev oVA12 : Oper := { dst := some 24, op := Op.load 3 (Operand.tmp 23), type := 3, pos := "law.go:34", after := #[{ on := 12, ground := Ground.data }, { on := 7, ground := Ground.guard }], guard := some (7, false) }
abbrev oVA13 : Oper := { dst := some 20, op := Op.call { callee := Callee.value (Operand.func 14), args := #[Operand.tmp 19], argTypes := #[25] }, type := 3, pos := "law.go:34", after := #[{ on := 8, ground := Ground.data }, { on := 7, ground := Ground.chain }, { on := 7, ground := Ground.guard }], guard := some (7, false) }
abbrev oVA14 : Oper := { dst := some 25, op := Op.binOp BinOp.neq 3 (Operand.tmp 20) (Operand.tmp 24) 3, type := 4, pos := "law.go:34", after := #[{ on := 9, ground := Ground.data }, { on := 13, ground := Ground.data }, { on := 7, ground := Ground.guard }], guard := some (7, false) }
abbrev oVA15 : Oper := { dst := some 26, op := Op.pick (Operand.tmp 18) (Operand.const (Value.bool true)) (Operand.tmp 25), type := 4, pos := "law.go:34", after := #[{ on := 7, ground := Ground.data }, { on := 14, ground := Ground.data }], guard := none }
abbrev oVA16 : Oper := { dst := some 27, op := Op.move (Operand.tmp 26), type := 4, pos := "law.go:34", after := #[{ on := 15, ground := Ground.data }, { on := 9, ground := Ground.chain }], guard := none }
abbrev oVA17 : Oper := { dst := some 28, op := Op.move (Operand.tmp 0), type := 25, pos := "law.go:34", after := #[{ on := 16, ground := Ground.guard }], guard := some (16, false) }
abbrev oVA18 : Oper := { dst := some 30, op := Op.move (Operand.tmp 1), type := 40, pos := "law.go:34", after := #[{ on := 16, ground := Ground.guard }], guard := some (16, false) }
abbrev oVA19 : Oper := { dst := some 29, op := Op.call { callee := Callee.value (Operand.func 44), args := #[Operand.tmp 28], argTypes := #[25] }, type := 66, pos := "law.go:34", after := #[{ on := 17, ground := Ground.data }, { on := 16, ground := Ground.chain }, { on := 16, ground := Ground.guard }], guard := some (16, false) }
abbrev oVA20 : Oper := { dst := some 31, op := Op.call { callee := Callee.value (Operand.func 45), args := #[Operand.tmp 30], argTypes := #[40] }, type := 66, pos := "law.go:34", after := #[{ on := 19, ground := Ground.data }, { on := 18, ground := Ground.chain }, { on := 16, ground := Ground.guard }], guard := some (16, false) }
abbrev oVA21 : Oper := { dst := some 32, op := Op.binOp BinOp.neq 66 (Operand.tmp 29) (Operand.tmp 31) 66, type := 4, pos := "law.go:34", after := #[{ on := 18, ground := Ground.data }, { on := 20, ground := Ground.data }, { on := 16, ground := Ground.guard }], guard := some (16, false) }
abbrev oVA22 : Oper := { dst := some 33, op := Op.pick (Operand.tmp 27) (Operand.const (Value.bool true)) (Operand.tmp 32), type := 4, pos := "law.go:34", after := #[{ on := 16, ground := Ground.data }, { on := 21, ground := Ground.data }], guard := none }
abbrev oVA23 : Oper := { dst := some 34, op := Op.move (Operand.tmp 33), type := 4, pos := "law.go:34", after := #[{ on := 22, ground := Ground.data }, { on := 20, ground := Ground.chain }], guard := none }
abbrev oVA24 : Oper := { dst := some 35, op := Op.move (Operand.tmp 0), type := 25, pos := "law.go:34", after := #[{ on := 23, ground := Ground.guard }], guard := some (23, false) }
abbrev oVA25 : Oper := { dst := some 38, op := Op.move (Operand.tmp 1), type := 40, pos := "law.go:34", after := #[{ on := 23, ground := Ground.guard }], guard := some (23, false) }
abbrev oVA26 : Oper := { dst := some 36, op := Op.call { callee := Callee.value (Operand.func 26), args := #[Operand.tmp 35], argTypes := #[25] }, type := 58, pos := "law.go:34", after := #[{ on := 24, ground := Ground.data }, { on := 23, ground := Ground.chain }, { on := 23, ground := Ground.guard }], guard := some (23, false) }
abbrev oVA27 : Oper := { dst := some 37, op := Op.convert 58 9 (Operand.tmp 36), type := 9, pos := "law.go:34", after := #[{ on := 25, ground := Ground.data }, { on := 23, ground := Ground.guard }], guard := some (23, false) }
abbrev oVA28 : Oper := { dst := some 39, op := Op.call { callee := Callee.value (Operand.func 46), args := #[Operand.tmp 38], argTypes := #[40] }, type := 58, pos := "law.go:34", after := #[{ on := 27, ground := Ground.data }, { on := 25, ground := Ground.chain }, { on := 23, ground := Ground.guard }], guard := some (23, false) }
abbrev oVA29 : Oper := { dst := some 40, op := Op.convert 58 9 (Operand.tmp 39), type := 9, pos := "law.go:34", after := #[{ on := 28, ground := Ground.data }, { on := 23, ground := Ground.guard }], guard := some (23, false) }
abbrev oVA30 : Oper := { dst := some 41, op := Op.binOp BinOp.neq 9 (Operand.tmp 37) (Operand.tmp 40) 9, type := 4, pos := "law.go:34", after := #[{ on := 26, ground := Ground.data }, { on := 29, ground := Ground.data }, { on := 23, ground := Ground.guard }], guard := some (23, false) }
abbrev oVA31 : Oper := { dst := some 42, op := Op.pick (Operand.tmp 34) (Operand.const (Value.bool true)) (Operand.tmp 41), type := 4, pos := "law.go:34", after := #[{ on := 23, ground := Ground.data }, { on := 30, ground := Ground.data }], guard := none }
/-- what is encoded so far -/
def EncP (w wx : World) (acc : List UInt8) (b : Nat) (A : Option Addr) (n c : Nat) : Prop := wx.ownsRow w.heap.size 5 1 (.slice A n c) n (bvs acc) ∧ Below w.heap.size w wx ∧ n ≤ b
theorem EncP.next {w wx w2 : World} {acc new : List UInt8} {b b' : Nat} {A A2 : Option Addr} {n c c2 m : Nat} (h : EncP w wx acc b A n c) (hm : m ≤ b') (h2 : w2.ownsRow w.heap.size 5 1 (.slice A2 (n + m) c2) (n + m) (bvs acc ++ bvs new)) (hb : Below w.heap.size w w2) : EncP w w2 (acc ++ new) (b + b') A2 (n + m) c2 :=
  ⟨by rw [bvs_app]; exact h2, hb, by have := h.2.2; omega⟩
theorem refInts_row {w : World} {g c n : Nat} {l : List Int} (h : FRow w g n (fun t => l.getD t 0)) (hl : l.length = n) (hn : n ≤ 1000) (hi : I64s l) : Calls Tryd.prog 76 #[.slice (some ⟨g, 0, none⟩) n c] w fun e w' => ∃ A c, e = .returned (.slice A (Wire.encI l).length c) ∧
      w'.ownsRow w.heap.size 5 1 (.slice A (Wire.encI l).length c) (Wire.encI l).length (bvs (Wire.encI l)) ∧ Below w.heap.size w w' := by
  have hr := h.rd hl
  subst hl
  exact refInts_any (some ⟨g, 0, none⟩) c l (by omega) hi w hr
theorem renc_eq (l : Bil.Lg) (HX : List UInt8) (k : Nat) (hk : l.kept.length = k) (h : (((((([] : List UInt8) ++ Wire.enc (l.n : Int)) ++ Wire.enc (l.periods : Int)) ++ l.head) ++ Wire.encI l.pending) ++ Wire.encI l.paid) = HX) : HX ++ (l.kept.take k).flatMap Bil.encA = Bil.enc l := by
  rw [← hk, List.take_of_length_le (Nat.le_refl _), ← h]
  simp [Bil.enc, Bil.encH, List.append_assoc]
theorem mkstr_list (d : List UInt8) : (Mk.str d).data.toList = d := by first | rfl | simp [Mk.str]
theorem mkstr_size (d : List UInt8) : (Mk.str d).size = d.length := by first | rfl | (show (Mk.str d).data.size = _; simp [Mk.str])
set_option maxRecDepth 100000 in
set_option maxHeartbeats 16000000 in
theorem rencode_any (bl : Nat) (col : Nat → Nat) (m : RM) (l : Bil.Lg) (w : World) (h : RAt w bl col m l) (hp : I64s l.pending) (hq : I64s l.paid) (hk : Bil.KEnc l) :
    Calls Tryd.prog 46 #[.pointer (some ⟨bl, 0, none⟩)] w (EncRes w (Bil.enc l)) := by
  have HL := Lib.hid h
  have hrw := h.rcs
  have hn2 := h.n2
  have hper := h.per
  have HIN := Lib.hid (fun W => refInt_any (l.n : Int) (by omega) (by omega) W)
  have HIP := Lib.hid (fun W => refInt_any (l.periods : Int) (by omega) (by omega) W)
  have HTX := Lib.hid (fun W => refText_any l.head h.h16 W)
  have HPD := Lib.hid (fun W (hW : Below w.heap.size w W) => refInts_row (c := m.cp) (h.pend.below hW) h.lp (by omega) hp)
  have HPQ := Lib.hid (fun W (hW : Below w.heap.size w W) => refInts_row (c := m.cq) (h.paid.below hW) h.lq (by omega) hq)
  have HKE := Lib.hid hk
  have HRG : Hid (∀ W, Below w.heap.size w W → W.rangeAt bl 2 (bvs l.head)) := Lib.hid (fun W hW => fun j v hv => by rw [((h.below hW).row).cell]; exact RM.cells_head h.h16 j v hv)
  have HLE : Hid ((Wire.encI l.pending).length ≤ 200 ∧ (Wire.encI l.paid).length ≤ 200) := Lib.hid (by
    have e3 := encI_len l.pending
    have e4 := encI_len l.paid
    have e6 := h.lp
    have e7 := h.lq
    omega)
  obtain ⟨N, hN⟩ : ∃ x, l.n = x := ⟨_, rfl⟩
  obtain ⟨P, hP⟩ : ∃ x, l.periods = x := ⟨_, rfl⟩
  obtain ⟨Lk, hLk⟩ : ∃ x, m.ks.length = x := ⟨_, rfl⟩
  have HEQ := Lib.hid (And.intro hN (And.intro hP hLk))
  rw [hN] at HIN HPD HPQ hn2
  rw [hP] at HIP
  have HCL : Hid (∀ W, Below w.heap.size w W → W.cell? ⟨bl, 0, none⟩ = some (.int .i64 (N : Int)) ∧ W.cell? ⟨bl, 1, none⟩ = some (.int .i64 (P : Int)) ∧ W.cell? ⟨bl, 18, none⟩ = some (.slice (some ⟨m.bp, 0, none⟩) N m.cp) ∧ W.cell? ⟨bl, 19, none⟩ = some (.slice (some ⟨m.bq, 0, none⟩) N m.cq) ∧ W.cell? ⟨bl, 20, none⟩ = some (.slice m.A Lk m.c) ∧ W.cell? ⟨bl, 21, none⟩ = some (.slice m.G Lk m.d)) := Lib.hid (fun W hW => by
    have hrw := hrw.below' hW
    rw [hN, hP, hLk] at hrw
    exact ⟨hrw.cell 0, hrw.cell 1, (hrw.cell 18).trans (rcs_tail h.h16 N P m.bp m.cp m.bq m.cq _ _ 0), (hrw.cell 19).trans (rcs_tail h.h16 N P m.bp m.cp m.bq m.cq _ _ 1), (hrw.cell 20).trans (rcs_tail h.h16 N P m.bp m.cp m.bq m.cq _ _ 2), (hrw.cell 21).trans (rcs_tail h.h16 N P m.bp m.cp m.bq m.cq _ _ 3)⟩)
  have H16 := Lib.hid h.h16
  have hL16 : Lk ≤ 16 := by rw [← hLk]; exact h.len
  clear h hp hq hk hrw hper hN hP hLk
  go_enter Tryd.func46, Tryd.ntmps46
  go_upto_region 1 with fail
  go_cut [3] (fun u3 wx => ∃ A n c, u3 = .slice A n c ∧ Hid (EncP w wx (([] : List UInt8) ++ Wire.enc (N : Int)) (0 + 9) A n c))
  case first => as_aux_lemma =>
    obtain ⟨q0, _⟩ := HCL.out (w.alloc (.cells #[] 5)) ((Below.refl _ _).alloc (Nat.le_refl _) _)
    go_wp2_with (first
      | (go_at_call 35; refine (HIN.out _).mono ?_; rintro e wa ⟨Aa, ca, rfl, own1, b1⟩; have HO1 := Lib.hid (And.intro own1 b1); clear own1 b1)
      | (at_builtin; refine wpList_appR rfl (.tmp 5) (.tmp 10) 58 rfl w.heap.size 5 _ 1 1 bytesE (some ⟨w.heap.size, 0, none⟩) 0 0 (bvs ([] : List UInt8)) Aa _ ca (bvs (Wire.enc (N : Int))) rfl rfl (own_below (own_zero w _ 1 _ (Nat.le_refl _)) HO1.out.2) (Rd.of_own HO1.out.1) (bvs_one _) (((Below.refl _ _).alloc (Nat.le_refl _) _).trans (HO1.out.2.mono (by simp))) (by have := Wire.enc_length_le (N : Int); omega) (Nat.le_refl _) (by have := HO1.out.2.size; rw [alloc_size1] at this; omega) ?_; intro Ab cb wb own2 hb2; have HO2 := Lib.hid (And.intro own2 hb2); clear own2 hb2))
    go_meet
    exact ⟨Ab, _, cb, by first | rfl | simp, Lib.hid ⟨by have h1 := HO2.out.1; simp only [Nat.zero_add] at h1 ⊢; rw [bvs_app]; exact h1, HO2.out.2, by have := Wire.enc_length_le (N : Int); omega⟩⟩
  case rest =>
    obtain ⟨A1, n1, c1, rfl, HE1⟩ := hcut
    obtain ⟨w1, hw1⟩ : ∃ x, wc = x := ⟨_, rfl⟩
    try rw [hw1] at HE1 ⊢
    clear hw1
    go_upto_region 2 with fail
    go_cut [3] (fun u3 wx => ∃ A n c, u3 = .slice A n c ∧ Hid (EncP w wx ((([] : List UInt8) ++ Wire.enc (N : Int)) ++ Wire.enc (P : Int)) ((0 + 9) + 9) A n c))
    case first => as_aux_lemma =>
      obtain ⟨_, q1, q18, q19, _, _⟩ := HCL.out w1 HE1.out.2.1
      go_wp2_with (first
        | (go_at_call 35; refine (HIP.out _).mono ?_; rintro e wa ⟨Aa, ca, rfl, own1, b1⟩; have HO1 := Lib.hid (And.intro own1 b1); clear own1 b1)
        | (at_builtin; refine wpList_appR rfl (.tmp 12) (.tmp 17) 58 rfl w.heap.size 5 _ 1 1 bytesE A1 n1 c1 (bvs (([] : List UInt8) ++ Wire.enc (N : Int))) Aa _ ca (bvs (Wire.enc (P : Int))) rfl rfl (own_below HE1.out.1 HO1.out.2) (Rd.of_own HO1.out.1) (bvs_one _) (HE1.out.2.1.trans (HO1.out.2.mono HE1.out.2.1.size)) (by have := HE1.out.2.2; have := Wire.enc_length_le (P : Int); omega) (Nat.le_refl _) (Nat.le_trans HE1.out.2.1.size HO1.out.2.size) ?_; intro Ab cb wb own2 hb2; have HO2 := Lib.hid (And.intro own2 hb2); clear own2 hb2))
      go_meet
      exact ⟨Ab, _, cb, by first | rfl | simp, Lib.hid (EncP.next HE1.out (Wire.enc_length_le (P : Int)) HO2.out.1 HO2.out.2)⟩
    case rest =>
      obtain ⟨A2, n2, c2, rfl, HE2⟩ := hcut
      obtain ⟨w2, hw2⟩ : ∃ x, wc = x := ⟨_, rfl⟩
      try rw [hw2] at HE2 ⊢
      clear hw2
      go_upto_region 3 with fail
      go_cut [3] (fun u3 wx => ∃ A n c, u3 = .slice A n c ∧ Hid (EncP w wx (((([] : List UInt8) ++ Wire.enc (N : Int)) ++ Wire.enc (P : Int)) ++ l.head) (((0 + 9) + 9) + 16) A n c))
      case first => as_aux_lemma =>
        obtain ⟨_, q1, q18, q19, _, _⟩ := HCL.out w2 HE2.out.2.1
        go_wp2_with (first
          | (refine wpList_load_mid rfl _ (.tmp 22) rfl bl 2 rfl (bvs l.head) _ (HRG.out w2 HE2.out.2.1) Tryd.underlying66 rfl (by rw [bvs_len, H16.out]; exact size16) ?_)
          | (go_at_call 75; refine (HTX.out _).mono ?_; rintro e wa ⟨rfl, b1⟩; have HO1 := Lib.hid b1; clear b1)
          | (at_builtin; refine wpList_appS rfl (.tmp 19) (.tmp 24) 58 9 rfl Tryd.underlying9 w.heap.size 5 bytesE A2 n2 c2 (bvs ((([] : List UInt8) ++ Wire.enc (N : Int)) ++ Wire.enc (P : Int))) (Mk.str l.head) rfl rfl (own_below HE2.out.1 HO1.out) (HE2.out.2.1.trans (HO1.out.mono HE2.out.2.1.size)) (by have := HE2.out.2.2; have := H16.out; rw [mkstr_size, H16.out]; omega) (Nat.le_refl _) (Nat.le_trans HE2.out.2.1.size HO1.out.size) ?_; intro Ab cb wb own2 hb2; have HO2 := Lib.hid (And.intro own2 hb2); clear own2 hb2))
        go_meet
        exact ⟨Ab, _, cb, by first | rfl | simp, Lib.hid (EncP.next HE2.out (m := (Mk.str l.head).size) (by rw [mkstr_size, H16.out]; exact Nat.le_refl _) (by have h1 := HO2.out.1; rw [mkstr_list] at h1; exact h1) HO2.out.2)⟩
      case rest =>
        obtain ⟨A3, n3, c3, rfl, HE3⟩ := hcut
        obtain ⟨w3, hw3⟩ : ∃ x, wc = x := ⟨_, rfl⟩
        try rw [hw3] at HE3 ⊢
        clear hw3
        go_upto_region 4 with fail
        go_cut [3] (fun u3 wx => ∃ A n c, u3 = .slice A n c ∧ Hid (EncP w wx ((((([] : List UInt8) ++ Wire.enc (N : Int)) ++ Wire.enc (P : Int)) ++ l.head) ++ Wire.encI l.pending) ((((0 + 9) + 9) + 16) + 200) A n c))
        case first => as_aux_lemma =>
          obtain ⟨_, q1, q18, q19, _, _⟩ := HCL.out w3 HE3.out.2.1
          go_wp2_with (first
            | (go_at_call 76; refine (HPD.out w3 HE3.out.2.1).mono ?_; rintro e wa ⟨Aa, ca, rfl, own1, b1⟩; have HO1 := Lib.hid (And.intro own1 b1); clear own1 b1)
            | (at_builtin; refine wpList_appR rfl (.tmp 26) (.tmp 31) 58 rfl w.heap.size 5 _ 1 1 bytesE A3 n3 c3 (bvs (((([] : List UInt8) ++ Wire.enc (N : Int)) ++ Wire.enc (P : Int)) ++ l.head)) Aa _ ca (bvs (Wire.encI l.pending)) rfl rfl (own_below HE3.out.1 HO1.out.2) (Rd.of_own HO1.out.1) (bvs_one _) (HE3.out.2.1.trans (HO1.out.2.mono HE3.out.2.1.size)) (by have := HE3.out.2.2; have := HLE.out.1; omega) (Nat.le_refl _) (Nat.le_trans HE3.out.2.1.size HO1.out.2.size) ?_; intro Ab cb wb own2 hb2; have HO2 := Lib.hid (And.intro own2 hb2); clear own2 hb2))
          go_meet
          exact ⟨Ab, _, cb, by first | rfl | simp, Lib.hid (EncP.next HE3.out (HLE.out.1) HO2.out.1 HO2.out.2)⟩
        case rest =>
          obtain ⟨A4, n4, c4, rfl, HE4⟩ := hcut
          obtain ⟨w4, hw4⟩ : ∃ x, wc = x := ⟨_, rfl⟩
          try rw [hw4] at HE4 ⊢
          clear hw4
          go_upto_region 5 with fail
          go_cut [3] (fun u3 wx => ∃ A n c, u3 = .slice A n c ∧ Hid (EncP w wx (((((([] : List UInt8) ++ Wire.enc (N : Int)) ++ Wire.enc (P : Int)) ++ l.head) ++ Wire.encI l.pending) ++ Wire.encI l.paid) (((((0 + 9) + 9) + 16) + 200) + 200) A n c))
          case first => as_aux_lemma =>
            obtain ⟨_, q1, q18, q19, _, _⟩ := HCL.out w4 HE4.out.2.1
            go_wp2_with (first
              | (go_at_call 76; refine (HPQ.out w4 HE4.out.2.1).mono ?_; rintro e wa ⟨Aa, ca, rfl, own1, b1⟩; have HO1 := Lib.hid (And.intro own1 b1); clear own1 b1)
              | (at_builtin; refine wpList_appR rfl (.tmp 33) (.tmp 38) 58 rfl w.heap.size 5 _ 1 1 bytesE A4 n4 c4 (bvs ((((([] : List UInt8) ++ Wire.enc (N : Int)) ++ Wire.enc (P : Int)) ++ l.head) ++ Wire.encI l.pending)) Aa _ ca (bvs (Wire.encI l.paid)) rfl rfl (own_below HE4.out.1 HO1.out.2) (Rd.of_own HO1.out.1) (bvs_one _) (HE4.out.2.1.trans (HO1.out.2.mono HE4.out.2.1.size)) (by have := HE4.out.2.2; have := HLE.out.2; omega) (Nat.le_refl _) (Nat.le_trans HE4.out.2.1.size HO1.out.2.size) ?_; intro Ab cb wb own2 hb2; have HO2 := Lib.hid (And.intro own2 hb2); clear own2 hb2))
            go_meet
            exact ⟨Ab, _, cb, by first | rfl | simp, Lib.hid (EncP.next HE4.out (HLE.out.2) HO2.out.1 HO2.out.2)⟩
          case rest =>
            obtain ⟨A5, n5, c5, rfl, HE5⟩ := hcut
            obtain ⟨w5, hw5⟩ : ∃ x, wc = x := ⟨_, rfl⟩
            try rw [hw5] at HE5 ⊢
            clear hw5
            obtain ⟨HX, hHX⟩ : ∃ x, (((((([] : List UInt8) ++ Wire.enc (N : Int)) ++ Wire.enc (P : Int)) ++ l.head) ++ Wire.encI l.pending) ++ Wire.encI l.paid) = x := ⟨_, rfl⟩
            rw [hHX] at HE5
            have HHX := Lib.hid hHX
            have c20 := (HCL.out w5 HE5.out.2.1).2.2.2.2.1
            clear hHX
            go_wp2_with fail
            go_loopw [3, 4] (fun u3 u4 wr => ∃ k : Nat, k ≤ Lk ∧ u4 = .int .i64 k ∧ ∃ A n c, u3 = .slice A n c ∧ Hid (EncP w wr (HX ++ (l.kept.take k).flatMap Bil.encA) (434 + 618 * k) A n c)) (fun _ u4 _ => Lk - (intOf u4).toNat)
            case atStart => exact ⟨0, Nat.zero_le _, rfl, A5, n5, c5, rfl, by simpa using HE5⟩
            case round =>
              obtain ⟨k, hk, rfl, A6, n6, c6, rfl, HE6⟩ := hrel
              obtain ⟨w6, hw6⟩ : ∃ x, wr = x := ⟨_, rfl⟩
              try rw [hw6] at HE6 ⊢
              clear hw6 c20 HE5
              have c20 := (HCL.out w6 HE6.out.2.1).2.2.2.2.1
              by_cases hlt : k < Lk
              · have hkm : k < m.ks.length := by rw [HEQ.out.2.2]; exact hlt
                obtain ⟨gK, oK, hK, _, kform⟩ := HL.out.krow.form (by rw [List.length_map]; omega)
                obtain ⟨gG, oG, hG, _, gform⟩ := HL.out.grow.form (by rw [List.length_map]; omega)
                have hck := kform k (by rw [List.length_map]; exact hkm)
                rw [List.getElem_map] at hck
                have hcg := gform k (by rw [List.length_map]; exact hkm) 0 (.slice (some ⟨(m.ks[k]'hkm).bg, 0, none⟩) l.n (m.ks[k]'hkm).cg) (by rw [List.getElem_map]; rfl)
                have hkat := HL.out.kat _ (List.getElem_mem hkm)
                have hgl : gG < w.heap.size := HL.out.grow.lt hG
                have hkl : gK < w.heap.size := HL.out.krow.lt hK
                have hkk : k < l.kept.length := by rw [HL.out.klen]; exact hkm
                have hke : l.kept[k] = (m.ks[k]'hkm).a := by
                  have := HL.out.acc hkm
                  unfold Bil.accAt at this
                  simpa [List.getD, hkk] using this
                have htk : l.kept.take (k + 1) = l.kept.take k ++ [(m.ks[k]'hkm).a] := by rw [List.take_succ_eq_append_getElem hkk, hke]
                have hae := HKE.out _ (List.getElem_mem hkk)
                rw [hke] at hae
                obtain ⟨ka, hka⟩ : ∃ x, m.ks[k]'hkm = x := ⟨_, rfl⟩
                rw [hka] at hck hcg hkat htk hae
                rw [HEQ.out.1] at hck hcg hkat
                have HCK : Hid (∀ W, Below w.heap.size w W → W.cell? ⟨bl, 20, none⟩ = some (.slice (some ⟨gK, oK, none⟩) Lk m.c) ∧ W.cell? ⟨bl, 21, none⟩ = some (.slice (some ⟨gG, oG, none⟩) Lk m.d) ∧ W.cell? ⟨gK, oK + k * 6 + 1, none⟩ = some (.int .i64 ka.a.bill.media) ∧ W.cell? ⟨gK, oK + k * 6 + 2, none⟩ = some (.int .i64 ka.a.bill.house) ∧ W.cell? ⟨gK, oK + k * 6 + 3, none⟩ = some (.slice (some ⟨ka.bc, 0, none⟩) N ka.cc) ∧ W.cell? ⟨gK, oK + k * 6 + 4, none⟩ = some (.slice (some ⟨ka.br, 0, none⟩) N ka.cr) ∧ W.cell? ⟨gG, oG + k, none⟩ = some (.slice (some ⟨ka.bg, 0, none⟩) N ka.cg)) := Lib.hid (fun W hW => by
                  have hq := HCL.out W hW
                  rw [hK, hG] at hq
                  exact ⟨hq.2.2.2.2.1, hq.2.2.2.2.2, (hW.cell (p := ⟨gK, oK + k * 6 + 1, none⟩) hkl).trans (hck 1 _ rfl), (hW.cell (p := ⟨gK, oK + k * 6 + 2, none⟩) hkl).trans (hck 2 _ rfl), (hW.cell (p := ⟨gK, oK + k * 6 + 3, none⟩) hkl).trans (hck 3 _ rfl), (hW.cell (p := ⟨gK, oK + k * 6 + 4, none⟩) hkl).trans (hck 4 _ rfl), (hW.cell (p := ⟨gG, oG + k, none⟩) hgl).trans (by simpa using hcg)⟩)
                have HKA := Lib.hid hkat
                have HAE := Lib.hid hae
                have HTK := Lib.hid htk
                have HBK : Hid ((Wire.encI ka.a.bill.charges).length ≤ 200 ∧ (Wire.encI ka.a.bill.credits).length ≤ 200 ∧ (Wire.encI ka.a.granted).length ≤ 200) := Lib.hid (by
                  have e1 := encI_len ka.a.bill.charges
                  have e2 := encI_len ka.a.bill.credits
                  have e3 := encI_len ka.a.granted
                  have f1 := hkat.lc
                  have f2 := hkat.lr
                  have f3 := hkat.lg
                  omega)
                have HC1 := Lib.hid (fun W (hW : Below w.heap.size w W) => refInts_row (c := ka.cc) (hkat.c.below hW) hkat.lc (by omega) hae.c)
                have HC2 := Lib.hid (fun W (hW : Below w.heap.size w W) => refInts_row (c := ka.cr) (hkat.r.below hW) hkat.lr (by omega) hae.r)
                have HC3 := Lib.hid (fun W (hW : Below w.heap.size w W) => refInts_row (c := ka.cg) (hkat.g.below hW) hkat.lg (by omega) hae.g)
                have i0 : (0 : Int) ≤ (k : Int) := by omega
                have i1 : (k : Int) < (Lk : Int) := by omega
                have HLT := Lib.hid hlt
                clear c20
                have c20 : w6.cell? ⟨bl, 20, none⟩ = some (.slice (some ⟨gK, oK, none⟩) Lk m.c) := (HCK.out w6 HE6.out.2.1).1
                obtain ⟨HK, hHK⟩ : ∃ x, HX ++ (l.kept.take k).flatMap Bil.encA = x := ⟨_, rfl⟩
                rw [hHK] at HE6
                have HHK := Lib.hid hHK
                obtain ⟨bk, hbk⟩ : ∃ x, 434 + 618 * k = x := ⟨_, rfl⟩
                rw [hbk] at HE6
                have HBB : Hid (434 + 618 * k = bk ∧ bk ≤ 20000) := Lib.hid ⟨hbk, by omega⟩
                clear hkm hK kform hG gform hck hcg hkat hgl hkl hkk hke htk hae hka hHK hbk
                go_upto_region 9 with fail
                go_cut [3] (fun u3 wx => ∃ A n c, u3 = .slice A n c ∧ Hid (EncP w wx (HK ++ Wire.enc ka.a.bill.media) (bk + 9) A n c))
                case first => as_aux_lemma =>
                  obtain ⟨q20, q21, qa, qb, qc, qd, qe⟩ := HCK.out w6 HE6.out.2.1
                  have hbb := HBB.out.2
                  go_wp2_with (first
                    | (go_at_call 35; refine (refInt_any ka.a.bill.media HAE.out.md.1 HAE.out.md.2 _).mono ?_; rintro e wa ⟨Aa, ca, rfl, own1, b1⟩; have HO1 := Lib.hid (And.intro own1 b1); clear own1 b1)
                    | (at_builtin; refine wpList_appR rfl (.tmp 49) (.tmp 58) 58 rfl w.heap.size 5 _ 1 1 bytesE A6 n6 c6 (bvs HK) Aa _ ca (bvs (Wire.enc ka.a.bill.media)) rfl rfl (own_below HE6.out.1 HO1.out.2) (Rd.of_own HO1.out.1) (bvs_one _) (HE6.out.2.1.trans (HO1.out.2.mono HE6.out.2.1.size)) (by have := HE6.out.2.2; have := Wire.enc_length_le ka.a.bill.media; omega) (Nat.le_refl _) (Nat.le_trans HE6.out.2.1.size HO1.out.2.size) ?_; intro Ab cb wb own2 hb2; have HO2 := Lib.hid (And.intro own2 hb2); clear own2 hb2))
                  go_meet
                  exact ⟨Ab, _, cb, by first | rfl | simp, Lib.hid (EncP.next HE6.out (Wire.enc_length_le ka.a.bill.media) HO2.out.1 HO2.out.2)⟩
                case rest =>
                  obtain ⟨A7, n7, c7, rfl, HE7⟩ := hcut
                  obtain ⟨w7, hw7⟩ : ∃ x, wc = x := ⟨_, rfl⟩
                  try rw [hw7] at HE7 ⊢
                  clear hw7
                  go_upto_region 10 with fail
                  go_cut [3] (fun u3 wx => ∃ A n c, u3 = .slice A n c ∧ Hid (EncP w wx ((HK ++ Wire.enc ka.a.bill.media) ++ Wire.enc ka.a.bill.house) ((bk + 9) + 9) A n c))
                  case first => as_aux_lemma =>
                    obtain ⟨q20, q21, qa, qb, qc, qd, qe⟩ := HCK.out w7 HE7.out.2.1
                    have hbb := HBB.out.2
                    go_wp2_with (first
                      | (go_at_call 35; refine (refInt_any ka.a.bill.house HAE.out.hs.1 HAE.out.hs.2 _).mono ?_; rintro e wa ⟨Aa, ca, rfl, own1, b1⟩; have HO1 := Lib.hid (And.intro own1 b1); clear own1 b1)
                      | (at_builtin; refine wpList_appR rfl (.tmp 60) (.tmp 69) 58 rfl w.heap.size 5 _ 1 1 bytesE A7 n7 c7 (bvs (HK ++ Wire.enc ka.a.bill.media)) Aa _ ca (bvs (Wire.enc ka.a.bill.house)) rfl rfl (own_below HE7.out.1 HO1.out.2) (Rd.of_own HO1.out.1) (bvs_one _) (HE7.out.2.1.trans (HO1.out.2.mono HE7.out.2.1.size)) (by have := HE7.out.2.2; have := Wire.enc_length_le ka.a.bill.house; omega) (Nat.le_refl _) (Nat.le_trans HE7.out.2.1.size HO1.out.2.size) ?_; intro Ab cb wb own2 hb2; have HO2 := Lib.hid (And.intro own2 hb2); clear own2 hb2))
                    go_meet
                    exact ⟨Ab, _, cb, by first | rfl | simp, Lib.hid (EncP.next HE7.out (Wire.enc_length_le ka.a.bill.house) HO2.out.1 HO2.out.2)⟩
                  case rest =>
                    obtain ⟨A8, n8, c8, rfl, HE8⟩ := hcut
                    obtain ⟨w8, hw8⟩ : ∃ x, wc = x := ⟨_, rfl⟩
                    try rw [hw8] at HE8 ⊢
                    clear hw8
                    go_upto_region 11 with fail
                    go_cut [3] (fun u3 wx => ∃ A n c, u3 = .slice A n c ∧ Hid (EncP w wx (((HK ++ Wire.enc ka.a.bill.media) ++ Wire.enc ka.a.bill.house) ++ Wire.encI ka.a.bill.charges) (((bk + 9) + 9) + 200) A n c))
                    case first => as_aux_lemma =>
                      obtain ⟨q20, q21, qa, qb, qc, qd, qe⟩ := HCK.out w8 HE8.out.2.1
                      have hbb := HBB.out.2
                      go_wp2_with (first
                        | (go_at_call 76; refine (HC1.out w8 HE8.out.2.1).mono ?_; rintro e wa ⟨Aa, ca, rfl, own1, b1⟩; have HO1 := Lib.hid (And.intro own1 b1); clear own1 b1)
                        | (at_builtin; refine wpList_appR rfl (.tmp 71) (.tmp 80) 58 rfl w.heap.size 5 _ 1 1 bytesE A8 n8 c8 (bvs ((HK ++ Wire.enc ka.a.bill.media) ++ Wire.enc ka.a.bill.house)) Aa _ ca (bvs (Wire.encI ka.a.bill.charges)) rfl rfl (own_below HE8.out.1 HO1.out.2) (Rd.of_own HO1.out.1) (bvs_one _) (HE8.out.2.1.trans (HO1.out.2.mono HE8.out.2.1.size)) (by have := HE8.out.2.2; have := HBK.out.1; omega) (Nat.le_refl _) (Nat.le_trans HE8.out.2.1.size HO1.out.2.size) ?_; intro Ab cb wb own2 hb2; have HO2 := Lib.hid (And.intro own2 hb2); clear own2 hb2))
                      go_meet
                      exact ⟨Ab, _, cb, by first | rfl | simp, Lib.hid (EncP.next HE8.out (HBK.out.1) HO2.out.1 HO2.out.2)⟩
                    case rest =>
                      obtain ⟨A9, n9, c9, rfl, HE9⟩ := hcut
                      obtain ⟨w9, hw9⟩ : ∃ x, wc = x := ⟨_, rfl⟩
                      try rw [hw9] at HE9 ⊢
                      clear hw9
                      go_upto_region 12 with fail
                      go_cut [3] (fun u3 wx => ∃ A n c, u3 = .slice A n c ∧ Hid (EncP w wx ((((HK ++ Wire.enc ka.a.bill.media) ++ Wire.enc ka.a.bill.house) ++ Wire.encI ka.a.bill.charges) ++ Wire.encI ka.a.bill.credits) ((((bk + 9) + 9) + 200) + 200) A n c))
                      case first => as_aux_lemma =>
                        obtain ⟨q20, q21, qa, qb, qc, qd, qe⟩ := HCK.out w9 HE9.out.2.1
                        have hbb := HBB.out.2
                        go_wp2_with (first
                          | (go_at_call 76; refine (HC2.out w9 HE9.out.2.1).mono ?_; rintro e wa ⟨Aa, ca, rfl, own1, b1⟩; have HO1 := Lib.hid (And.intro own1 b1); clear own1 b1)
                          | (at_builtin; refine wpList_appR rfl (.tmp 82) (.tmp 91) 58 rfl w.heap.size 5 _ 1 1 bytesE A9 n9 c9 (bvs (((HK ++ Wire.enc ka.a.bill.media) ++ Wire.enc ka.a.bill.house) ++ Wire.encI ka.a.bill.charges)) Aa _ ca (bvs (Wire.encI ka.a.bill.credits)) rfl rfl (own_below HE9.out.1 HO1.out.2) (Rd.of_own HO1.out.1) (bvs_one _) (HE9.out.2.1.trans (HO1.out.2.mono HE9.out.2.1.size)) (by have := HE9.out.2.2; have := HBK.out.2.1; omega) (Nat.le_refl _) (Nat.le_trans HE9.out.2.1.size HO1.out.2.size) ?_; intro Ab cb wb own2 hb2; have HO2 := Lib.hid (And.intro own2 hb2); clear own2 hb2))
                        go_meet
                        exact ⟨Ab, _, cb, by first | rfl | simp, Lib.hid (EncP.next HE9.out (HBK.out.2.1) HO2.out.1 HO2.out.2)⟩
                      case rest =>
                        obtain ⟨A10, n10, c10, rfl, HE10⟩ := hcut
                        obtain ⟨w10, hw10⟩ : ∃ x, wc = x := ⟨_, rfl⟩
                        try rw [hw10] at HE10 ⊢
                        clear hw10
                        go_upto_region 13 with fail
                        obtain ⟨q20, q21, qa, qb, qc, qd, qe⟩ := HCK.out w10 HE10.out.2.1
                        have hbb := HBB.out.2
                        have hN16 : Lk ≤ 16 := hL16
                        go_wp2_with (first
                          | (go_at_call 76; refine (HC3.out w10 HE10.out.2.1).mono ?_; rintro e wa ⟨Aa, ca, rfl, own1, b1⟩; have HO1 := Lib.hid (And.intro own1 b1); clear own1 b1)
                          | (at_builtin; refine wpList_appR rfl (.tmp 93) (.tmp 101) 58 rfl w.heap.size 5 _ 1 1 bytesE A10 n10 c10 (bvs ((((HK ++ Wire.enc ka.a.bill.media) ++ Wire.enc ka.a.bill.house) ++ Wire.encI ka.a.bill.charges) ++ Wire.encI ka.a.bill.credits)) Aa _ ca (bvs (Wire.encI ka.a.granted)) rfl rfl (own_below HE10.out.1 HO1.out.2) (Rd.of_own HO1.out.1) (bvs_one _) (HE10.out.2.1.trans (HO1.out.2.mono HE10.out.2.1.size)) (by have := HE10.out.2.2; have := HBK.out.2.2; omega) (Nat.le_refl _) (Nat.le_trans HE10.out.2.1.size HO1.out.2.size) ?_; intro Ab cb wb own2 hb2; have HO2 := Lib.hid (And.intro own2 hb2); clear own2 hb2))
                        have HEN := Lib.hid (EncP.next HE10.out (HBK.out.2.2) HO2.out.1 HO2.out.2)
                        go_roundw
                        case rel =>
                          refine ⟨k + 1, HLT.out, by go_num, Ab, _, cb, rfl, Lib.hid ?_⟩
                          have h1 := HEN.out
                          have e1 : HX ++ (l.kept.take (k + 1)).flatMap Bil.encA = (((((HK ++ Wire.enc ka.a.bill.media) ++ Wire.enc ka.a.bill.house) ++ Wire.encI ka.a.bill.charges) ++ Wire.encI ka.a.bill.credits) ++ Wire.encI ka.a.granted) := by
                            rw [HTK.out, ← HHK.out]
                            simp [Bil.encA, List.append_assoc]
                          have e2 : 434 + 618 * (k + 1) = (((((bk + 9) + 9) + 200) + 200) + 200) := by have := HBB.out.1; omega
                          rw [e1, e2]
                          exact h1
                        case measure => have hkl := HLT.out; simp [intOf]; omega
              · obtain rfl : k = Lk := by omega
                go_wp2_with fail
                go_ret
                refine ⟨A6, n6, c6, rfl, ?_, ?_, HE6.out.2.1⟩
                · have h1 := HE6.out.1.1
                  rw [bvs_len, Nat.mul_one] at h1
                  rw [← h1, renc_eq l HX k (by rw [HL.out.klen, HEQ.out.2.2]) (by rw [HEQ.out.1, HEQ.out.2.1]; exact HHX.out)]
                · have h1 := Rd.of_own HE6.out.1
                  rw [renc_eq l HX k (by rw [HL.out.klen, HEQ.out.2.2]) (by rw [HEQ.out.1, HEQ.out.2.1]; exact HHX.out)] at h1
                  exact h1
end
/-! Layer 35's laws: alike, at a ledger of the program and one of the reference that are told alike. Conditions: the ledger keeps what it keeps; its numbers have 64 bits. -/
section
open Go.RowKit
namespace Bil
/-- the bill of a period, or none -/
def lookB (l : Lg) (p : Int) : Bill := match idx l p with
  | none => zb
  | some i => (accAt l i).bill
end Bil
theorem bill_look {w w' : World} {l : Bil.Lg} {p : Int} {e : Ending} (h : BillRes w l p e w') : ∃ v, e = .returned (.tuple #[v, .bool (Bil.idx l p).isSome]) ∧ RBillV w' v (Bil.lookB l p) ∧ Below w.heap.size w w' := by
  unfold Bil.lookB
  rcases h with ⟨hn, rfl, hb⟩ | ⟨i, v, hi, rfl, hv, hb⟩
  · rw [hn]; exact ⟨_, rfl, rbill_z _, hb⟩
  · rw [hi]; exact ⟨v, rfl, rbill_own hv, hb⟩
theorem rbill_look {w w' : World} {bl : Nat} {col : Nat → Nat} {m : RM} {l : Bil.Lg} {p : Int} {e : Ending} (hl : RAt w bl col m l) (h : RBillRes w m l p e w') : ∃ v, e = .returned (.tuple #[v, .bool (Bil.idx l p).isSome]) ∧ RBillV w' v (Bil.lookB l p) ∧ Below w.heap.size w w' := by
  unfold Bil.lookB
  rcases h with ⟨hn, rfl, hb⟩ | ⟨i, hi', hi, rfl, hb⟩
  · rw [hn]; exact ⟨_, rfl, rbill_z _, hb⟩
  · rw [hi]
    have hk := (hl.below hb).kat _ (List.getElem_mem hi')
    refine ⟨_, rfl, ?_, hb⟩
    show RBillV w' _ (Bil.accAt l i).bill
    rw [hl.acc hi']
    exact ⟨_, _, _, _, _, _, _, _, _, rfl, ⟨hk.lc, hk.lr, hk.lt⟩, hk.c.rd hk.lc, hk.r.rd hk.lr, hk.t.rd hk.lt⟩
theorem look_len {l : Bil.Lg} (hO : Bil.Ok l) (hn : l.n ≤ 1000) (p : Int) : (Bil.lookB l p).charges.length ≤ 1000 ∧ (Bil.lookB l p).credits.length ≤ 1000 ∧ (Bil.lookB l p).nets.length ≤ 1000 := by
  unfold Bil.lookB
  cases hi : Bil.idx l p with
  | none => exact ⟨Nat.zero_le _, Nat.zero_le _, Nat.zero_le _⟩
  | some i =>
    have h1 := (Bil.idx_some hi).2.2.1
    have h2 := (hO.a i h1).1
    have e1 := h2.c
    have e2 := h2.r
    have e3 := h2.t
    show (Bil.accAt l i).bill.charges.length ≤ 1000 ∧ (Bil.accAt l i).bill.credits.length ≤ 1000 ∧ (Bil.accAt l i).bill.nets.length ≤ 1000
    omega
theorem list6 {α : Type} : ∀ (cs : List α), cs.length = 6 → ∃ a0 a1 a2 a3 a4 a5, cs = [a0, a1, a2, a3, a4, a5]
  | [a0, a1, a2, a3, a4, a5], _ => ⟨a0, a1, a2, a3, a4, a5, rfl⟩
/-- a variable that holds a bill -/
structure BSt (w wx : World) (b : Nat) (L : List Value) (B : Bil.Bill) : Prop where
  below : Below w.heap.size w wx
  row : IsRow wx b 31 L
  v : RBillV wx (.agg L.toArray) B
  len : L.length = 6
  one : L.all (·.oneCell') = true
theorem BSt.next {w wx w' : World} {b : Nat} {L : List Value} {B : Bil.Bill} (h : BSt w wx b L B) (hb : Below wx.heap.size wx w') : BSt w w' b L B := ⟨h.below.trans (hb.mono h.below.size), h.row.below' hb, h.v.below hb, h.len, h.one⟩
set_option maxRecDepth 100000 in
set_option maxHeartbeats 16000000 in
theorem alike_any (bl : Nat) (cl : Nat → Nat) (ml : LM) (bt : Nat) (ct : Nat → Nat) (mt : RM) (l : Bil.Lg) (w : World) (hL : LAt w bl cl ml l) (hR : RAt w bt ct mt l) (hO : Bil.Ok l) (hp : I64s l.pending) (hq : I64s l.paid) (hk : Bil.KEnc l) :
    Calls Tryd.prog 22 #[.pointer (some ⟨bl, 0, none⟩), .pointer (some ⟨bt, 0, none⟩)] w fun e w' => e = .returned (.bool true) ∧ Below w.heap.size w w' := by
  have HTN := Lib.hid (fun W (hW : Below w.heap.size w W) => tenants_any bl cl ml l W (hL.below hW))
  have HPE := Lib.hid (fun W (hW : Below w.heap.size w W) => periods_any bl cl ml l W (hL.below hW))
  have HHD := Lib.hid (fun W (hW : Below w.heap.size w W) => head_any bl cl ml l W (hL.below hW))
  have HRH := Lib.hid (fun W (hW : Below w.heap.size w W) => rHead_any bt ct mt l W (hR.below hW))
  have HEN := Lib.hid (fun W (hW : Below w.heap.size w W) => encode_any bl cl ml l W (hL.below hW) hp hq hk)
  have HRE := Lib.hid (fun W (hW : Below w.heap.size w W) => rencode_any bt ct mt l W (hR.below hW) hp hq hk)
  have HP1 := Lib.hid (fun W (hW : Below w.heap.size w W) (t : Int) => pending_any bl cl ml l W (hL.below hW) t)
  have HP2 := Lib.hid (fun W (hW : Below w.heap.size w W) (t : Int) => rPending_any (h := hR.below hW) (t := t))
  have HQ1 := Lib.hid (fun W (hW : Below w.heap.size w W) (t : Int) => paid_any bl cl ml l W (hL.below hW) t)
  have HQ2 := Lib.hid (fun W (hW : Below w.heap.size w W) (t : Int) => rPaid_any (h := hR.below hW) (t := t))
  have HB1 := Lib.hid (fun W (hW : Below w.heap.size w W) (p : Int) (p1 : -9223372036854775808 ≤ p) (p2 : p ≤ 9223372036854775807) => (bill_any bl cl ml l p p1 p2 W (hL.below hW)).mono (fun _ _ h => bill_look h))
  have HB2 := Lib.hid (fun W (hW : Below w.heap.size w W) (p : Int) => (rBill_any bt ct mt l p W (hR.below hW) hO).mono (fun _ _ h => rbill_look (hR.below hW) h))
  have HLN := Lib.hid (fun p => look_len hO (by have := hL.n2; omega) p)
  have HCT : Hid (∀ W, Below w.heap.size w W → W.cell? ⟨bt, 0, none⟩ = some (.int .i64 (l.n : Int)) ∧ W.cell? ⟨bt, 1, none⟩ = some (.int .i64 (l.periods : Int))) := Lib.hid (fun W hW => ⟨(hR.below hW).row.cell 0, (hR.below hW).row.cell 1⟩)
  have hn2 := hR.n2
  have hper := hR.per
  have hq16 : ∀ W, (binOp .neq 66 (dv l.head) (dv l.head)).run Tryd.prog W = .ok (.bool false) W := fun W => by
    have := run_neq_digE W hR.h16 hR.h16
    rw [show (dv l.head : Value) = .agg (bvs l.head).toArray from rfl, this]
    simp
  obtain ⟨hd, hhd⟩ : ∃ x, l.head = x := ⟨_, rfl⟩
  rw [hhd] at HHD HRH hq16
  obtain ⟨E, hE⟩ : ∃ x, Bil.enc l = x := ⟨_, rfl⟩
  rw [hE] at HEN HRE
  obtain ⟨N, hN⟩ : ∃ x, l.n = x := ⟨_, rfl⟩
  obtain ⟨P, hP⟩ : ∃ x, l.periods = x := ⟨_, rfl⟩
  rw [hN] at HTN HCT hn2
  rw [hP] at HPE HCT hper
  have HNP : Hid (N ≤ 16 ∧ P ≤ 65536) := Lib.hid ⟨hn2, hper⟩
  clear hL hR hO hp hq hk hN hP hhd hE hn2 hper
  go_enter Tryd.func22, Tryd.ntmps22
  go_upto_region 1 with fail
  go_cut [42] (fun u42 wx => u42 = .bool false ∧ Hid (Below w.heap.size w wx))
  case first =>
    go_wp2_with fail
    have hv0 : Below w.heap.size w w.drew := (Below.refl _ _).drew
    refine wp_region_held_drew (S := fun W => Below w.heap.size w W) (by kernel_rfl) (hv0) (fun hHeld => ?_)
    obtain ⟨wd, hwd⟩ : ∃ x, w.drew = x := ⟨_, rfl⟩
    rw [hwd] at hv0 hHeld ⊢
    clear hwd
    refine tkH 0 oVA0 ?v0_1 (.inl ⟨by rfl, ?h0_1⟩) ?r0_1
    case h0_1 =>
      intro W hSW
      unfold oVA0
      try dsimp only at hSW
      go_simp
      try with_reducible rfl
    try simp only [oVA0, PT]
    refine tkH 2 oVA1 ?v2_2 (.inl ⟨by rfl, ?h2_2⟩) ?r2_2
    case h2_2 =>
      intro W hSW
      unfold oVA1
      try dsimp only at hSW
      go_simp
      try with_reducible rfl
    try simp only [oVA1, PT]
    refine tkH 3 oVA2 ?v3_3 (.inl ⟨by rfl, ?h3_3⟩) ?r3_3
    case h3_3 =>
      intro W hSW
      unfold oVA2
      try dsimp only at hSW
      go_simp
      try with_reducible rfl
    try simp only [oVA2, PT]
    refine tkH 4 oVA3 ?v4_4 (.inl ⟨by rfl, ?h4_4⟩) ?r4_4
    case h4_4 =>
      intro W hSW
      unfold oVA3
      try dsimp only at hSW
      go_simp
      try with_reducible rfl
    try simp only [oVA3, PT]
    refine tkH 5 oVA4 ?v5_5 (.inl ⟨by rfl, ?h5_5⟩) ?r5_5
    case h5_5 =>
      intro W hSW
      unfold oVA4
      try dsimp only at hSW
      have hcc := (HCT.out W hSW).1
      go_simp
      try with_reducible rfl
    try simp only [oVA4, PT]
    refine rdyH [1] ?_
    refine AllReadyH.cons (o := oVA5) rfl (fun K hK => ?_) AllReadyH.nil
    unfold oVA5
    go_simp
    refine (HTN.out _ hv0).mono ?_
    rintro e w40 ⟨rfl, hw40⟩
    have hv40 : Below w.heap.size w w40 := by rw [hw40]; exact hv0
    clear hw40
    refine hK.out _ _ (hv40) (fun hHeld => ?_)
    clear hK K
    try simp only [PT]
    refine tkH 6 oVA6 ?v6_6 (.inl ⟨by rfl, ?h6_6⟩) ?r6_6
    case h6_6 =>
      intro W hSW
      unfold oVA6
      try dsimp only at hSW
      go_simp
      try with_reducible rfl
    try simp only [oVA6, PT]
    refine tkH 7 oVA7 ?v7_7 (.inl ⟨by rfl, ?h7_7⟩) ?r7_7
    case h7_7 =>
      intro W hSW
      unfold oVA7
      try dsimp only at hSW
      go_simp
      try with_reducible rfl
    try simp only [oVA7, PT]
    refine tkH 8 oVA8 ?v8_8 (.inl ⟨by rfl, ?h8_8⟩) ?r8_8
    case h8_8 =>
      intro W hSW
      unfold oVA8
      try dsimp only at hSW
      go_simp
      try with_reducible rfl
    try simp only [oVA8, PT]
    refine tkH 10 oVA9 ?v10_9 (.inl ⟨by rfl, ?h10_9⟩) ?r10_9
    case h10_9 =>
      intro W hSW
      unfold oVA9
      try dsimp only at hSW
      go_simp
      try with_reducible rfl
    try simp only [oVA9, PT]
    refine tkH 11 oVA10 ?v11_10 (.inl ⟨by rfl, ?h11_10⟩) ?r11_10
    case h11_10 =>
      intro W hSW
      unfold oVA10
      try dsimp only at hSW
      go_simp
      try with_reducible rfl
    try simp only [oVA10, PT]
    refine tkH 12 oVA11 ?v12_11 (.inl ⟨by rfl, ?h12_11⟩) ?r12_11
    case h12_11 =>
      intro W hSW
      unfold oVA11
      try dsimp only at hSW
      go_simp
      try with_reducible rfl
    try simp only [oVA11, PT]
    refine tkH 13 oVA12 ?v13_12 (.inl ⟨by rfl, ?h13_12⟩) ?r13_12
    case h13_12 =>
      intro W hSW
      unfold oVA12
      try dsimp only at hSW
      have hcc := (HCT.out W hSW).2
      go_simp
      try with_reducible rfl
    try simp only [oVA12, PT]
    refine rdyH [9] ?_
    refine AllReadyH.cons (o := oVA13) rfl (fun K hK => ?_) AllReadyH.nil
    unfold oVA13
    go_simp
    refine (HPE.out _ hv40).mono ?_
    rintro e w41 ⟨rfl, hw41⟩
    have hv41 : Below w.heap.size w w41 := by rw [hw41]; exact hv40
    clear hw41
    refine hK.out _ _ (hv41) (fun hHeld => ?_)
    clear hK K
    try simp only [PT]
    refine tkH 14 oVA14 ?v14_13 (.inl ⟨by rfl, ?h14_13⟩) ?r14_13
    case h14_13 =>
      intro W hSW
      unfold oVA14
      try dsimp only at hSW
      go_simp
      try with_reducible rfl
    try simp only [oVA14, PT]
    refine tkH 15 oVA15 ?v15_14 (.inl ⟨by rfl, ?h15_14⟩) ?r15_14
    case h15_14 =>
      intro W hSW
      unfold oVA15
      try dsimp only at hSW
      go_simp
      try with_reducible rfl
    try simp only [oVA15, PT]
    refine tkH 16 oVA16 ?v16_15 (.inl ⟨by rfl, ?h16_15⟩) ?r16_15
    case h16_15 =>
      intro W hSW
      unfold oVA16
      try dsimp only at hSW
      go_simp
      try with_reducible rfl
    try simp only [oVA16, PT]
    refine tkH 17 oVA17 ?v17_16 (.inl ⟨by rfl, ?h17_16⟩) ?r17_16
    case h17_16 =>
      intro W hSW
      unfold oVA17
      try dsimp only at hSW
      go_simp
      try with_reducible rfl
    try simp only [oVA17, PT]
    refine tkH 19 oVA18 ?v19_17 (.inl ⟨by rfl, ?h19_17⟩) ?r19_17
    case h19_17 =>
      intro W hSW
      unfold oVA18
      try dsimp only at hSW
      go_simp
      try with_reducible rfl
    try simp only [oVA18, PT]
    refine rdyH [18] ?_
    refine AllReadyH.cons (o := oVA19) rfl (fun K hK => ?_) AllReadyH.nil
    unfold oVA19
    go_simp
    refine (HHD.out _ hv41).mono ?_
    rintro e w42 ⟨rfl, b42⟩
    have hv42 : Below w.heap.size w w42 := hv41.trans (b42.mono hv41.size)
    clear b42
    refine hK.out _ _ (hv42) (fun hHeld => ?_)
    clear hK K
    try simp only [PT]
    refine rdyH [20] ?_
    refine AllReadyH.cons (o := oVA20) rfl (fun K hK => ?_) AllReadyH.nil
    unfold oVA20
    go_simp
    refine (HRH.out _ hv42).mono ?_
    rintro e w43 ⟨rfl, b43⟩
    have hv43 : Below w.heap.size w w43 := hv42.trans (b43.mono hv42.size)
    clear b43
    refine hK.out _ _ (hv43) (fun hHeld => ?_)
    clear hK K
    try simp only [PT]
    refine tkH 21 oVA21 ?v21_18 (.inl ⟨by rfl, ?h21_18⟩) ?r21_18
    case h21_18 =>
      intro W hSW
      unfold oVA21
      try dsimp only at hSW
      go_simp
      try with_reducible rfl
    try simp only [oVA21, PT]
    refine tkH 22 oVA22 ?v22_19 (.inl ⟨by rfl, ?h22_19⟩) ?r22_19
    case h22_19 =>
      intro W hSW
      unfold oVA22
      try dsimp only at hSW
      go_simp
      try with_reducible rfl
    try simp only [oVA22, PT]
    refine tkH 23 oVA23 ?v23_20 (.inl ⟨by rfl, ?h23_20⟩) ?r23_20
    case h23_20 =>
      intro W hSW
      unfold oVA23
      try dsimp only at hSW
      go_simp
      try with_reducible rfl
    try simp only [oVA23, PT]
    refine tkH 24 oVA24 ?v24_21 (.inl ⟨by rfl, ?h24_21⟩) ?r24_21
    case h24_21 =>
      intro W hSW
      unfold oVA24
      try dsimp only at hSW
      go_simp
      try with_reducible rfl
    try simp only [oVA24, PT]
    refine tkH 27 oVA25 ?v27_22 (.inl ⟨by rfl, ?h27_22⟩) ?r27_22
    case h27_22 =>
      intro W hSW
      unfold oVA25
      try dsimp only at hSW
      go_simp
      try with_reducible rfl
    try simp only [oVA25, PT]
    refine rdyH [25] ?_
    refine AllReadyH.cons (o := oVA26) rfl (fun K hK => ?_) AllReadyH.nil
    unfold oVA26
    go_simp
    refine (HEN.out _ hv43).mono ?_
    rintro e w44 ⟨A1, n1, c1, rfl, hn1, rd1, b44⟩
    have hv44 : Below w.heap.size w w44 := hv43.trans (b44.mono hv43.size)
    have hcv1 := run_toS w44 58 9 5 Tryd.underlying58 Tryd.underlying5 Tryd.underlying9 A1 n1 c1 _ E rd1
    have rd1 := rd1
    skip
    clear b44 hn1
    refine hK.out _ _ (hv44) (fun hHeld => ?_)
    clear hK K
    try simp only [PT]
    refine rdyH [26, 28] ?_
    refine AllReadyH.cons (o := oVA27) rfl (fun K hK => ?_) ?_
    · skip
      unfold oVA27
      go_simp
      refine hK.out _ _ (hv44) (fun hHeld => ?_)
      clear hK K
      try simp only [PT]
      refine rdyH [28] ?_
      refine AllReadyH.cons (o := oVA28) rfl (fun K hK => ?_) AllReadyH.nil
      unfold oVA28
      go_simp
      refine (HRE.out _ hv44).mono ?_
      rintro e w46 ⟨A2, n2, c2, rfl, hn2, rd2, b46⟩
      have hv46 : Below w.heap.size w w46 := hv44.trans (b46.mono hv44.size)
      have hcv2 := run_toS w46 58 9 5 Tryd.underlying58 Tryd.underlying5 Tryd.underlying9 A2 n2 c2 _ E rd2
      have rd2 := rd2
      try have hcv1b := run_toS w46 58 9 5 Tryd.underlying58 Tryd.underlying5 Tryd.underlying9 A1 n1 c1 _ E (rd1.below b46)
      clear b46 hn2
      refine hK.out _ _ (hv46) (fun hHeld => ?_)
      clear hK K
      try simp only [PT]
      refine rdyH [29] ?_
      refine AllReadyH.cons (o := oVA29) rfl (fun K hK => ?_) AllReadyH.nil
      unfold oVA29
      go_simp
      refine hK.out _ _ (hv46) (fun hHeld => ?_)
      clear hK K
      try simp only [PT]
      refine tkH 30 oVA30 ?v30_23 (.inl ⟨by rfl, ?h30_23⟩) ?r30_23
      case h30_23 =>
        intro W hSW
        unfold oVA30
        try dsimp only at hSW
        go_simp
        try with_reducible rfl
      try simp only [oVA30, PT]
      refine tkH 31 oVA31 ?v31_24 (.inl ⟨by rfl, ?h31_24⟩) ?r31_24
      case h31_24 =>
        intro W hSW
        unfold oVA31
        try dsimp only at hSW
        go_simp
        try with_reducible rfl
      try simp only [oVA31, PT]
      refine wpAnyH_done (by kernel_rfl) ?_ _
      have HVF := Lib.hid hv46
      clear hv46
      go_wp2_with fail
      go_meet
      exact ⟨by first | rfl | simp, HVF⟩
    · skip
      refine AllReadyH.cons (o := oVA28) rfl (fun K hK => ?_) AllReadyH.nil
      unfold oVA28
      go_simp
      refine (HRE.out _ hv44).mono ?_
      rintro e w45 ⟨A2, n2, c2, rfl, hn2, rd2, b45⟩
      have hv45 : Below w.heap.size w w45 := hv44.trans (b45.mono hv44.size)
      have hcv2 := run_toS w45 58 9 5 Tryd.underlying58 Tryd.underlying5 Tryd.underlying9 A2 n2 c2 _ E rd2
      have rd2 := rd2
      try have hcv1b := run_toS w45 58 9 5 Tryd.underlying58 Tryd.underlying5 Tryd.underlying9 A1 n1 c1 _ E (rd1.below b45)
      clear b45 hn2
      refine hK.out _ _ (hv45) (fun hHeld => ?_)
      clear hK K
      try simp only [PT]
      refine rdyH [26, 29] ?_
      refine AllReadyH.cons (o := oVA27) rfl (fun K hK => ?_) ?_
      · skip
        unfold oVA27
        go_simp
        refine hK.out _ _ (hv45) (fun hHeld => ?_)
        clear hK K
        try simp only [PT]
        refine rdyH [29] ?_
        refine AllReadyH.cons (o := oVA29) rfl (fun K hK => ?_) AllReadyH.nil
        unfold oVA29
        go_simp
        refine hK.out _ _ (hv45) (fun hHeld => ?_)
        clear hK K
        try simp only [PT]
        refine tkH 30 oVA30 ?v30_25 (.inl ⟨by rfl, ?h30_25⟩) ?r30_25
        case h30_25 =>
          intro W hSW
          unfold oVA30
          try dsimp only at hSW
          go_simp
          try with_reducible rfl
        try simp only [oVA30, PT]
        refine tkH 31 oVA31 ?v31_26 (.inl ⟨by rfl, ?h31_26⟩) ?r31_26
        case h31_26 =>
          intro W hSW
          unfold oVA31
          try dsimp only at hSW
          go_simp
          try with_reducible rfl
        try simp only [oVA31, PT]
        refine wpAnyH_done (by kernel_rfl) ?_ _
        have HVF := Lib.hid hv45
        clear hv45
        go_wp2_with fail
        go_meet
        exact ⟨by first | rfl | simp, HVF⟩
      · skip
        refine AllReadyH.cons (o := oVA29) rfl (fun K hK => ?_) AllReadyH.nil
        unfold oVA29
        go_simp
        refine hK.out _ _ (hv45) (fun hHeld => ?_)
        clear hK K
        try simp only [PT]
        refine rdyH [26] ?_
        refine AllReadyH.cons (o := oVA27) rfl (fun K hK => ?_) AllReadyH.nil
        unfold oVA27
        go_simp
        refine hK.out _ _ (hv45) (fun hHeld => ?_)
        clear hK K
        try simp only [PT]
        refine tkH 30 oVA30 ?v30_27 (.inl ⟨by rfl, ?h30_27⟩) ?r30_27
        case h30_27 =>
          intro W hSW
          unfold oVA30
          try dsimp only at hSW
          go_simp
          try with_reducible rfl
        try simp only [oVA30, PT]
        refine tkH 31 oVA31 ?v31_28 (.inl ⟨by rfl, ?h31_28⟩) ?r31_28
        case h31_28 =>
          intro W hSW
          unfold oVA31
          try dsimp only at hSW
          go_simp
          try with_reducible rfl
        try simp only [oVA31, PT]
        refine wpAnyH_done (by kernel_rfl) ?_ _
        have HVF := Lib.hid hv45
        clear hv45
        go_wp2_with fail
        go_meet
        exact ⟨by first | rfl | simp, HVF⟩
  case rest =>
    obtain ⟨rfl, HW1⟩ := hcut
    obtain ⟨w1, hw1⟩ : ∃ x, wc = x := ⟨_, rfl⟩
    try rw [hw1] at HW1 ⊢
    clear hw1 HTN HPE HHD HRH HEN HRE hq16
    go_wp2_with fail
    go_loopw [5] (fun u5 wr => ∃ i : Int, u5 = .int .i64 i ∧ -1 ≤ i ∧ i ≤ (N : Int) + 1 ∧ wr = w1) (fun u5 _ => ((N : Int) + 1 - intOf u5).toNat)
    case atStart => exact ⟨-1, rfl, by omega, by omega, rfl⟩
    case round =>
      obtain ⟨i, rfl, hi1, hi2, hwr⟩ := hrel
      rw [hwr]
      clear hwr
      have c0 : w1.cell? ⟨bt, 0, none⟩ = some (.int .i64 (N : Int)) := (HCT.out w1 HW1.out).1
      by_cases hle : i ≤ (N : Int)
      · obtain ⟨x, hx⟩ : ∃ x, Bil.atOf l.pending i = x := ⟨_, rfl⟩
        obtain ⟨y, hy⟩ : ∃ x, Bil.atOf l.paid i = x := ⟨_, rfl⟩
        have h1 := Lib.hid (HP1.out w1 HW1.out i)
        have h2 := Lib.hid (HP2.out w1 HW1.out i)
        have h3 := Lib.hid (HQ1.out w1 HW1.out i)
        have h4 := Lib.hid (HQ2.out w1 HW1.out i)
        rw [hx] at h1 h2
        rw [hy] at h3 h4
        have hn16 := HNP.out.1
        obtain ⟨i', hi'⟩ : ∃ x, i + 1 = x := ⟨_, rfl⟩
        have m1 : IntKind.i64.wrap (i + 1) = i' := by rw [hi']; exact IntWalk.i64_in _ (by omega)
        have HI' : Hid (i + 1 = i' ∧ i ≤ (N : Int) ∧ -1 ≤ i) := Lib.hid ⟨hi', hle, hi1⟩
        clear hx hy hi'
        go_wp2_with (first
          | (go_at_call 15; refine h1.out.mono ?_; rintro e w2 ⟨rfl, hw2⟩; rw [hw2]; clear hw2 w2)
          | (go_at_call 47; refine h2.out.mono ?_; rintro e w2 ⟨rfl, hw2⟩; rw [hw2]; clear hw2 w2)
          | (go_at_call 13; refine h3.out.mono ?_; rintro e w2 ⟨rfl, hw2⟩; rw [hw2]; clear hw2 w2)
          | (go_at_call 48; refine h4.out.mono ?_; rintro e w2 ⟨rfl, hw2⟩; rw [hw2]; clear hw2 w2))
        go_roundw
        case rel => exact ⟨i', by first | rfl | rw [m1], by have := HI'.out; omega, by have := HI'.out; omega, trivial⟩
        case measure => have hii := HI'.out; simp only [intOf, m1]; omega
      · clear HP1 HP2 HQ1 HQ2
        go_wp2_with fail
        go_loopw [6] (fun u6 wr => ∃ i : Int, u6 = .int .i64 i ∧ -1 ≤ i ∧ i ≤ (P : Int) + 1 ∧ Hid (Below w.heap.size w wr)) (fun u6 _ => ((P : Int) + 1 - intOf u6).toNat)
        case atStart => exact ⟨-1, rfl, by omega, by omega, HW1⟩
        case round =>
          clear c0
          obtain ⟨i, rfl, hi1, hi2, HWR⟩ := hrel
          have c1 : wr.cell? ⟨bt, 1, none⟩ = some (.int .i64 (P : Int)) := (HCT.out wr HWR.out).2
          by_cases hle : i ≤ (P : Int)
          · have hp16 := HNP.out.2
            obtain ⟨i', hi'⟩ : ∃ x, i + 1 = x := ⟨_, rfl⟩
            have m1 : IntKind.i64.wrap (i + 1) = i' := by rw [hi']; exact IntWalk.i64_in _ (by omega)
            have HI' : Hid (i + 1 = i' ∧ i ≤ (P : Int) ∧ -1 ≤ i ∧ P ≤ 65536) := Lib.hid ⟨hi', hle, hi1, hp16⟩
            have HC1 := Lib.hid (fun W hW => HB1.out W hW i (by omega) (by omega))
            have HC2 := Lib.hid (fun W hW => HB2.out W hW i)
            obtain ⟨BB, hBB⟩ : ∃ x, Bil.lookB l i = x := ⟨_, rfl⟩
            obtain ⟨S, hS⟩ : ∃ x, (Bil.idx l i).isSome = x := ⟨_, rfl⟩
            rw [hBB, hS] at HC1 HC2
            have HLB : Hid (BB.charges.length ≤ 1000 ∧ BB.credits.length ≤ 1000 ∧ BB.nets.length ≤ 1000) := Lib.hid (by rw [← hBB]; exact HLN.out i)
            clear hBB hS hi' hp16
            go_upto_region 11 with fail
            go_cut [7, 8] (fun u7 u8 wx => ∃ b7 La, u7 = .pointer (some ⟨b7, 0, none⟩) ∧ u8 = .bool S ∧ Hid (BSt w wx b7 La BB))
            case first =>
              go_wp2_with (first
                | (go_at_call 49; refine (HC1.out _ HWR.out).mono ?_; rintro e wa ⟨v, rfl, hv, ba⟩; obtain ⟨La, rfl, la6, la1⟩ := hv.form; have HVA := Lib.hid (And.intro hv ba); clear hv ba)
                | (refine wpList_allocRow rfl _ rfl _ info6 ?_; intro wb rb bb zb')
                | (refine wpList_storeRow rfl _ (.tmp 7) (.tmp 79) rfl (l' := La) rb rfl rfl (by rw [la6]; exact size6) (by rw [la6]; rfl) la1 ?_; intro wcc rc gc zc))
              have hb2 : Below wa.heap.size wa wcc := bb.grown gc bb.size (by intro j hj; have hj := Option.some.inj hj; omega)
              have HF := Lib.hid (BSt.mk (HWR.out.trans ((HVA.out.2.trans (hb2.mono HVA.out.2.size)).mono HWR.out.size)) rc (HVA.out.1.below hb2) la6 la1)
              clear hb2 bb gc zb' zc rb rc
              go_meet
              exact ⟨_, La, rfl, rfl, HF⟩
            case rest =>
              obtain ⟨b7, La, rfl, rfl, HSA⟩ := hcut
              obtain ⟨wA, hwA⟩ : ∃ x, wc = x := ⟨_, rfl⟩
              try rw [hwA] at HSA ⊢
              clear hwA c1
              go_upto_region 12 with fail
              go_cut [9, 10] (fun u9 u10 wx => ∃ b9 Lb, u9 = .pointer (some ⟨b9, 0, none⟩) ∧ u10 = .bool S ∧ Hid (BSt w wx b9 Lb BB ∧ BSt w wx b7 La BB))
              case first =>
                go_wp2_with (first
                  | (go_at_call 50; refine (HC2.out _ HSA.out.below).mono ?_; rintro e wa ⟨v, rfl, hv, ba⟩; obtain ⟨Lb, rfl, la6, la1⟩ := hv.form; have HVA := Lib.hid (And.intro hv ba); clear hv ba)
                  | (refine wpList_allocRow rfl _ rfl _ info6 ?_; intro wb rb bb zb')
                  | (refine wpList_storeRow rfl _ (.tmp 9) (.tmp 85) rfl (l' := Lb) rb rfl rfl (by rw [la6]; exact size6) (by rw [la6]; rfl) la1 ?_; intro wcc rc gc zc))
                have hb2 : Below wa.heap.size wa wcc := bb.grown gc bb.size (by intro j hj; have hj := Option.some.inj hj; omega)
                have hb3 := HVA.out.2.trans (hb2.mono HVA.out.2.size)
                have HF := Lib.hid (And.intro (BSt.mk (HSA.out.below.trans (hb3.mono HSA.out.below.size)) rc (HVA.out.1.below hb2) la6 la1) (HSA.out.next hb3))
                clear hb2 hb3 bb gc zb' zc rb rc
                go_meet
                exact ⟨_, Lb, rfl, rfl, HF⟩
              case rest =>
                obtain ⟨b9, Lb, rfl, rfl, HSB⟩ := hcut
                obtain ⟨wB, hwB⟩ : ∃ x, wc = x := ⟨_, rfl⟩
                try rw [hwB] at HSB ⊢
                clear hwB HSA
                obtain ⟨x0, x1, x2, x3, x4, x5, rfl⟩ := list6 La HSB.out.2.len
                obtain ⟨y0, y1, y2, y3, y4, y5, rfl⟩ := list6 Lb HSB.out.1.len
                have HSM := Lib.hid (show Calls Tryd.prog 20 #[.agg #[x0, x1, x2, x3, x4, x5], .agg #[y0, y1, y2, y3, y4, y5]] wB (fun e w' => e = .returned (.bool true) ∧ Below wB.heap.size wB w') from rsame_any BB HLB.out _ _ wB HSB.out.2.v HSB.out.1.v)
                have qa0 : wB.cell? ⟨b7, 0, none⟩ = some x0 := HSB.out.2.row.cell 0
                have qb0 : wB.cell? ⟨b9, 0, none⟩ = some y0 := HSB.out.1.row.cell 0
                have qa1 : wB.cell? ⟨b7, 1, none⟩ = some x1 := HSB.out.2.row.cell 1
                have qb1 : wB.cell? ⟨b9, 1, none⟩ = some y1 := HSB.out.1.row.cell 1
                have qa2 : wB.cell? ⟨b7, 2, none⟩ = some x2 := HSB.out.2.row.cell 2
                have qb2 : wB.cell? ⟨b9, 2, none⟩ = some y2 := HSB.out.1.row.cell 2
                have qa3 : wB.cell? ⟨b7, 3, none⟩ = some x3 := HSB.out.2.row.cell 3
                have qb3 : wB.cell? ⟨b9, 3, none⟩ = some y3 := HSB.out.1.row.cell 3
                have qa4 : wB.cell? ⟨b7, 4, none⟩ = some x4 := HSB.out.2.row.cell 4
                have qb4 : wB.cell? ⟨b9, 4, none⟩ = some y4 := HSB.out.1.row.cell 4
                have qa5 : wB.cell? ⟨b7, 5, none⟩ = some x5 := HSB.out.2.row.cell 5
                have qb5 : wB.cell? ⟨b9, 5, none⟩ = some y5 := HSB.out.1.row.cell 5
                go_wp2_with (first
                  | (go_at_call 20; refine HSM.out.mono ?_; rintro e wD ⟨rfl, bD⟩; have HBD := Lib.hid bD; clear bD))
                go_roundw
                case rel => exact ⟨i', by first | rfl | rw [m1], by have := HI'.out; omega, by have := HI'.out; omega, Lib.hid (HSB.out.1.below.trans (HBD.out.mono HSB.out.1.below.size))⟩
                case measure => have hii := HI'.out; simp only [intOf, m1]; omega
          · go_wp2_with fail
            go_ret
            exact ⟨rfl, HWR.out⟩
end
end Go.Proofs.YtkjomnakolhdcaaDoor
