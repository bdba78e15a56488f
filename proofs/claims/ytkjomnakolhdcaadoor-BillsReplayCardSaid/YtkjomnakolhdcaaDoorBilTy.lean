/- Layer 35's reference: Do at whatever booking. Conditions: at most 1000 charges; the ledger keeps what it keeps; the tables are in memory. -/
import Derived.Test.YtkjomnakolhdcaaDoorBilUC
namespace Go.Proofs.YtkjomnakolhdcaaDoor
set_option linter.unusedVariables false
set_option linter.unusedSimpArgs false
open Go.RowKit
/-- what the reference's Do gives -/
def RDoE (w : World) (bl : Nat) (col : Nat → Nat) (l : Bil.Lg) (x : Bil.Bk) (e : Ending) (w' : World) : Prop := ∃ col' m', e = .returned (.int .i64 (Bil.doErr l x)) ∧ RAt w' bl col' m' (Bil.doSt l x) ∧ Keep (fun b => col b ≠ 0 ∧ col b ≠ 6) w w' ∧ ∀ b, col' b ≠ 0 → col b ≠ 0 ∨ w.heap.size ≤ b
set_option maxRecDepth 100000 in
set_option maxHeartbeats 1600000 in
theorem rdo_any (bl : Nat) (col : Nat → Nat) (m : RM) (l : Bil.Lg) (y : BkM) (hn : y.n ≤ 1000) (B : Nat) (w : World) (hy : BkOk w B y) (h : RAt w bl col m l) (hO : Bil.Ok l) (hS : Bil.Sm l 1152921504606846976) (hT : RTab w) (hTb : Tabs w) (hB : B ≤ w.heap.size) (hA : 0 < y.n → ∀ a, y.A = some a → col a.block = 0) :
    Calls Tryd.prog 21 #[.pointer (some ⟨bl, 0, none⟩), .agg (bkc y).toArray] w (RDoE w bl col l y.x) := by
  by_cases hk : y.x.kind = 1
  · obtain ⟨⟨kd, a, b, c, ch⟩, A, n, cc⟩ := y
    have hk : kd = 1 := hk
    subst hk
    have qx := IsRow.new w 35 [.int .i64 1, .int .i64 a, .int .i64 b, .int .i64 c, .slice A n cc]
    have hb2 := (Below.refl w.heap.size w).alloc (Nat.le_refl _) (.cells [Value.int .i64 1, .int .i64 a, .int .i64 b, .int .i64 c, .slice A n cc].toArray 35)
    obtain ⟨w2, hw2⟩ : ∃ x, w.alloc (.cells [Value.int .i64 1, .int .i64 a, .int .i64 b, .int .i64 c, .slice A n cc].toArray 35) = x := ⟨_, rfl⟩
    rw [hw2] at qx hb2
    have HW2 := Lib.hid (show w.alloc (.cells #[Value.int .i64 1, .int .i64 a, .int .i64 b, .int .i64 c, .slice A n cc] 35) = w2 from hw2)
    obtain ⟨bx, hbx⟩ : ∃ x, w.heap.size = x := ⟨_, rfl⟩
    have HBX := Lib.hid hbx
    rw [hbx] at qx
    have k0 : w2.cell? ⟨bx, 0, none⟩ = some (.int .i64 1) := qx.cell 0
    have k1 : w2.cell? ⟨bx, 1, none⟩ = some (.int .i64 a) := qx.cell 1
    have k2 : w2.cell? ⟨bx, 2, none⟩ = some (.int .i64 b) := qx.cell 2
    have k4 : w2.cell? ⟨bx, 4, none⟩ = some (.slice A n cc) := qx.cell 4
    have HB2 := Lib.hid hb2
    have HCL := Lib.hid (rclose_any bl col m l ⟨1, a, b, c, ch⟩ rfl hy.b A n cc hy.len hn B w2 (h.below hb2) hO hS (hT.below hb2) (hTb.below hb2) (hy.rd.below (hb2.mono hB)) (Nat.le_trans hB hb2.size) hA)
    clear hw2 hbx qx hb2 h hO hS hT hTb hy hA
    show Calls Tryd.prog 21 #[.pointer (some ⟨bl, 0, none⟩), .agg #[.int .i64 1, .int .i64 a, .int .i64 b, .int .i64 c, .slice A n cc]] w _
    go_enter Tryd.func21, Tryd.ntmps21
    go_upto_region 1 with fail
    rw [show _ = w2 from HW2.out, show w.heap.size = bx from HBX.out]
    go_wp2_with (first
      | (have hgd := r4; refine wpList_storeRow rfl _ (.tmp 5) (.tmp 19) rfl (l' := L6) r4 rfl rfl (by rw [l6]; exact size6) (by rw [l6]; rfl) l1 ?_; intro w5 r5 g5 z5)
      | (go_at_call 19; refine HCL.out.mono ?_; rintro e w3 ⟨v, col', m', rfl, hv, hT', hkk, hc, h6⟩; obtain ⟨L6, rfl, l6, l1⟩ := hv.rv.form; have HV := Lib.hid (And.intro hT' (And.intro hkk hc)); clear hv hT' hkk hc h6)
      | (refine wpList_allocRow rfl _ rfl _ info6 ?_; intro w4 r4 b4 z4))
    go_ret
    obtain ⟨hT', hkk, hc⟩ := HV.out
    have hs2 := HB2.out.size
    have hs3 := hkk.size
    have hq : col' w3.heap.size = 0 := by
      rcases Nat.eq_zero_or_pos (col' w3.heap.size) with h0 | h0
      · exact h0
      · have := hT'.lt w3.heap.size (by omega); omega
    refine ⟨col', m', rfl, (hT'.below b4).keeps (S := fun q => q = w3.heap.size) (Keep.of_grown g5 fun k e => (Option.some.inj e).symm) (fun q e => by subst e; exact hq), ?_, fun q hq => (hc q hq).imp id (by omega)⟩
    exact (((Keep.of_below HB2.out).trans hkk).then_below b4).grown g5 fun k e => .inr (by have := Option.some.inj e; omega)
  · refine (rdo_cr bl col m l y hk B w hy h hO hS hT).mono ?_
    rintro e w' ⟨rfl, hkk, m', hm⟩
    have e1 : Bil.doErr l y.x = Bil.creditErr l y.x.a y.x.b y.x.c := by unfold Bil.doErr; rw [if_neg hk]
    have e2 : Bil.doSt l y.x = Bil.creditSt l y.x.a y.x.b y.x.c := by unfold Bil.doSt; rw [if_neg hk]
    exact ⟨col, m', by rw [e1], by rw [e2]; exact hm, hkk, fun q hq => .inl hq⟩
end Go.Proofs.YtkjomnakolhdcaaDoor
