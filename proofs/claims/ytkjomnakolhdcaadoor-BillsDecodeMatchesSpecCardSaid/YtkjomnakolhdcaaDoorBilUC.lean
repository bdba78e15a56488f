/- Joined texts: BilU5, BilU8. Conditions: as each part says. -/
import Derived.Test.YtkjomnakolhdcaaDoorBilUA
import Derived.Test.YtkjomnakolhdcaaDoorBilD
import Derived.Test.YtkjomnakolhdcaaDoorRefSame
import Derived.Test.YtkjomnakolhdcaaDoorBilU4
namespace Go.Proofs.YtkjomnakolhdcaaDoor
set_option linter.unusedVariables false
set_option linter.unusedSimpArgs false
/-! Layer 35's reference: Do at a credit, SameBill at equal bills. Conditions: at most 1000 charges; the ledger keeps what it keeps; the tables are in memory. -/
section
open Go.RowKit
namespace Bil
/-- the bill that is none -/
def zb : Bill := ⟨0, 0, 0, [], [], []⟩
/-- the bill that a booking hands back -/
def outB (l : Lg) (x : Bk) : Bill := if doErr l x = 0 ∧ x.kind = 1 then billOf l x.a x.b x.ch else zb
end Bil
theorem rd_nil (w : World) (B : Nat) : Rd w B 1 none 0 (ivs []) := ⟨rfl, fun h => absurd h (by omega)⟩
theorem rbill_z (w : World) : RBillV w zBill Bil.zb := ⟨none, none, none, 0, 0, 0, 0, 0, 0, rfl, ⟨rfl, rfl, rfl⟩, rd_nil _ _, rd_nil _ _, rd_nil _ _⟩
theorem rbill_own {w : World} {base : Nat} {v : Value} {b : Bil.Bill} (h : BillV w base v b) : RBillV w v b := by
  obtain ⟨A1, A2, A3, c1, c2, c3, rfl, o1, o2, o3⟩ := h
  exact ⟨A1, A2, A3, _, _, _, c1, c2, c3, rfl, ⟨rfl, rfl, rfl⟩, Rd.of_own o1, Rd.of_own o2, Rd.of_own o3⟩
theorem RBillV.below {w w' : World} {v : Value} {b : Bil.Bill} (h : RBillV w v b) (hb : Below w.heap.size w w') : RBillV w' v b := by
  obtain ⟨A1, A2, A3, n1, n2, n3, c1, c2, c3, rfl, hl, r1, r2, r3⟩ := h
  exact ⟨A1, A2, A3, n1, n2, n3, c1, c2, c3, rfl, hl, (r1.below hb).more hb.size, (r2.below hb).more hb.size, (r3.below hb).more hb.size⟩
theorem RBillV.form {w : World} {v : Value} {b : Bil.Bill} (h : RBillV w v b) : ∃ L6 : List Value, v = .agg L6.toArray ∧ L6.length = 6 ∧ L6.all (·.oneCell') = true := by
  obtain ⟨A1, A2, A3, n1, n2, n3, c1, c2, c3, rfl, _⟩ := h
  exact ⟨[.int .i64 b.period, .int .i64 b.media, .int .i64 b.house, .slice A1 n1 c1, .slice A2 n2 c2, .slice A3 n3 c3], rfl, rfl, rfl⟩
/-- what a booking gives with the reference: the bill, the error, the ledger -/
def RDoRes (w : World) (bl : Nat) (col : Nat → Nat) (l : Bil.Lg) (x : Bil.Bk) (e : Ending) (w' : World) : Prop :=
  ∃ v col' m', e = .returned (.tuple #[v, .int .i64 (Bil.doErr l x)]) ∧ RBillC w' col' v (Bil.outB l x) ∧ RAt w' bl col' m' (Bil.doSt l x) ∧ Keep (fun b => col b ≠ 0 ∧ col b ≠ 6) w w' ∧ (∀ b, col' b ≠ 0 → col b ≠ 0 ∨ w.heap.size ≤ b) ∧ ∀ b, col b = 6 → col' b = 6
section
variable (bl : Nat) (col : Nat → Nat) (m : RM) (l : Bil.Lg)
end
theorem sameI (A B : Option Addr) (ca cb : Nat) (xs : List Int) (hL : xs.length ≤ 1000) (w W : World) (hw : Below w.heap.size w W) (ha : Rd w w.heap.size 1 A xs.length (ivs xs)) (hb : Rd w w.heap.size 1 B xs.length (ivs xs)) :
    Calls Tryd.prog 41 #[.slice A xs.length ca, .slice B xs.length cb] W fun e w' => e = .returned (.bool true) ∧ ∃ n, w' = W.drewN n := by
  refine (sameInts_any A B ca cb xs xs W (by unfold maxLen; omega) w.heap.size w.heap.size (ha.below hw) (hb.below hw)).mono ?_
  rintro e w' ⟨rfl, n, rfl⟩
  exact ⟨by rw [decide_eq_true rfl], n, rfl⟩
set_option maxRecDepth 100000 in
set_option maxHeartbeats 1600000 in
/-- SameBill at two equal bills -/
theorem rsame_any (b : Bil.Bill) (hc : b.charges.length ≤ 1000 ∧ b.credits.length ≤ 1000 ∧ b.nets.length ≤ 1000) (v v' : Value) (w : World) (h : RBillV w v b) (h' : RBillV w v' b) :
    Calls Tryd.prog 20 #[v, v'] w fun e w' => e = .returned (.bool true) ∧ Below w.heap.size w w' := by
  obtain ⟨P, M, H, C, U, T⟩ := b
  obtain ⟨A1, A2, A3, n1, n2, n3, c1, c2, c3, rfl, ⟨rfl, rfl, rfl⟩, r1, r2, r3⟩ := h
  obtain ⟨B1, B2, B3, m1, m2, m3, d1, d2, d3, rfl, ⟨rfl, rfl, rfl⟩, s1, s2, s3⟩ := h'
  obtain ⟨qx, qy⟩ := rows2 w 31 31 [.int .i64 P, .int .i64 M, .int .i64 H, .slice A1 C.length c1, .slice A2 U.length c2, .slice A3 T.length c3] [.int .i64 P, .int .i64 M, .int .i64 H, .slice B1 C.length d1, .slice B2 U.length d2, .slice B3 T.length d3]
  have hb2 := ((Below.refl w.heap.size w).alloc (Nat.le_refl _) (.cells [Value.int .i64 P, .int .i64 M, .int .i64 H, .slice A1 C.length c1, .slice A2 U.length c2, .slice A3 T.length c3].toArray 31)).alloc (by simp) (.cells [Value.int .i64 P, .int .i64 M, .int .i64 H, .slice B1 C.length d1, .slice B2 U.length d2, .slice B3 T.length d3].toArray 31)
  obtain ⟨w2, hw2⟩ : ∃ x, (w.alloc (.cells [Value.int .i64 P, .int .i64 M, .int .i64 H, .slice A1 C.length c1, .slice A2 U.length c2, .slice A3 T.length c3].toArray 31)).alloc (.cells [Value.int .i64 P, .int .i64 M, .int .i64 H, .slice B1 C.length d1, .slice B2 U.length d2, .slice B3 T.length d3].toArray 31) = x := ⟨_, rfl⟩
  rw [hw2] at qx qy hb2
  have HW2 := Lib.hid (show (w.alloc (.cells #[Value.int .i64 P, .int .i64 M, .int .i64 H, .slice A1 C.length c1, .slice A2 U.length c2, .slice A3 T.length c3] 31)).alloc (.cells #[Value.int .i64 P, .int .i64 M, .int .i64 H, .slice B1 C.length d1, .slice B2 U.length d2, .slice B3 T.length d3] 31) = w2 from hw2)
  obtain ⟨bx, hbx⟩ : ∃ x, w.heap.size = x := ⟨_, rfl⟩
  obtain ⟨by_, hby⟩ : ∃ x, bx + 1 = x := ⟨_, rfl⟩
  have HBX := Lib.hid (And.intro hbx hby)
  rw [hbx] at qx
  rw [hbx, hby] at qy
  have HS1 := Lib.hid (fun W (hW : Below w2.heap.size w2 W) => sameI A1 B1 c1 d1 C hc.1 w2 W hW ((r1.below hb2).more hb2.size) ((s1.below hb2).more hb2.size))
  have HS2 := Lib.hid (fun W (hW : Below w2.heap.size w2 W) => sameI A2 B2 c2 d2 U hc.2.1 w2 W hW ((r2.below hb2).more hb2.size) ((s2.below hb2).more hb2.size))
  have HS3 := Lib.hid (fun W (hW : Below w2.heap.size w2 W) => sameI A3 B3 c3 d3 T hc.2.2 w2 W hW ((r3.below hb2).more hb2.size) ((s3.below hb2).more hb2.size))
  have HB2 := Lib.hid hb2
  obtain ⟨k1, hk1⟩ : ∃ x, C.length = x := ⟨_, rfl⟩
  obtain ⟨k2, hk2⟩ : ∃ x, U.length = x := ⟨_, rfl⟩
  obtain ⟨k3, hk3⟩ : ∃ x, T.length = x := ⟨_, rfl⟩
  rw [hk1] at HS1 HW2 qx qy ⊢
  rw [hk2] at HS2 HW2 qx qy ⊢
  rw [hk3] at HS3 HW2 qx qy ⊢
  have x0 : w2.cell? ⟨bx, 0, none⟩ = some (.int .i64 P) := qx.cell 0
  have x1 : w2.cell? ⟨bx, 1, none⟩ = some (.int .i64 M) := qx.cell 1
  have x2 : w2.cell? ⟨bx, 2, none⟩ = some (.int .i64 H) := qx.cell 2
  have x3 : w2.cell? ⟨bx, 3, none⟩ = some (.slice A1 k1 c1) := qx.cell 3
  have x4 : w2.cell? ⟨bx, 4, none⟩ = some (.slice A2 k2 c2) := qx.cell 4
  have x5 : w2.cell? ⟨bx, 5, none⟩ = some (.slice A3 k3 c3) := qx.cell 5
  have y0 : w2.cell? ⟨by_, 0, none⟩ = some (.int .i64 P) := qy.cell 0
  have y1 : w2.cell? ⟨by_, 1, none⟩ = some (.int .i64 M) := qy.cell 1
  have y2 : w2.cell? ⟨by_, 2, none⟩ = some (.int .i64 H) := qy.cell 2
  have y3 : w2.cell? ⟨by_, 3, none⟩ = some (.slice B1 k1 d1) := qy.cell 3
  have y4 : w2.cell? ⟨by_, 4, none⟩ = some (.slice B2 k2 d2) := qy.cell 4
  have y5 : w2.cell? ⟨by_, 5, none⟩ = some (.slice B3 k3 d3) := qy.cell 5
  clear hw2 hbx hby qx qy hb2 r1 r2 r3 s1 s2 s3 hc hk1 hk2 hk3
  go_enter Tryd.func20, Tryd.ntmps20
  go_upto_region 1 with fail
  rw [show _ = w2 from HW2.out, show w.heap.size = bx from HBX.out.1, show bx + 1 = by_ from HBX.out.2]
  go_wp2_with (first
    | (have hgd := hz2; go_at_call 41; refine (HS3.out _ (below_drewN (Below.refl _ _) _)).mono ?_; rintro e w5 ⟨rfl, z3, hz3⟩; rw [hz3])
    | (have hgd := hz1; go_at_call 41; refine (HS2.out _ (below_drewN (Below.refl _ _) _)).mono ?_; rintro e w4 ⟨rfl, z2, hz2⟩; rw [hz2])
    | (go_at_call 41; refine (HS1.out _ (Below.refl _ _)).mono ?_; rintro e w3 ⟨rfl, z1, hz1⟩; rw [hz1]))
  go_ret
  exact ⟨rfl, below_drewN HB2.out _⟩
end
/-! Layer 35's reference: Close at whatever arguments. Conditions: at most 1000 charges; the ledger keeps what it keeps; the tables are in memory. -/
section
open Go.RowKit
section
variable (bl : Nat) (col : Nat → Nat) (m : RM) (l : Bil.Lg)
end
end
end Go.Proofs.YtkjomnakolhdcaaDoor
