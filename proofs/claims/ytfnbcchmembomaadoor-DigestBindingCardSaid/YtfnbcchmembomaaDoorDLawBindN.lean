/- The walk of the statement DigestBinding: it returns true. Conditions: what the argument is, the tables of SHA-256. -/
import Derived.Test.YtfnbcchmembomaaDoorDSan
import Derived.Test.YtfnbcchmembomaaDoorDArgs3
import Derived.Test.YtfnbcchmembomaaDoorRefVerify
import Derived.Test.YtfnbcchmembomaaDoorBindC
namespace Go.Proofs.YtfnbcchmembomaaDoor
set_option linter.unusedVariables false
set_option linter.unusedSimpArgs false
open Go.RowKit
theorem wpList_load_midG {P : Program} {w : World} {ops : Array Oper} {rest : List Oper} {o : Oper} {a : Act} {Q : Exit → Act → World → Prop} (hw : Region.wanted o (yielded ops a.tmps) = true) (ty : TypeId) (x : Operand) (ho : o.op = .load ty x) (b off : Nat) (hx : a.eval x = .pointer (some ⟨b, off, none⟩)) (l : List Value) (ud : TypeDesc) (hr : w.rangeAt b off l)
    (hu : P.underlying ty = some ud) (ha : ud.isRow = true) (hi : (P.info? ty).map (·.size) = some l.length) (h : wpList P ops Q rest (a.put o.dst (.agg l.toArray)) w) : wpList P ops Q (o :: rest) a w :=
  wpList_step fun K hK => by
    rw [if_pos hw]
    exact wp_load_mid ty x ho b off hx l _ hr hu ha hi (hK _ _ h)
def bics (N I : Int) (a b : List UInt8) (p q : Value) : List Value := [.int .i64 N] ++ ([.int .i64 I] ++ (bvs a ++ (bvs b ++ ([p] ++ [q]))))
theorem bind_rows {w : World} {g t : Nat} {a b : List UInt8} {N I : Int} {p q : Value} (h : IsRow w g t (bics N I a b p q)) (ha : a.length = 16) (hb : b.length = 16) :
    w.cell? ⟨g, 0, none⟩ = some (.int .i64 N) ∧ w.cell? ⟨g, 1, none⟩ = some (.int .i64 I) ∧ w.rangeAt g 2 (bvs a) ∧ w.rangeAt g 18 (bvs b) ∧ w.cell? ⟨g, 34, none⟩ = some p ∧ w.cell? ⟨g, 35, none⟩ = some q := by
  have hax : (bvs a).length = 16 := by rw [bvs_len, ha]
  have hbx : (bvs b).length = 16 := by rw [bvs_len, hb]
  have hc : ∀ k, w.cell? ⟨g, k, none⟩ = (bics N I a b p q)[k]? := fun k => h.cell k
  unfold bics at hc
  refine ⟨by rw [hc]; rfl, by rw [hc]; rfl, fun j u hu => ?_, fun j u hu => ?_, ?_, ?_⟩
  · have hj : j < (bvs a).length := (List.getElem?_eq_some_iff.1 hu).1
    have e : [Value.int .i64 N] ++ ([Value.int .i64 I] ++ (bvs a ++ (bvs b ++ ([p] ++ [q])))) = [Value.int .i64 N, .int .i64 I] ++ (bvs a ++ (bvs b ++ ([p] ++ [q]))) := rfl
    rw [hc, e, List.getElem?_append_right (by show 2 ≤ 2 + j; omega), show 2 + j - ([Value.int .i64 N, .int .i64 I] : List Value).length = j from by show 2 + j - 2 = j; omega, List.getElem?_append_left hj]; exact hu
  · have hj : j < (bvs b).length := (List.getElem?_eq_some_iff.1 hu).1
    have e : [Value.int .i64 N] ++ ([Value.int .i64 I] ++ (bvs a ++ (bvs b ++ ([p] ++ [q])))) = ([Value.int .i64 N, .int .i64 I] ++ bvs a) ++ (bvs b ++ ([p] ++ [q])) := by simp
    have l18 : ([Value.int .i64 N, .int .i64 I] ++ bvs a).length = 18 := by rw [List.length_append, hax]; rfl
    rw [hc, e, List.getElem?_append_right (by omega), l18, show 18 + j - 18 = j from by omega, List.getElem?_append_left hj]; exact hu
  all_goals
    have e : [Value.int .i64 N] ++ ([Value.int .i64 I] ++ (bvs a ++ (bvs b ++ ([p] ++ [q])))) = ([Value.int .i64 N, .int .i64 I] ++ bvs a ++ bvs b) ++ [p, q] := by simp
    have l34 : ([Value.int .i64 N, .int .i64 I] ++ bvs a ++ bvs b).length = 34 := by rw [List.length_append, List.length_append, hax, hbx]; rfl
    rw [hc, e, List.getElem?_append_right (by omega), l34]; rfl
set_option maxRecDepth 100000 in
set_option maxHeartbeats 3200000 in
theorem lawBind_big (a b : List UInt8) (ha : a.length = 16) (hb : b.length = 16) (N I : Int) (A : Option Addr) (p pc : Nat) (B : Option Addr) (q qc : Nat) (w : World) (hT : Tabs w) (hbig : 70 < p ∨ 70 < q) :
    Calls Tryd.prog 6 #[.agg (bics N I a b (.slice A p pc) (.slice B q qc)).toArray] w fun e w' => e = .returned (.bool true) ∧ Below w.heap.size w w' := by
  have R0 := IsRow.new w 42 (bics N I a b (.slice A p pc) (.slice B q qc))
  have hb0 : Below w.heap.size w (w.alloc (.cells (bics N I a b (.slice A p pc) (.slice B q qc)).toArray 42)) := (Below.refl _ w).alloc (Nat.le_refl _) _
  generalize (bics N I a b (.slice A p pc) (.slice B q qc)).toArray = va at *
  obtain ⟨w0, hw0⟩ : ∃ w0, w.alloc (.cells va 42) = w0 := ⟨_, rfl⟩
  rw [hw0] at R0 hb0
  have HW0 := Lib.hid hw0
  have hT0 := hT.below hb0
  have HA := Lib.hid ha
  have HB := Lib.hid hb
  clear hw0 ha hb
  by_cases h1 : 70 < p
  · have h1' : (70 : Int) < p := by omega
    go_enter Tryd.func6, Tryd.ntmps6
    go_wp2_with (go_at_call 10; rw [HW0.out]; refine (sanity_any _ hT0).mono ?_; rintro e w1 ⟨rfl, b1⟩; have q1 := hb0.trans (b1.mono hb0.size); have R1 := R0.below' b1; obtain ⟨cN1, cI1, ra1, rb1, cP1, cQ1⟩ := bind_rows R1 HA.out HB.out)
    go_ret
    exact ⟨rfl, q1⟩
  · have h1' : ¬ (70 : Int) < p := by omega
    have h2' : (70 : Int) < q := by omega
    go_enter Tryd.func6, Tryd.ntmps6
    go_wp2_with (go_at_call 10; rw [HW0.out]; refine (sanity_any _ hT0).mono ?_; rintro e w1 ⟨rfl, b1⟩; have q1 := hb0.trans (b1.mono hb0.size); have R1 := R0.below' b1; obtain ⟨cN1, cI1, ra1, rb1, cP1, cQ1⟩ := bind_rows R1 HA.out HB.out)
    go_ret
    exact ⟨rfl, q1⟩
set_option maxRecDepth 100000 in
set_option maxHeartbeats 3200000 in
theorem lawBind_no (a b : List UInt8) (ha : a.length = 16) (hb : b.length = 16) (N I : Int) (A : Option Addr) (p pc : Nat) (B : Option Addr) (q qc : Nat) (w : World) (hT : Tabs w) (h1 : ¬ (70 : Int) < p) (h2 : ¬ (70 : Int) < q) (o : Option (List UInt8 × List UInt8)) (HC : Hid (∀ W, Below w.heap.size w W → Calls Tryd.prog 22 #[.int .i64 N, .int .i64 I, dv a, dv b, .slice A p pc, .slice B q qc] W (CRes o W))) (HR : Hid (∀ W, Below w.heap.size w W → Calls Tryd.prog 23 #[.int .i64 N, .int .i64 I, dv a, dv b, .slice A p pc, .slice B q qc] W (RCRes o W))) (ho : o = none) (HI : Hid (∀ W, Below w.heap.size w W → Calls Tryd.prog 24 #[.int .i64 N, .int .i64 I, dv a, .slice A p pc] W (InNo W))) :
    Calls Tryd.prog 6 #[.agg (bics N I a b (.slice A p pc) (.slice B q qc)).toArray] w fun e w' => e = .returned (.bool true) ∧ Below w.heap.size w w' := by
  have R0 := IsRow.new w 42 (bics N I a b (.slice A p pc) (.slice B q qc))
  have hb0 : Below w.heap.size w (w.alloc (.cells (bics N I a b (.slice A p pc) (.slice B q qc)).toArray 42)) := (Below.refl _ w).alloc (Nat.le_refl _) _
  generalize (bics N I a b (.slice A p pc) (.slice B q qc)).toArray = va at *
  obtain ⟨w0, hw0⟩ : ∃ w0, w.alloc (.cells va 42) = w0 := ⟨_, rfl⟩
  rw [hw0] at R0 hb0
  have HW0 := Lib.hid hw0
  have hT0 := hT.below hb0
  have HA := Lib.hid ha
  have HB := Lib.hid hb
  clear hw0 ha hb
  have HO := Lib.hid ho
  clear ho
  obtain ⟨xl, hxl⟩ : ∃ x, (o.map Prod.fst).getD [] = x := ⟨_, rfl⟩
  obtain ⟨yl, hyl⟩ : ∃ x, (o.map Prod.snd).getD [] = x := ⟨_, rfl⟩
  obtain ⟨fnd, hfnd⟩ : ∃ x, o.isSome = x := ⟨_, rfl⟩
  unfold CRes at HC
  unfold RCRes at HR
  rw [hxl, hyl, hfnd] at HC HR
  obtain ⟨sx, hsx⟩ : ∃ s : ByteArray, ⟨xl.toArray⟩ = s := ⟨_, rfl⟩
  obtain ⟨sy, hsy⟩ : ∃ s : ByteArray, ⟨yl.toArray⟩ = s := ⟨_, rfl⟩
  have HSX := Lib.hid hsx
  have HSY := Lib.hid hsy
  have HXL := Lib.hid hxl
  have HYL := Lib.hid hyl
  have HFND := Lib.hid hfnd
  clear hxl hyl hfnd hsx hsy
  go_enter Tryd.func6, Tryd.ntmps6
  go_upto_region 2 with (go_at_call 10; rw [HW0.out]; refine (sanity_any _ hT0).mono ?_; rintro e w1 ⟨rfl, b1⟩; have q1 := hb0.trans (b1.mono hb0.size); have R1 := R0.below' b1; obtain ⟨cN1, cI1, ra1, rb1, cP1, cQ1⟩ := bind_rows R1 HA.out HB.out)
  go_upto_region 4 with fail
  go_upto_region 5 with (first
    | (refine wpList_load_mid rfl _ (.tmp 30) rfl w.heap.size 2 rfl (bvs a) _ ra1 Tryd.underlying30 rfl (by rw [bvs_len, HA.out]; exact size16) ?_)
    | (refine wpList_load_mid rfl _ (.tmp 32) rfl w.heap.size 18 rfl (bvs b) _ rb1 Tryd.underlying30 rfl (by rw [bvs_len, HB.out]; exact size16) ?_)
    | (go_at_call 22; refine (HC.out _ q1).mono ?_; rintro e w2 ⟨A1, N1, c1, A2, N2, c2, rfl, b2, hN1, rd1, hN2, rd2⟩; have q2 := q1.trans (b2.mono q1.size); have R2 := R1.below' b2; obtain ⟨cN2, cI2, ra2, rb2, cP2, cQ2⟩ := bind_rows R2 HA.out HB.out; clear cN1 cI1 ra1 rb1 cP1 cQ1 R1; have HRD := Lib.hid (And.intro hN1 (And.intro rd1 (And.intro hN2 rd2))); clear hN1 rd1 hN2 rd2))
  go_upto_region 6 with (first
    | (refine wpList_load_mid rfl _ (.tmp 46) rfl w.heap.size 2 rfl (bvs a) _ ra2 Tryd.underlying30 rfl (by rw [bvs_len, HA.out]; exact size16) ?_)
    | (refine wpList_load_mid rfl _ (.tmp 48) rfl w.heap.size 18 rfl (bvs b) _ rb2 Tryd.underlying30 rfl (by rw [bvs_len, HB.out]; exact size16) ?_)
    | (go_at_call 23; refine (HR.out _ q2).mono ?_; rintro e w3 ⟨A3, N3, c3, A4, N4, c4, rfl, b3, hN3, rd3, hN4, rd4⟩; have q3 := q2.trans (b3.mono q2.size); have R3 := R2.below' b3; obtain ⟨cN3, cI3, ra3, rb3, cP3, cQ3⟩ := bind_rows R3 HA.out HB.out; clear cN2 cI2 ra2 rb2 cP2 cQ2 R2; have HRE := Lib.hid (And.intro hN3 (And.intro rd3 (And.intro hN4 rd4))); clear hN3 rd3 hN4 rd4))
  have rz5 := IsRow.new w3 46 [.slice A3 N3 c3, .slice A4 N4 c4, .bool fnd]
  have b35 : Below w3.heap.size w3 (w3.alloc (.cells #[.slice A3 N3 c3, .slice A4 N4 c4, .bool fnd] 46)) := (Below.refl _ _).alloc (Nat.le_refl _) _
  obtain ⟨w5, hw5⟩ : ∃ x, w3.alloc (.cells #[.slice A3 N3 c3, .slice A4 N4 c4, .bool fnd] 46) = x := ⟨_, rfl⟩
  rw [hw5] at b35 ⊢
  have rz5 : IsRow w5 w3.heap.size 46 [.slice A3 N3 c3, .slice A4 N4 c4, .bool fnd] := hw5 ▸ rz5
  have q5 := q3.trans (b35.mono q3.size)
  have R5 := R3.below' b35
  obtain ⟨cN5, cI5, ra5, rb5, cP5, cQ5⟩ := bind_rows R5 HA.out HB.out
  obtain ⟨hN1, rd1, hN2, rd2⟩ := HRD.out
  obtain ⟨hN3, rd3, hN4, rd4⟩ := HRE.out
  have b25 := b3.trans (b35.mono b3.size)
  have cv1 := run_toS w5 22 9 5 Tryd.underlying22 Tryd.underlying5 Tryd.underlying9 A1 N1 c1 _ xl (rd1.below b25)
  have cv2 := run_toS w5 22 9 5 Tryd.underlying22 Tryd.underlying5 Tryd.underlying9 A2 N2 c2 _ yl (rd2.below b25)
  have cv3 := run_toS w5 22 9 5 Tryd.underlying22 Tryd.underlying5 Tryd.underlying9 A3 N3 c3 _ xl (rd3.below b35)
  have cv4 := run_toS w5 22 9 5 Tryd.underlying22 Tryd.underlying5 Tryd.underlying9 A4 N4 c4 _ yl (rd4.below b35)
  rw [HSX.out] at cv1 cv3
  rw [HSY.out] at cv2 cv4
  have kz0 : w5.cell? ⟨w3.heap.size, 0, none⟩ = some (.slice A3 N3 c3) := rz5.cell 0
  have kz1 : w5.cell? ⟨w3.heap.size, 1, none⟩ = some (.slice A4 N4 c4) := rz5.cell 1
  have kz2 : w5.cell? ⟨w3.heap.size, 2, none⟩ = some (.bool fnd) := rz5.cell 2
  have B25 := Lib.hid b25
  obtain ⟨b7, hb7⟩ : ∃ x, w3.heap.size = x := ⟨_, rfl⟩
  try rw [hb7]
  rw [hb7] at kz0 kz1 kz2
  clear hw5 rz5 hN1 rd1 hN2 rd2 hN3 rd3 hN4 rd4 b25 b35 cN3 cI3 ra3 rb3 cP3 cQ3 R3 b2 b3 HRE hb7
  obtain rfl : fnd = false := by rw [← HFND.out, HO.out]; rfl
  go_upto_region 8 with fail
  go_upto_region 9 with (first
    | (refine wpList_load_mid rfl _ (.tmp 80) rfl w.heap.size 2 rfl (bvs a) _ ra5 Tryd.underlying30 rfl (by rw [bvs_len, HA.out]; exact size16) ?_)
    | (go_at_call 24; refine (HI.out _ q5).mono ?_; rintro e w6 ⟨v6, rfl, b6⟩; have q6 := q5.trans (b6.mono q5.size)))
  go_wp2_with fail
  go_ret
  exact ⟨rfl, q6⟩
end Go.Proofs.YtfnbcchmembomaaDoor
