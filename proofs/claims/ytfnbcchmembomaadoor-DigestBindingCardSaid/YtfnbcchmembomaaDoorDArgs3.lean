/- What the argument of DigestBinding is. No condition: read off the kit's reading of an argument. -/
import Derived.Test.YtfnbcchmembomaaDoorDArgs2
namespace Go.Proofs.YtfnbcchmembomaaDoor
set_option linter.unusedVariables false
set_option linter.unusedSimpArgs false
open Go.RowKit Go.WideShapes Go.ChangeShapes Go.ChangeAt Go.Deep
open Go.WideMaps Go.WideElems
section
variable {H : Type} {enc : TypeId × Value → H} {P : Program} {W : World} {t e : TypeId} {v : Value} {d : DataW H} {ps : List MemPlace} {r : Reach} {b0 : Nat}
theorem bindFields : ∃ f0 f1 f2 f3 f4 f5 : Field, Tryd.prog.underlying 42 = some (.struct #[f0, f1, f2, f3, f4, f5]) ∧ (f0.type = 3 ∧ f0.offset = 0) ∧ (f1.type = 3 ∧ f1.offset = 1) ∧ (f2.type = 30 ∧ f2.offset = 2) ∧ (f3.type = 30 ∧ f3.offset = 18) ∧ (f4.type = 34 ∧ f4.offset = 34) ∧ (f5.type = 34 ∧ f5.offset = 35) :=
  ⟨_, _, _, _, _, _, Tryd.underlying42, ⟨rfl, rfl⟩, ⟨rfl, rfl⟩, ⟨rfl, rfl⟩, ⟨rfl, rfl⟩, ⟨rfl, rfl⟩, ⟨rfl, rfl⟩⟩
structure BindArg where
  n : Int
  i : Int
  a : List UInt8
  b : List UInt8
  A : Option Addr
  p : Nat
  pc : Nat
  pr : List (List UInt8)
  B : Option Addr
  q : Nat
  qc : Nat
  qr : List (List UInt8)
def BindArg.cells (y : BindArg) : List Value := [.int .i64 y.n] ++ ([.int .i64 y.i] ++ (bvs y.a ++ (bvs y.b ++ ([.slice y.A y.p y.pc] ++ [.slice y.B y.q y.qc]))))
structure BindArg.Ok (y : BindArg) (w : World) : Prop where
  a : y.a.length = 16
  b : y.b.length = 16
  n : -9223372036854775808 ≤ y.n ∧ y.n ≤ 9223372036854775807
  i : -9223372036854775808 ≤ y.i ∧ y.i ≤ 9223372036854775807
  p1 : y.p ≤ y.pc
  p2 : y.pc ≤ 140737488355328
  p3 : y.pr.length = y.p
  p4 : D16 y.pr
  p5 : Rd w w.heap.size 16 y.A y.p (dvs y.pr)
  q1 : y.q ≤ y.qc
  q2 : y.qc ≤ 140737488355328
  q3 : y.qr.length = y.q
  q4 : D16 y.qr
  q5 : Rd w w.heap.size 16 y.B y.q (dvs y.qr)
theorem arg_digestBindingIn (hval : Value.okWide Tryd.prog W r b0 42 v) (hd : DataW.Trod enc Tryd.prog W 0 (fun _ => true) true 42 v d ps) (hs : Sized Tryd.prog 42 d) :
    ∃ y : BindArg, v = .agg y.cells.toArray ∧ y.Ok W := by
  obtain ⟨f0, f1, f2, f3, f4, f5, he, ⟨t0, o0⟩, ⟨t1, o1⟩, ⟨t2, o2⟩, ⟨t3, o3⟩, ⟨t4, o4⟩, ⟨t5, o5⟩⟩ := bindFields
  obtain ⟨ca, rfl, hsz⟩ := okWide_struct he hval
  rw [show Tryd.prog.cellsOf 42 = 36 from by kernel_rfl] at hsz
  obtain ⟨fuel, hf⟩ := hd
  have hf : DataW.trod enc Tryd.prog W 0 (fun _ => true) true fuel 42 ca.toList = some (d, ps) := by simpa [Value.cells] using hf
  obtain ⟨cs, hcs⟩ : ∃ cs, ca.toList = cs := ⟨_, rfl⟩
  have hl : cs.length = 36 := by rw [← hcs, Array.length_toList, hsz]
  rw [hcs] at hf
  obtain ⟨n0, y0, h0, s0⟩ := field_at he hf hs (j := 0) (f := f0) rfl
  obtain ⟨n1, y1, h1, s1⟩ := field_at he hf hs (j := 1) (f := f1) rfl
  obtain ⟨n2, y2, h2, s2⟩ := field_at he hf hs (j := 2) (f := f2) rfl
  obtain ⟨n3, y3, h3, s3⟩ := field_at he hf hs (j := 3) (f := f3) rfl
  obtain ⟨n4, y4, h4, s4⟩ := field_at he hf hs (j := 4) (f := f4) rfl
  obtain ⟨n5, y5, h5, s5⟩ := field_at he hf hs (j := 5) (f := f5) rfl
  rw [t0, o0, show Tryd.prog.cellsOf 3 = 1 from by kernel_rfl] at h0
  rw [t1, o1, show Tryd.prog.cellsOf 3 = 1 from by kernel_rfl] at h1
  rw [t2, o2, show Tryd.prog.cellsOf 30 = 16 from by kernel_rfl] at h2
  rw [t3, o3, show Tryd.prog.cellsOf 30 = 16 from by kernel_rfl] at h3
  rw [t4, o4, show Tryd.prog.cellsOf 34 = 1 from by kernel_rfl] at h4
  rw [t5, o5, show Tryd.prog.cellsOf 34 = 1 from by kernel_rfl] at h5
  rw [t4] at s4
  rw [t5] at s5
  obtain ⟨N, e0, r0⟩ := part_int (by omega) h0
  obtain ⟨I, e1, r1⟩ := part_int (by omega) h1
  obtain ⟨da, e2, l2⟩ := part_dig (by omega) h2
  obtain ⟨db, e3, l3⟩ := part_dig (by omega) h3
  obtain ⟨A, m, c, l, e4, p1, p2, p3, p4, p5⟩ := part_digs (by omega) h4 s4
  obtain ⟨B, m', c', l', e5, q1, q2, q3, q4, q5⟩ := part_digs (by omega) h5 s5
  refine ⟨⟨N, I, da, db, A, m, c, l, B, m', c', l'⟩, ?_, l2, l3, r0, r1, p1, p2, p3, p4, p5, q1, q2, q3, q4, q5⟩
  congr 1
  apply Array.toList_inj.1
  rw [hcs]
  show cs = [.int .i64 N] ++ ([.int .i64 I] ++ (bvs da ++ (bvs db ++ ([.slice A m c] ++ [.slice B m' c']))))
  rw [← e0, ← e1, ← e2, ← e3, ← e4, ← e5]
  have g6 : cs.drop 36 = [] := List.drop_eq_nil_of_le (by omega)
  have g5 := cut_at cs 35 1
  have g4 := cut_at cs 34 1
  have g3 := cut_at cs 18 16
  have g2 := cut_at cs 2 16
  have g1 := cut_at cs 1 1
  have g0 := cut_at cs 0 1
  rw [show 35 + 1 = 36 from rfl, g6, List.append_nil] at g5
  rw [show 34 + 1 = 35 from rfl] at g4
  rw [show 18 + 16 = 34 from rfl] at g3
  rw [show 2 + 16 = 18 from rfl] at g2
  rw [show 1 + 1 = 2 from rfl] at g1
  rw [show 0 + 1 = 1 from rfl] at g0
  rw [← g5, ← g4, ← g3, ← g2, ← g1, ← g0]; rfl
end
end Go.Proofs.YtfnbcchmembomaaDoor
