/- Layer 22's laws: a script, a unit among the arguments, opened to plain data. No condition. -/
import Derived.Test.YtihhkcndcgljbaaGreatLawKit2
import Derived.Test.YtihhkcndcgljbaaGreatChkBF
namespace Go.Proofs.YtihhkcndcgljbaaGreat
set_option linter.unusedVariables false
set_option linter.unusedSimpArgs false
open Go.RowKit Go.WideShapes Go.ChangeShapes Go.ChangeAt Go.Deep
section
variable {H : Type} {enc : TypeId × Value → H} {P : Program} {W : World} {t e : TypeId} {v : Value} {d : DataW H} {ps : List MemPlace} {r : Reach} {b0 : Nat}
theorem field_at0 {fs : Array Field} {fuel : Nat} {cs : List Value} {x : DataW H × List MemPlace} (he : P.underlying e = some (.struct fs)) (h : DataW.trod enc P W 0 (fun _ => true) true fuel e cs = some x) {j : Nat} {f : Field} (hj : fs[j]? = some f) :
    ∃ (n : Nat) (y : DataW H × List MemPlace), DataW.trod enc P W 0 (fun _ => true) true n f.type ((cs.drop f.offset).take (P.cellsOf f.type)) = some y := by
  obtain ⟨ys, n', _, hx, _, hyl, hf⟩ := DataW.trod_struct he h
  have hjl : j < fs.size := (Array.getElem?_eq_some_iff.1 hj).1
  have h1 := hf j f hj
  rw [List.getElem?_eq_getElem (by omega)] at h1
  exact ⟨_, _, h1⟩
theorem take1 {cs : List Value} {k : Nat} (h : k < cs.length) : (cs.drop k).take 1 = [cs[k]] := by rw [List.drop_eq_getElem_cons h]; rfl
theorem cell_int {n : Nat} {cs : List Value} {y : DataW H × List MemPlace} {k : Nat} (hl : k < cs.length) (h : DataW.trod enc Tryz.prog W 0 (fun _ => true) true n 3 ((cs.drop k).take 1) = some y) : ∃ q : Int, cs[k] = .int .i64 q ∧ I64 q := by
  rw [take1 hl] at h
  obtain ⟨q, hq, hw⟩ := field_int Tryz.underlying3 h
  exact ⟨q, hq, int_range hw⟩
theorem cell_u8 {n : Nat} {cs : List Value} {y : DataW H × List MemPlace} {k : Nat} (hl : k < cs.length) (h : DataW.trod enc Tryz.prog W 0 (fun _ => true) true n 5 ((cs.drop k).take 1) = some y) : ∃ q : UInt8, cs[k] = .int .u8 (q.toNat : Int) := by
  rw [take1 hl] at h
  obtain ⟨q, hq, hw⟩ := field_int Tryz.underlying5 h
  have hr := u8_range hw
  refine ⟨UInt8.ofNat q.toNat, ?_⟩
  rw [hq]
  congr 1
  rw [UInt8.toNat_ofNat']
  omega
theorem cell_u32 {n : Nat} {cs : List Value} {y : DataW H × List MemPlace} {k : Nat} (hl : k < cs.length) (h : DataW.trod enc Tryz.prog W 0 (fun _ => true) true n 60 ((cs.drop k).take 1) = some y) : ∃ q : Int, cs[k] = .int .u32 q ∧ Chk.inR q 4294967296 := by
  rw [take1 hl] at h
  obtain ⟨q, hq, hw⟩ := field_int Tryz.underlying60 h
  have hr := u32_range hw
  exact ⟨q, hq, hr.1, by omega⟩
theorem opFields : ∃ f0 f1 f2 f3 f4 f5 f6 : Field, Tryz.prog.underlying 75 = some (.struct #[f0, f1, f2, f3, f4, f5, f6]) ∧ (f0.type = 3 ∧ f0.offset = 0) ∧ (f1.type = 3 ∧ f1.offset = 1) ∧ (f2.type = 3 ∧ f2.offset = 2) ∧ (f3.type = 3 ∧ f3.offset = 3) ∧ (f4.type = 55 ∧ f4.offset = 4) ∧ (f5.type = 5 ∧ f5.offset = 7) ∧ (f6.type = 60 ∧ f6.offset = 8) :=
  ⟨_, _, _, _, _, _, _, Tryz.underlying75, ⟨rfl, rfl⟩, ⟨rfl, rfl⟩, ⟨rfl, rfl⟩, ⟨rfl, rfl⟩, ⟨rfl, rfl⟩, ⟨rfl, rfl⟩, ⟨rfl, rfl⟩⟩
theorem unFields2 : ∃ f0 f1 : Field, Tryz.prog.underlying 55 = some (.struct #[f0, f1]) ∧ (f0.type = 35 ∧ f0.offset = 0) ∧ (f1.type = 3 ∧ f1.offset = 2) :=
  ⟨_, _, Tryz.underlying55, ⟨rfl, rfl⟩, ⟨rfl, rfl⟩⟩
theorem stFields2 : ∃ f0 f1 : Field, Tryz.prog.underlying 35 = some (.struct #[f0, f1]) ∧ (f0.type = 3 ∧ f0.offset = 0) ∧ (f1.type = 3 ∧ f1.offset = 1) :=
  ⟨_, _, Tryz.underlying35, ⟨rfl, rfl⟩, ⟨rfl, rfl⟩⟩
theorem cellsI : Tryz.prog.cellsOf 3 = 1 := by kernel_rfl
theorem cellsB : Tryz.prog.cellsOf 5 = 1 := by kernel_rfl
theorem cellsW : Tryz.prog.cellsOf 60 = 1 := by kernel_rfl
theorem cellsS : Tryz.prog.cellsOf 35 = 2 := by kernel_rfl
theorem cellsU : Tryz.prog.cellsOf 55 = 3 := by kernel_rfl
def UnOk (u : Chk.Un) : Prop := I64 u.r ∧ I64 u.g ∧ I64 u.u
theorem unit_cells {fuel : Nat} {cs : List Value} {x : DataW H × List MemPlace} (hl : cs.length = 3) (h : DataW.trod enc Tryz.prog W 0 (fun _ => true) true fuel 55 cs = some x) : ∃ u : Chk.Un, cs = [.int .i64 u.r, .int .i64 u.g, .int .i64 u.u] ∧ UnOk u := by
  obtain ⟨u0, u1, u2, rfl⟩ : ∃ u0 u1 u2, cs = [u0, u1, u2] := by
    match cs, hl with
    | [a, b, c], _ => exact ⟨a, b, c, rfl⟩
  obtain ⟨f0, f1, he, ⟨t0, o0⟩, ⟨t1, o1⟩⟩ := unFields2
  obtain ⟨n0, y0, h0⟩ := field_at0 he h (j := 0) (f := f0) rfl
  obtain ⟨n1, y1, h1⟩ := field_at0 he h (j := 1) (f := f1) rfl
  rw [t0, o0, cellsS] at h0
  rw [t1, o1, cellsI] at h1
  obtain ⟨g0, g1, he1, ⟨s0, p0⟩, ⟨s1, p1⟩⟩ := stFields2
  obtain ⟨m0, z0, k0⟩ := field_at0 he1 h0 (j := 0) (f := g0) rfl
  obtain ⟨m1, z1, k1⟩ := field_at0 he1 h0 (j := 1) (f := g1) rfl
  rw [s0, p0, cellsI] at k0
  rw [s1, p1, cellsI] at k1
  obtain ⟨a, ha, ra⟩ := cell_int (by simp) k0
  obtain ⟨b, hb, rb⟩ := cell_int (by simp) k1
  obtain ⟨c, hc, rc⟩ := cell_int (by simp) h1
  refine ⟨⟨a, b, c⟩, ?_, ra, rb, rc⟩
  simp at ha hb hc
  subst ha hb hc
  rfl
def OpOk (o : Chk.Op) : Prop := I64 o.kind ∧ I64 o.id ∧ I64 o.t ∧ I64 o.n ∧ UnOk o.u ∧ Chk.inR o.pr 4294967296
theorem op_cells {fuel : Nat} {cs : List Value} {x : DataW H × List MemPlace} (hl : cs.length = 9) (h : DataW.trod enc Tryz.prog W 0 (fun _ => true) true fuel 75 cs = some x) : ∃ o : Chk.Op, cs = opL o ∧ OpOk o := by
  obtain ⟨u0, u1, u2, u3, u4, u5, u6, u7, u8, rfl⟩ : ∃ u0 u1 u2 u3 u4 u5 u6 u7 u8, cs = [u0, u1, u2, u3, u4, u5, u6, u7, u8] := by
    match cs, hl with
    | [a, b, c, d, e, f, g, h, i], _ => exact ⟨a, b, c, d, e, f, g, h, i, rfl⟩
  obtain ⟨f0, f1, f2, f3, f4, f5, f6, he, ⟨t0, o0⟩, ⟨t1, o1⟩, ⟨t2, o2⟩, ⟨t3, o3⟩, ⟨t4, o4⟩, ⟨t5, o5⟩, ⟨t6, o6⟩⟩ := opFields
  obtain ⟨n0, y0, h0⟩ := field_at0 he h (j := 0) (f := f0) rfl
  obtain ⟨n1, y1, h1⟩ := field_at0 he h (j := 1) (f := f1) rfl
  obtain ⟨n2, y2, h2⟩ := field_at0 he h (j := 2) (f := f2) rfl
  obtain ⟨n3, y3, h3⟩ := field_at0 he h (j := 3) (f := f3) rfl
  obtain ⟨n4, y4, h4⟩ := field_at0 he h (j := 4) (f := f4) rfl
  obtain ⟨n5, y5, h5⟩ := field_at0 he h (j := 5) (f := f5) rfl
  obtain ⟨n6, y6, h6⟩ := field_at0 he h (j := 6) (f := f6) rfl
  rw [t0, o0, cellsI] at h0
  rw [t1, o1, cellsI] at h1
  rw [t2, o2, cellsI] at h2
  rw [t3, o3, cellsI] at h3
  rw [t4, o4, cellsU] at h4
  rw [t5, o5, cellsB] at h5
  rw [t6, o6, cellsW] at h6
  obtain ⟨a, ha, ra⟩ := cell_int (by simp) h0
  obtain ⟨b, hb, rb⟩ := cell_int (by simp) h1
  obtain ⟨c, hc, rc⟩ := cell_int (by simp) h2
  obtain ⟨d, hd, rd⟩ := cell_int (by simp) h3
  obtain ⟨u, hu, ru⟩ := unit_cells (by simp) h4
  obtain ⟨q, hq⟩ := cell_u8 (by simp) h5
  obtain ⟨p, hp, rp⟩ := cell_u32 (by simp) h6
  refine ⟨⟨a, b, c, d, u, q, p⟩, ?_, ra, rb, rc, rd, ru, rp⟩
  simp at ha hb hc hd hu hq hp
  obtain ⟨hu1, hu2, hu3⟩ := hu
  subst ha hb hc hd hu1 hu2 hu3 hq hp
  rfl
set_option maxRecDepth 100000 in
theorem arg_ops (hval : Value.okWide Tryz.prog W r b0 26 v) (hd : DataW.Trod enc Tryz.prog W 0 (fun _ => true) true 26 v d ps) (hs : Sized Tryz.prog 26 d) :
    ∃ (A : Option Addr) (n c : Nat) (L : List Chk.Op), v = .slice A n c ∧ n ≤ c ∧ c ≤ 140737488355328 ∧ L.length = n ∧ (∀ o ∈ L, OpOk o) ∧ Rd W W.heap.size 9 A n (L.flatMap opL) := by
  obtain ⟨A, n, c, L, hv, h1, h2, h3, h4, h5⟩ := arg_elems (f := opL) (Q := OpOk) (m := 9) (bytes := 64) Tryz.underlying26 (by kernel_rfl) (by kernel_rfl) (by omega) (by omega) (fun fuel cs x hl h => op_cells hl h) hval hd hs
  exact ⟨A, n, c, L, hv, h1, h2, h3, fun o ho => (h4 o ho).1, h5⟩
end
end Go.Proofs.YtihhkcndcgljbaaGreat
