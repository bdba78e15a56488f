/- Layer 37's laws: a list of tasks among the arguments, opened to plain data. No condition. -/
import Derived.Test.YtfihdenapjmaeaaLawKit2
import Derived.Test.YtfihdenapjmaeaaSch16
namespace Go.Proofs.Ytfihdenapjmaeaa
set_option linter.unusedVariables false
set_option linter.unusedSimpArgs false
open Go.RowKit Go.WideShapes Go.ChangeShapes Go.ChangeAt Go.Deep
section
variable {H : Type} {enc : TypeId × Value → H} {P : Program} {W : World} {t e : TypeId} {v : Value} {d : DataW H} {ps : List MemPlace} {r : Reach} {b0 : Nat}
theorem field_at0 {fs : Array Field} {fuel : Nat} {cs : List Value} {x : DataW H × List MemPlace} (he : P.underlying e = some (.struct fs)) (h : DataW.trod enc P W 0 (fun _ => true) true fuel e cs = some x) {j : Nat} {f : Field} (hj : fs[j]? = some f) :
    ∃ (n : Nat) (y : DataW H × List MemPlace), DataW.trod enc P W 0 (fun _ => true) true n f.type ((cs.drop f.offset).take (P.cellsOf f.type)) = some y := by
  obtain ⟨ys, n', _, hx, _, hyl, hf⟩ := DataW.trod_struct he h
  have hjl : j < fs.size := (Array.getElem?_eq_some_iff.1 hj).1
  have h1 := hf j f hj
  rw [List.getElem?_eq_getElem (by omega)] at h1
  exact ⟨_, _, h1⟩
theorem take1 {cs : List Value} {k : Nat} (h : k < cs.length) : (cs.drop k).take 1 = [cs[k]] := by rw [List.drop_eq_getElem_cons h]; rfl
def I63 (q : Int) : Prop := -9223372036854775808 ≤ q ∧ q ≤ 9223372036854775807
theorem cell_int {n : Nat} {cs : List Value} {y : DataW H × List MemPlace} {k : Nat} (hl : k < cs.length) (h : DataW.trod enc Try.prog W 0 (fun _ => true) true n 3 ((cs.drop k).take 1) = some y) : ∃ q : Int, cs[k] = .int .i64 q ∧ I63 q := by
  rw [take1 hl] at h
  obtain ⟨q, hq, hw⟩ := field_int Try.underlying3 h
  exact ⟨q, hq, int_range hw⟩
theorem taskFields : ∃ f0 f1 f2 f3 : Field, Try.prog.underlying 49 = some (.struct #[f0, f1, f2, f3]) ∧ (f0.type = 3 ∧ f0.offset = 0) ∧ (f1.type = 47 ∧ f1.offset = 1) ∧ (f2.type = 3 ∧ f2.offset = 3) ∧ (f3.type = 3 ∧ f3.offset = 4) :=
  ⟨_, _, _, _, Try.underlying49, ⟨rfl, rfl⟩, ⟨rfl, rfl⟩, ⟨rfl, rfl⟩, ⟨rfl, rfl⟩⟩
theorem stripeFields : ∃ f0 f1 : Field, Try.prog.underlying 47 = some (.struct #[f0, f1]) ∧ (f0.type = 3 ∧ f0.offset = 0) ∧ (f1.type = 3 ∧ f1.offset = 1) :=
  ⟨_, _, Try.underlying47, ⟨rfl, rfl⟩, ⟨rfl, rfl⟩⟩
theorem cellsI : Try.prog.cellsOf 3 = 1 := by kernel_rfl
theorem cellsS : Try.prog.cellsOf 47 = 2 := by kernel_rfl
def TkOk (t : Sc.Tk) : Prop := I63 t.kind ∧ I63 t.row ∧ I63 t.grp ∧ I63 t.left ∧ I63 t.bad
theorem task_cells {fuel : Nat} {cs : List Value} {x : DataW H × List MemPlace} (hl : cs.length = 5) (h : DataW.trod enc Try.prog W 0 (fun _ => true) true fuel 49 cs = some x) : ∃ t : Sc.Tk, cs = tcs t ∧ TkOk t := by
  obtain ⟨u0, u1, u2, u3, u4, rfl⟩ : ∃ u0 u1 u2 u3 u4, cs = [u0, u1, u2, u3, u4] := by
    match cs, hl with
    | [a, b, c, d, e], _ => exact ⟨a, b, c, d, e, rfl⟩
  obtain ⟨f0, f1, f2, f3, he, ⟨t0, o0⟩, ⟨t1, o1⟩, ⟨t2, o2⟩, ⟨t3, o3⟩⟩ := taskFields
  obtain ⟨n0, y0, h0⟩ := field_at0 he h (j := 0) (f := f0) rfl
  obtain ⟨n1, y1, h1⟩ := field_at0 he h (j := 1) (f := f1) rfl
  obtain ⟨n2, y2, h2⟩ := field_at0 he h (j := 2) (f := f2) rfl
  obtain ⟨n3, y3, h3⟩ := field_at0 he h (j := 3) (f := f3) rfl
  rw [t0, o0, cellsI] at h0
  rw [t1, o1, cellsS] at h1
  rw [t2, o2, cellsI] at h2
  rw [t3, o3, cellsI] at h3
  obtain ⟨g0, g1, he1, ⟨s0, p0⟩, ⟨s1, p1⟩⟩ := stripeFields
  obtain ⟨m0, z0, k0⟩ := field_at0 he1 h1 (j := 0) (f := g0) rfl
  obtain ⟨m1, z1, k1⟩ := field_at0 he1 h1 (j := 1) (f := g1) rfl
  rw [s0, p0, cellsI] at k0
  rw [s1, p1, cellsI] at k1
  obtain ⟨a, ha, ra⟩ := cell_int (by simp) h0
  obtain ⟨b, hb, rb⟩ := cell_int (by simp) k0
  obtain ⟨c, hc, rc⟩ := cell_int (by simp) k1
  obtain ⟨l, hl3, rl⟩ := cell_int (by simp) h2
  obtain ⟨q, hq, rq⟩ := cell_int (by simp) h3
  refine ⟨⟨a, b, c, l, q⟩, ?_, ra, rb, rc, rl, rq⟩
  simp at ha hb hc hl3 hq
  subst ha hb hc hl3 hq
  rfl
theorem arg_tasks (hval : Value.okWide Try.prog W r b0 23 v) (hd : DataW.Trod enc Try.prog W 0 (fun _ => true) true 23 v d ps) (hs : Sized Try.prog 23 d) :
    ∃ (A : Option Addr) (n c : Nat) (L : List Sc.Tk), v = .slice A n c ∧ n ≤ c ∧ c ≤ 140737488355328 ∧ L.length = n ∧ (∀ t ∈ L, TkOk t) ∧ Rd W W.heap.size 5 A n (L.flatMap tcs) := by
  obtain ⟨A, n, c, L, hv, h1, h2, h3, h4, h5⟩ := arg_elems (f := tcs) (Q := TkOk) (m := 5) (bytes := 40) Try.underlying23 (by kernel_rfl) (by kernel_rfl) (by omega) (by omega) (fun fuel cs x hl h => task_cells hl h) hval hd hs
  exact ⟨A, n, c, L, hv, h1, h2, h3, fun o ho => (h4 o ho).1, h5⟩
end
end Go.Proofs.Ytfihdenapjmaeaa
