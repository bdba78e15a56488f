/- Layer 24's laws: a configuration, rows, a script, a stripe, a generation among the arguments, opened to plain data. No condition. -/
import Derived.Test.YtfllkaeaanahmaaGreatLawKit3
import Derived.Test.YtfllkaeaanahmaaGreatStrX
namespace Go.Proofs.YtfllkaeaanahmaaGreat.S
set_option linter.unusedVariables false
set_option linter.unusedSimpArgs false
open Go.RowKit Go.WideShapes Go.ChangeShapes Go.ChangeAt Go.Deep
section
variable {H : Type} {enc : TypeId × Value → H} {P : Program} {W : World} {t e : TypeId} {v : Value} {d : DataW H} {ps : List MemPlace} {r : Reach} {b0 : Nat}
theorem take1 {cs : List Value} {k : Nat} (h : k < cs.length) : (cs.drop k).take 1 = [cs[k]] := by rw [List.drop_eq_getElem_cons h]; rfl
theorem cell_int {n : Nat} {cs : List Value} {y : DataW H × List MemPlace} {k : Nat} (hl : k < cs.length) (h : DataW.trod enc Tryz.prog W 0 (fun _ => true) true n 3 ((cs.drop k).take 1) = some y) : ∃ q : Int, cs[k] = .int .i64 q := by
 rw [take1 hl] at h
 obtain ⟨q, hq, hw⟩ := field_int Tryz.underlying3 h
 exact ⟨q, hq⟩
theorem cellsI : Tryz.prog.cellsOf 3 = 1 := by kernel_rfl
theorem cellsG : Tryz.prog.cellsOf 70 = 2 := by kernel_rfl
theorem cellsSl : Tryz.prog.cellsOf 100 = 1 := by kernel_rfl
theorem genF : ∃ f0 f1 : Field, Tryz.prog.underlying 70 = some (.struct #[f0, f1]) ∧ (f0.type = 3 ∧ f0.offset = 0) ∧ (f1.type = 3 ∧ f1.offset = 1) := ⟨_, _, Tryz.underlying70, ⟨rfl, rfl⟩, ⟨rfl, rfl⟩⟩
theorem usdF : ∃ f0 f1 : Field, Tryz.prog.underlying 72 = some (.struct #[f0, f1]) ∧ (f0.type = 3 ∧ f0.offset = 0) ∧ (f1.type = 70 ∧ f1.offset = 1) := ⟨_, _, Tryz.underlying72, ⟨rfl, rfl⟩, ⟨rfl, rfl⟩⟩
theorem rowF : ∃ f0 f1 f2 : Field, Tryz.prog.underlying 102 = some (.struct #[f0, f1, f2]) ∧ (f0.type = 3 ∧ f0.offset = 0) ∧ (f1.type = 3 ∧ f1.offset = 1) ∧ (f2.type = 100 ∧ f2.offset = 2) := ⟨_, _, _, Tryz.underlying102, ⟨rfl, rfl⟩, ⟨rfl, rfl⟩, ⟨rfl, rfl⟩⟩
theorem cfgF : ∃ f0 f1 f2 f3 f4 f5 : Field, Tryz.prog.underlying 23 = some (.struct #[f0, f1, f2, f3, f4, f5]) ∧ (f0.type = 3 ∧ f0.offset = 0) ∧ (f1.type = 3 ∧ f1.offset = 1) ∧ (f2.type = 3 ∧ f2.offset = 2) ∧ (f3.type = 3 ∧ f3.offset = 3) ∧ (f4.type = 3 ∧ f4.offset = 4) ∧ (f5.type = 3 ∧ f5.offset = 5) :=
 ⟨_, _, _, _, _, _, Tryz.underlying23, ⟨rfl, rfl⟩, ⟨rfl, rfl⟩, ⟨rfl, rfl⟩, ⟨rfl, rfl⟩, ⟨rfl, rfl⟩, ⟨rfl, rfl⟩⟩
theorem two_cells {fuel : Nat} {cs : List Value} {x : DataW H × List MemPlace} (hF : ∃ f0 f1 : Field, Tryz.prog.underlying t = some (.struct #[f0, f1]) ∧ (f0.type = 3 ∧ f0.offset = 0) ∧ (f1.type = 3 ∧ f1.offset = 1)) (hl : cs.length = 2) (h : DataW.trod enc Tryz.prog W 0 (fun _ => true) true fuel t cs = some x) : ∃ a b : Int, cs = [.int .i64 a, .int .i64 b] := by
 obtain ⟨u0, u1, rfl⟩ : ∃ u0 u1, cs = [u0, u1] := by
  match cs, hl with
  | [a, b], _ => exact ⟨a, b, rfl⟩
 obtain ⟨f0, f1, he, ⟨t0, o0⟩, ⟨t1, o1⟩⟩ := hF
 obtain ⟨n0, y0, h0, _⟩ := field_sz he h (j := 0) (f := f0) rfl
 obtain ⟨n1, y1, h1, _⟩ := field_sz he h (j := 1) (f := f1) rfl
 rw [t0, o0, cellsI] at h0
 rw [t1, o1, cellsI] at h1
 obtain ⟨a, ha⟩ := cell_int (by simp) h0
 obtain ⟨b, hb⟩ := cell_int (by simp) h1
 simp at ha hb
 exact ⟨a, b, by rw [ha, hb]⟩
theorem us_cells {fuel : Nat} {cs : List Value} {x : DataW H × List MemPlace} (hl : cs.length = 3) (h : DataW.trod enc Tryz.prog W 0 (fun _ => true) true fuel 72 cs = some x) : ∃ u : Str.Us, cs = usL u := by
 obtain ⟨u0, u1, u2, rfl⟩ : ∃ u0 u1 u2, cs = [u0, u1, u2] := by
  match cs, hl with
  | [a, b, c], _ => exact ⟨a, b, c, rfl⟩
 obtain ⟨f0, f1, he, ⟨t0, o0⟩, ⟨t1, o1⟩⟩ := usdF
 obtain ⟨n0, y0, h0, _⟩ := field_sz he h (j := 0) (f := f0) rfl
 obtain ⟨n1, y1, h1, _⟩ := field_sz he h (j := 1) (f := f1) rfl
 rw [t0, o0, cellsI] at h0
 rw [t1, o1, cellsG] at h1
 obtain ⟨a, ha⟩ := cell_int (by simp) h0
 obtain ⟨b, c, hb⟩ := two_cells genF (by simp) h1
 simp at ha hb
 exact ⟨⟨a, b, c⟩, by rw [ha, hb.1, hb.2]; rfl⟩
theorem row_cells {fuel : Nat} {cs : List Value} {x : DataW H × List MemPlace} (hl : cs.length = 3) (h : DataW.trod enc Tryz.prog W 0 (fun _ => true) true fuel 102 cs = some x) (hs : Sized Tryz.prog 102 x.1) : ∃ y : RR, cs = rwL y ∧ y.In W W.heap.size := by
 obtain ⟨u0, u1, u2, rfl⟩ : ∃ u0 u1 u2, cs = [u0, u1, u2] := by
  match cs, hl with
  | [a, b, c], _ => exact ⟨a, b, c, rfl⟩
 obtain ⟨f0, f1, f2, he, ⟨t0, o0⟩, ⟨t1, o1⟩, ⟨t2, o2⟩⟩ := rowF
 obtain ⟨n0, y0, h0, _⟩ := field_sz he h (j := 0) (f := f0) rfl
 obtain ⟨n1, y1, h1, _⟩ := field_sz he h (j := 1) (f := f1) rfl
 obtain ⟨n2, y2, h2, hs2⟩ := field_sz he h (j := 2) (f := f2) rfl
 replace hs2 := hs2 hs
 rw [t0, o0, cellsI] at h0
 rw [t1, o1, cellsI] at h1
 rw [t2, o2, cellsSl] at h2
 rw [t2] at hs2
 obtain ⟨a, ha⟩ := cell_int (by simp) h0
 obtain ⟨b, hb⟩ := cell_int (by simp) h1
 obtain ⟨A, n, c, L, e1, e2, e3, e4, e5, e6⟩ := elems_of (f := usL) (Q := fun _ => True) (m := 3) (bytes := 24) Tryz.underlying100 (by kernel_rfl) (by kernel_rfl) (by omega) (by omega) (fun fuel cs x hl h _ => by
  obtain ⟨u, hu⟩ := us_cells hl h
  exact ⟨u, hu, trivial⟩) h2 hs2
 simp at ha hb e1
 have hrb := reachBytes_lt
 subst e4
 exact ⟨⟨⟨a, b, L⟩, A, c⟩, by rw [ha, hb, e1]; rfl, e6, e2, by show L.length ≤ _; omega⟩
set_option maxRecDepth 100000 in
theorem arg_rows (hval : Value.okWide Tryz.prog W r b0 25 v) (hd : DataW.Trod enc Tryz.prog W 0 (fun _ => true) true 25 v d ps) (hs : Sized Tryz.prog 25 d) :
  ∃ (A : Option Addr) (n c : Nat) (D : List RR), v = .slice A n c ∧ n ≤ c ∧ RowsIn W W.heap.size A n D (D.map RR.r) := by
 obtain ⟨A, n, c, D, hv, h1, h2, h3, h4, h5⟩ := arg_elems3 (f := rwL) (Q := fun y => y.In W W.heap.size) (m := 3) (bytes := 40) Tryz.underlying25 (by kernel_rfl) (by kernel_rfl) (by omega) (by omega) (fun fuel cs x hl h hs => row_cells hl h hs) hval hd hs
 have hrb := reachBytes_lt
 exact ⟨A, n, c, D, hv, h1, h5, rfl, fun x hx => (h4 x hx).1, by omega⟩
set_option maxRecDepth 100000 in
theorem arg_cfg (hval : Value.okWide Tryz.prog W r b0 23 v) (hd : DataW.Trod enc Tryz.prog W 0 (fun _ => true) true 23 v d ps) : ∃ c : Str.Cfg, v = cfV c := by
 obtain ⟨f0, f1, f2, f3, f4, f5, he, ⟨t0, o0⟩, ⟨t1, o1⟩, ⟨t2, o2⟩, ⟨t3, o3⟩, ⟨t4, o4⟩, ⟨t5, o5⟩⟩ := cfgF
 obtain ⟨ca, rfl, hsz⟩ := okWide_struct he hval
 obtain ⟨fuel, hf⟩ := hd
 have hf : DataW.trod enc Tryz.prog W 0 (fun _ => true) true fuel 23 ca.toList = some (d, ps) := by simpa [Value.cells] using hf
 have hl : ca.toList.length = 6 := by rw [Array.length_toList, hsz]; kernel_rfl
 obtain ⟨cs, hcs⟩ : ∃ cs, ca.toList = cs := ⟨_, rfl⟩
 rw [hcs] at hf hl
 obtain ⟨u0, u1, u2, u3, u4, u5, rfl⟩ : ∃ u0 u1 u2 u3 u4 u5, cs = [u0, u1, u2, u3, u4, u5] := by
  match cs, hl with
  | [a, b, c, d, e, f], _ => exact ⟨a, b, c, d, e, f, rfl⟩
 obtain ⟨n0, y0, h0, _⟩ := field_sz he hf (j := 0) (f := f0) rfl
 obtain ⟨n1, y1, h1, _⟩ := field_sz he hf (j := 1) (f := f1) rfl
 obtain ⟨n2, y2, h2, _⟩ := field_sz he hf (j := 2) (f := f2) rfl
 obtain ⟨n3, y3, h3, _⟩ := field_sz he hf (j := 3) (f := f3) rfl
 obtain ⟨n4, y4, h4, _⟩ := field_sz he hf (j := 4) (f := f4) rfl
 obtain ⟨n5, y5, h5, _⟩ := field_sz he hf (j := 5) (f := f5) rfl
 rw [t0, o0, cellsI] at h0
 rw [t1, o1, cellsI] at h1
 rw [t2, o2, cellsI] at h2
 rw [t3, o3, cellsI] at h3
 rw [t4, o4, cellsI] at h4
 rw [t5, o5, cellsI] at h5
 obtain ⟨a, ha⟩ := cell_int (by simp) h0
 obtain ⟨b, hb⟩ := cell_int (by simp) h1
 obtain ⟨c, hc⟩ := cell_int (by simp) h2
 obtain ⟨q, hq⟩ := cell_int (by simp) h3
 obtain ⟨e, he⟩ := cell_int (by simp) h4
 obtain ⟨f, hf'⟩ := cell_int (by simp) h5
 simp at ha hb hc hq he hf'
 refine ⟨⟨a, b, c, q, e, f⟩, ?_⟩
 unfold cfV
 congr 1
 apply Array.toList_inj.1
 rw [hcs, ha, hb, hc, hq, he, hf']
end
end Go.Proofs.YtfllkaeaanahmaaGreat.S
