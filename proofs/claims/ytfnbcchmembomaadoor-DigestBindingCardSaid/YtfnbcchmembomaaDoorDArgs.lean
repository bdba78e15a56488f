/- The arguments of digest's statements, opened to plain data. No condition. -/
import Derived.Test.YtfnbcchmembomaaDoorLawKit2
import Derived.Test.YtfnbcchmembomaaDoorDvs
import Derived.Test.YtfnbcchmembomaaDoorDigBase
namespace Go.Proofs.YtfnbcchmembomaaDoor
set_option linter.unusedVariables false
set_option linter.unusedSimpArgs false
open Go.RowKit Go.WideShapes Go.ChangeShapes Go.ChangeAt Go.Deep
open Go.WideMaps Go.WideElems
section
variable {H : Type} {enc : TypeId × Value → H} {P : Program} {W : World} {t e : TypeId} {v : Value} {d : DataW H} {ps : List MemPlace} {r : Reach} {b0 : Nat}
theorem i8_range {x : Int} (w : (Lit.int .i8 x).wf = true) : -128 ≤ x ∧ x ≤ 127 := by
  simp [Lit.wf, IntKind.min, IntKind.max, IntKind.bits, IntKind.signed] at w
  omega
theorem arg_i8 (ht : P.underlying t = some (.int .i8)) (hval : Value.okWide P W r b0 t v) (hd : DataW.Trod enc P W 0 (fun _ => true) true t v d ps) : ∃ n, v = .int .i8 n ∧ -128 ≤ n ∧ n ≤ 127 := by
  obtain ⟨n, hv, _, _, w⟩ := open_int ht hval hd
  exact ⟨n, hv, (i8_range w).1, (i8_range w).2⟩
theorem arg_strs (ht : P.underlying t = some (.slice e)) (he : P.underlying e = some .string) (hc : P.cellsOf e = 1) (hby : P.bytesOf e = 16)
    (hval : Value.okWide P W r b0 t v) (hd : DataW.Trod enc P W 0 (fun _ => true) true t v d ps) (hs : Sized P t d) :
    ∃ (A : Option Addr) (n c : Nat) (l : List ByteArray), v = .slice A n c ∧ n ≤ c ∧ c ≤ 140737488355328 ∧ l.length = n ∧ Rd W W.heap.size 1 A n (svs l) := by
  obtain ⟨A, n, c, l, hv, h1, h2, h3, _, h5⟩ := arg_elems (α := ByteArray) (f := fun s => [Value.string s]) (Q := fun _ => True) ht hc hby (by omega) (by omega) (fun fuel cs x _ hx => by
    obtain ⟨s, hs, _⟩ := DataW.trod_string he hx
    exact ⟨s, hs, trivial⟩) hval hd hs
  refine ⟨A, n, c, l, hv, h1, h2, h3, ?_⟩
  have key : ∀ l : List ByteArray, svs l = l.flatMap fun s => [Value.string s] := fun l => by
    induction l with
    | nil => rfl
    | cons a l ih =>
      rw [List.flatMap_cons, ← ih]; rfl
  rw [key]; exact h5
/-- the bytes of an array that reads -/
theorem bytes_of {m : Nat} {eb : TypeId} {fuel : Nat} {cs : List Value} {x : DataW H × List MemPlace} (he : P.underlying t = some (.array m eb)) (hb : P.underlying eb = some (.int .u8)) (hcb : P.cellsOf eb = 1) (hcl : cs.length = m)
    (htr : DataW.trod enc P W 0 (fun _ => true) true fuel t cs = some x) : ∃ l : List UInt8, cs = bvs l ∧ l.length = m := by
  obtain ⟨xs, n', _, _, _, hxl, hg⟩ := DataW.trod_array he htr
  rw [hcb] at hg
  have one : ∀ j (hj : j < m), ∃ q : Int, cs[j]? = some (.int .u8 q) ∧ 0 ≤ q ∧ q ≤ 255 := by
    intro j hj
    have h1 := hg j hj
    have hjl : j < cs.length := by omega
    have h2 : (cs.drop (j * 1)).take 1 = [cs[j]] := by
      rw [Nat.mul_one, List.drop_eq_getElem_cons hjl]; rfl
    rw [h2] at h1
    have hxs : ∃ y, xs[j]? = some y := ⟨xs[j]'(by omega), List.getElem?_eq_getElem (by omega)⟩
    obtain ⟨y, hy⟩ := hxs
    rw [hy] at h1
    obtain ⟨q, hq1, _, hq2⟩ := DataW.trod_int hb h1
    simp only [List.cons.injEq, and_true] at hq1
    exact ⟨q, by rw [List.getElem?_eq_getElem hjl, hq1], (u8_range hq2).1, (u8_range hq2).2⟩
  refine ⟨(List.range m).map fun j => match cs[j]? with | some (Value.int _ q) => UInt8.ofNat q.toNat | _ => 0, ?_, by simp⟩
  apply List.ext_getElem?
  intro j
  by_cases hj : j < m
  · obtain ⟨q, hq, hq0, hq1⟩ := one j hj
    rw [hq]
    simp only [bvs, List.map_map, List.getElem?_map, List.getElem?_range hj, Option.map_some, Function.comp, hq, UInt8.toNat_ofNat']
    congr 2
    omega
  · rw [List.getElem?_eq_none (by omega), List.getElem?_eq_none (by simp; omega)]
theorem arg_array {m : Nat} {eb : TypeId} (ht : P.underlying t = some (.array m eb)) (hb : P.underlying eb = some (.int .u8)) (hc : P.cellsOf t = m) (hcb : P.cellsOf eb = 1)
    (hval : Value.okWide P W r b0 t v) (hd : DataW.Trod enc P W 0 (fun _ => true) true t v d ps) : ∃ l : List UInt8, v = dv l ∧ l.length = m := by
  obtain ⟨fuel, hf⟩ := hd
  simp only [Value.okWide, ht] at hval
  obtain ⟨cs, rfl, h2, _⟩ := hval
  obtain ⟨l, hl, hlm⟩ := bytes_of (cs := cs.toList) ht hb hcb (by rw [Array.length_toList, h2, hc]) (by simpa [Value.cells] using hf)
  exact ⟨l, by rw [dv, ← hl], hlm⟩
end
end Go.Proofs.YtfnbcchmembomaaDoor
