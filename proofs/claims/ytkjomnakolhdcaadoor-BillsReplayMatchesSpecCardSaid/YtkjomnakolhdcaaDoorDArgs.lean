/- The arguments of digest's statements, opened to plain data. No condition. -/
import Derived.Test.YtkjomnakolhdcaaDoorLawKit2
import Derived.Test.YtkjomnakolhdcaaDoorDvs
import Derived.Test.YtkjomnakolhdcaaDoorDigBase
namespace Go.Proofs.YtkjomnakolhdcaaDoor
set_option linter.unusedVariables false
set_option linter.unusedSimpArgs false
open Go.RowKit Go.WideShapes Go.ChangeShapes Go.ChangeAt Go.Deep
open Go.WideMaps Go.WideElems
section
variable {H : Type} {enc : TypeId × Value → H} {P : Program} {W : World} {t e : TypeId} {v : Value} {d : DataW H} {ps : List MemPlace} {r : Reach} {b0 : Nat}
theorem arg_strs (ht : P.underlying t = some (.slice e)) (he : P.underlying e = some .string) (hc : P.cellsOf e = 1) (hby : P.bytesOf e = 16)
    (hval : Value.okWide P W r b0 t v) (hd : DataW.Trod enc P W 0 (fun _ => true) true t v d ps) (hs : Sized P t d) :
    ∃ (A : Option Addr) (n c : Nat) (l : List ByteArray), v = .slice A n c ∧ n ≤ c ∧ c ≤ 140737488355328 ∧ l.length = n ∧ Rd W W.heap.size 1 A n (svs l) := by
  obtain ⟨A, n, c, l, hv, h1, h2, h3, _, h5⟩ := arg_elems (α := ByteArray) (f := fun s => [Value.string s]) (Q := fun _ => True) ht hc hby (by omega) (by omega) (fun fuel cs x _ hx => by
    obtain ⟨s, hs, _⟩ := DataW.trod_string he hx
    exact ⟨s, hs, trivial⟩) hval hd hs
  refine ⟨A, n, c, l, hv, h1, h2, h3, ?_⟩
  have key : ∀ l : List ByteArray, svs l = l.flatMap fun s => [Value.string s] := fun l => by
    induction l with
    | nil => rfl
    | cons a l ih =>
      rw [List.flatMap_cons, ← ih]; rfl
  rw [key]; exact h5
end
end Go.Proofs.YtkjomnakolhdcaaDoor
