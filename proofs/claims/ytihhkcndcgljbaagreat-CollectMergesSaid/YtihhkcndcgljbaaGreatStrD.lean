/- stripes.index, stripes.Find; laws for rows of cells. Conditions: the rows are kept. -/
import Derived.Test.YtihhkcndcgljbaaGreatStrC
namespace Go.Proofs.YtihhkcndcgljbaaGreat.S
set_option linter.unusedVariables false
set_option linter.unusedSimpArgs false
open Go.RowKit
namespace Str
/-- the position of a used stripe in its row, or -1 -/
def ixr (l : List Rw) (r g : Int) : Int := if 0 ≤ r ∧ r < (l.length : Int) then idx (l.getD r.toNat free).used g else -1
/-- what Find gives -/
def fnd (l : List Rw) (r g : Int) : Option Us := if 0 ≤ ixr l r g then (l.getD r.toNat free).used[(ixr l r g).toNat]? else none
theorem idx_cases (l : List Us) (g : Int) : idx l g = -1 ∨ ∃ k : Nat, k < l.length ∧ idx l g = (k : Int) := by
  unfold idx at?
  cases h : l.findIdx? (fun u => decide (u.g = g)) with
  | none => exact .inl rfl
  | some k => exact .inr ⟨k, (List.findIdx?_eq_some_iff_getElem.1 h).1, rfl⟩
end Str
def fndV : Option Str.Us → Value
  | none => .tuple #[.agg (usL ⟨0, 0, 0⟩).toArray, .int .i64 12]
  | some u => .tuple #[.agg (usL u).toArray, .int .i64 0]
theorem put_some (t : Array Value) (d : List Deferred) (k : Nat) (v : Value) : ({ tmps := t, defers := d } : Act).put (some k) v = { tmps := t.setIfInBounds k v, defers := d } := rfl
abbrev gnV (e c : Int) : Value := .agg #[.int .i64 e, .int .i64 c]
abbrev stV (r g : Int) : Value := .agg #[.int .i64 r, .int .i64 g]
section
variable {P : Program} {w : World} {ops : Array Oper} {rest : List Oper} {o : Oper} {a : Act} {Q : Exit → Act → World → Prop}
/-- a struct into a new box -/
theorem wpList_boxRow (hgd : o.guard = none) (ty : TypeId) (x : Operand) (ho : o.op = .box ty x) (l : List Value) {cs : Array Value} (hx : a.eval x = .agg cs) (hcs : cs = l.toArray)
    (h : ∀ w', IsRow w' w.heap.size ty l → Below w.heap.size w w' → w'.heap.size = w.heap.size + 1 → wpList P ops Q rest (a.put o.dst (.pointer (some ⟨w.heap.size, 0, none⟩))) w') : wpList P ops Q (o :: rest) a w := by
  subst hcs
  refine wpList_plain hgd fun K hK => ?_
  have hn : Sem.run P (newVar ty (.agg l.toArray)) w = .ok ⟨w.heap.size, 0, none⟩ (w.alloc (.cells l.toArray ty)) := by
    simp [newVar, Value.cells, go_sem]
  unfold Oper.wp execOp
  simp only [ho, hx, Sem.run_bind, Sem.run_pure, Result.andThen_ok, hn]
  exact hK _ _ (h _ (IsRow.new w ty l) ((Below.refl _ _).alloc (Nat.le_refl _) _) (by simp))
end
def zUs : List Value := usL ⟨0, 0, 0⟩
theorem infoUs : (Tryz.prog.info? 107).map (fun i => (i.zero, i.size)) = some (some (.agg zUs.toArray), zUs.length) := by kernel_rfl
end Go.Proofs.YtihhkcndcgljbaaGreat.S
