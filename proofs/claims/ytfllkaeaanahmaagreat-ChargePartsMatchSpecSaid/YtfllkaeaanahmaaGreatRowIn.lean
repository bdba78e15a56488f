/- Arrays that are variables, inside a fence. No condition: plain lemmas over any program. -/
import Derived.Test.YtfllkaeaanahmaaGreatRow
import Derived.RangeFuncBox
import Derived.RangeFuncNested
import Derived.RangeFuncLeaves
import Derived.Shelf.Abstract
import Derived.Shelf.RegionOpen
import Derived.OwnWalkIn
import Derived.TacticsInMore
import Derived.LoopNIn
import Derived.LoopIn
import Derived.Maps.AppendAt
namespace Go.Proofs.YtfllkaeaanahmaaGreat
set_option linter.unusedVariables false
set_option linter.unusedSimpArgs false
open Go.RowKit Go.Shelf

section
variable {P : Program} {F : Fence} {nf : Nat} {w : World} {ops : Array Oper} {rest : List Oper} {o : Oper} {a : Act} {Q : Exit → Act → World → Prop}
theorem wpListIn_storeRow (hgd : o.guard = none) (ty : TypeId) (x y : Operand) (ho : o.op = .store ty x y) {b t : Nat} {l l' : List Value} (hr : IsRow w b t l) (hx : a.eval x = .pointer (some ⟨b, 0, none⟩))
  (hy : a.eval y = .agg l'.toArray) (hi : (P.info? ty).map (·.size) = some l'.length) (hl : l.length = l'.length) (h1 : l'.all (·.oneCell') = true)
  (h : ∀ w', IsRow w' b t l' → w.grownBy w' (some b) → w'.heap.size = w.heap.size → KeepsOthers w w' → wpListIn F nf P ops Q rest (a.put o.dst undef) w') : wpListIn F nf P ops Q (o :: rest) a w := by
 refine wpListIn_plain hgd fun K hK => ?_
 have hs := run_storeVar_row (P := P) w b t ty l.toArray l'.toArray hr (by simpa using hi) (by simpa using hl) (by simpa using h1)
 have hg : w.grownBy (w.setRow b l'.toArray) (some b) := ⟨rfl, rfl, rfl, by simp [World.setRow], fun k _ hk => setRow_other w b k _ (fun e => hk (by rw [e]))⟩
 unfold Oper.wpIn
 refine ⟨by simp [Oper.about, ho], ?_⟩
 rw [Oper.semAt_plain F _ _ (by rw [ho]; intro c hc'; cases hc')]
 unfold execOp
 simp only [ho, hx, hy, Instr.storeAt, Instr.sureAddr, Sem.run_bind, Sem.run_pure, Result.andThen_ok, hs]
 refine hK _ _ (h _ (setRow_heap w b _ _ t _ hr) hg (by simp [World.setRow]) (KeepsOthers.of_grownBy hg fun j o ej hj => ?_))
 have e1 := Option.some.inj ej
 subst e1
 have hr' : w.heap[b]? = some (.cells l.toArray t (0, 0)) := hr
 rw [hr'] at hj
 injection hj with hj
 rw [← hj]; rfl
theorem wpListIn_allocRow (hgd : o.guard = none) (ty : TypeId) (ho : o.op = .alloc ty) (zs : List Value) (hz : (P.info? ty).map (fun i => (i.zero, i.size)) = some (some (.agg zs.toArray), zs.length))
  (h : ∀ w', IsRow w' w.heap.size ty zs → Below w.heap.size w w' → w'.heap.size = w.heap.size + 1 → wpListIn F nf P ops Q rest (a.put o.dst (.pointer (some ⟨w.heap.size, 0, none⟩))) w') : wpListIn F nf P ops Q (o :: rest) a w := by
 refine wpListIn_plain hgd fun K hK => ?_
 have hz1 := (zero_of_info (P := P) hz).1
 have hn : Sem.run P (newVar ty (.agg zs.toArray)) w = .ok ⟨w.heap.size, 0, none⟩ (w.alloc (.cells zs.toArray ty)) := by
  simp [newVar, Value.cells, go_sem]
 unfold Oper.wpIn
 refine ⟨by simp [Oper.about, ho], ?_⟩
 rw [Oper.semAt_plain F _ _ (by rw [ho]; intro c hc'; cases hc')]
 unfold execOp
 simp only [ho, Instr.alloc, Sem.run_bind, Sem.run_pure, Result.andThen_ok, hz1, hn]
 exact hK _ _ (h _ (IsRow.new w ty zs) ((Below.refl _ _).alloc (Nat.le_refl _) _) (by simp))
end
end Go.Proofs.YtfllkaeaanahmaaGreat
