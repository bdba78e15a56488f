/- Arrays that are variables, inside a fence. No condition: plain lemmas over any program. -/
import Derived.Test.YtcmgnjdhjnclkaaRow
import Derived.RangeFuncBox
import Derived.RangeFuncNested
import Derived.RangeFuncLeaves
import Derived.Shelf.Abstract
import Derived.Shelf.RegionOpen
import Derived.OwnWalkIn
import Derived.TacticsInMore
import Derived.LoopNIn
import Derived.LoopIn
import Derived.Maps.AppendAt
namespace Go.Proofs.Ytcmgnjdhjnclkaa
set_option linter.unusedVariables false
set_option linter.unusedSimpArgs false
open Go.RowKit Go.Shelf

section
variable {P : Program} {F : Fence} {nf : Nat} {w : World} {ops : Array Oper} {rest : List Oper} {o : Oper} {a : Act} {Q : Exit → Act → World → Prop}
theorem wpListIn_loadRow (hgd : o.guard = none) (ty : TypeId) (x : Operand) (ho : o.op = .load ty x) {b t n e : Nat} {l : List Value} (hr : IsRow w b t l) (hx : a.eval x = .pointer (some ⟨b, 0, none⟩))
    (hu : P.underlying ty = some (.array n e)) (hi : (P.info? ty).map (·.size) = some l.length) (h : wpListIn F nf P ops Q rest (a.put o.dst (.agg l.toArray)) w) : wpListIn F nf P ops Q (o :: rest) a w := by
  refine wpListIn_plain hgd fun K hK => ?_
  have hs := run_loadVar_row (P := P) w b t ty l.toArray (0, 0) _ hr hu rfl (by simpa using hi)
  unfold Oper.wpIn
  refine ⟨by simp [Oper.about, ho], ?_⟩
  rw [Oper.semAt_plain F _ _ (by rw [ho]; intro c hc'; cases hc')]
  unfold execOp
  simp only [ho, hx, Instr.loadAt, Instr.sureAddr, Sem.run_bind, Sem.run_pure, Result.andThen_ok, hs]
  exact hK _ _ h
theorem wpListIn_loadVar (hgd : o.guard = none) (ty : TypeId) (x : Operand) (ho : o.op = .load ty x) {b n e : Nat} {l : List Value} (hr : HasRow w b l) (hx : a.eval x = .pointer (some ⟨b, 0, none⟩))
    (hu : P.underlying ty = some (.array n e)) (hi : (P.info? ty).map (·.size) = some l.length) (h : wpListIn F nf P ops Q rest (a.put o.dst (.agg l.toArray)) w) : wpListIn F nf P ops Q (o :: rest) a w := by
  obtain ⟨t, fr, hr⟩ := hr
  refine wpListIn_plain hgd fun K hK => ?_
  have hs := run_loadVar_row (P := P) w b t ty l.toArray fr _ hr hu rfl (by simpa using hi)
  unfold Oper.wpIn
  refine ⟨by simp [Oper.about, ho], ?_⟩
  rw [Oper.semAt_plain F _ _ (by rw [ho]; intro c hc'; cases hc')]
  unfold execOp
  simp only [ho, hx, Instr.loadAt, Instr.sureAddr, Sem.run_bind, Sem.run_pure, Result.andThen_ok, hs]
  exact hK _ _ h
theorem wpListIn_storeRow (hgd : o.guard = none) (ty : TypeId) (x y : Operand) (ho : o.op = .store ty x y) {b t : Nat} {l l' : List Value} (hr : IsRow w b t l) (hx : a.eval x = .pointer (some ⟨b, 0, none⟩))
    (hy : a.eval y = .agg l'.toArray) (hi : (P.info? ty).map (·.size) = some l'.length) (hl : l.length = l'.length) (h1 : l'.all (·.oneCell') = true)
    (h : ∀ w', IsRow w' b t l' → w.grownBy w' (some b) → w'.heap.size = w.heap.size → KeepsOthers w w' → wpListIn F nf P ops Q rest (a.put o.dst undef) w') : wpListIn F nf P ops Q (o :: rest) a w := by
  refine wpListIn_plain hgd fun K hK => ?_
  have hs := run_storeVar_row (P := P) w b t ty l.toArray l'.toArray hr (by simpa using hi) (by simpa using hl) (by simpa using h1)
  have hg : w.grownBy (w.setRow b l'.toArray) (some b) := ⟨rfl, rfl, rfl, by simp [World.setRow], fun k _ hk => setRow_other w b k _ (fun e => hk (by rw [e]))⟩
  unfold Oper.wpIn
  refine ⟨by simp [Oper.about, ho], ?_⟩
  rw [Oper.semAt_plain F _ _ (by rw [ho]; intro c hc'; cases hc')]
  unfold execOp
  simp only [ho, hx, hy, Instr.storeAt, Instr.sureAddr, Sem.run_bind, Sem.run_pure, Result.andThen_ok, hs]
  refine hK _ _ (h _ (setRow_heap w b _ _ t _ hr) hg (by simp [World.setRow]) (KeepsOthers.of_grownBy hg fun j o ej hj => ?_))
  have e1 := Option.some.inj ej
  subst e1
  have hr' : w.heap[b]? = some (.cells l.toArray t (0, 0)) := hr
  rw [hr'] at hj
  injection hj with hj
  rw [← hj]; rfl
theorem wpListIn_allocRow (hgd : o.guard = none) (ty : TypeId) (ho : o.op = .alloc ty) (zs : List Value) (hz : (P.info? ty).map (fun i => (i.zero, i.size)) = some (some (.agg zs.toArray), zs.length))
    (h : ∀ w', IsRow w' w.heap.size ty zs → Below w.heap.size w w' → w'.heap.size = w.heap.size + 1 → wpListIn F nf P ops Q rest (a.put o.dst (.pointer (some ⟨w.heap.size, 0, none⟩))) w') : wpListIn F nf P ops Q (o :: rest) a w := by
  refine wpListIn_plain hgd fun K hK => ?_
  have hz1 := (zero_of_info (P := P) hz).1
  have hn : Sem.run P (newVar ty (.agg zs.toArray)) w = .ok ⟨w.heap.size, 0, none⟩ (w.alloc (.cells zs.toArray ty)) := by
    simp [newVar, Value.cells, go_sem]
  unfold Oper.wpIn
  refine ⟨by simp [Oper.about, ho], ?_⟩
  rw [Oper.semAt_plain F _ _ (by rw [ho]; intro c hc'; cases hc')]
  unfold execOp
  simp only [ho, Instr.alloc, Sem.run_bind, Sem.run_pure, Result.andThen_ok, hz1, hn]
  exact hK _ _ (h _ (IsRow.new w ty zs) ((Below.refl _ _).alloc (Nat.le_refl _) _) (by simp))
end
/-- append of a slice onto a row of the call's own, inside a fence -/
theorem wpListIn_app {P : Program} {F : Fence} {nf : Nat} {w : World} {ops : Array Oper} {rest : List Oper} {o : Oper} {a : Act} {Q : Exit → Act → World → Prop} (hgd : o.guard = none) (s x : Operand) (t : TypeId)
    (ho : o.op = .call { callee := .builtin .append, args := #[s, x], argTypes := #[t, t] })
    (base : Nat) (e : TypeId) (z : Value) (size bytes : Nat) (E : ElemT P t e z size bytes) (A0 : Option Addr) (n c0 : Nat) (xs : List Value) (A : Option Addr) (m c : Nat) (news : List Value) (hs : a.eval s = .slice A0 n c0) (hx : a.eval x = .slice A m c) (hown : w.ownsRow base e size (.slice A0 n c0) n xs)
    {B' : Nat} (hr : Rd w B' size A m news) (h1 : ∀ u ∈ news, u.oneCell' = true) {W0 : World} {B : Nat} (hbel : Below B W0 w) (hb : (n + m) * bytes ≤ 140737488355328) (hB : B ≤ base) (hbase : base ≤ w.heap.size)
    (h : ∀ A' c' w', w'.ownsRow base e size (.slice A' (n + m) c') (n + m) (xs ++ news) → Below B W0 w' → wpListIn F nf P ops Q rest (a.put o.dst (.slice A' (n + m) c')) w') : wpListIn F nf P ops Q (o :: rest) a w := by
  refine wpListIn_plain hgd fun K hK => ?_
  obtain ⟨A', c', w', hrun, h2, h3, _⟩ := run_app (P := P) w base o.type E A0 n c0 xs hown B' A m c news hr h1 hb (le_maxLen hb E.bpos) hbase
  unfold Oper.wpIn
  refine ⟨?_, ?_⟩
  · simp [Oper.about, ho, resolve, Target.leads, Sem.run_pure]
  · rw [Oper.semAt_plain F _ _ (by rw [ho]; intro c hc'; cases hc')]
    simp [execOp, ho, resolve, invoke, builtin, hs, hx, hrun, Result.andThen]
    exact hK _ _ (h A' c' w' h2 (hbel.grown h3 (by omega) fun k hk => by have := hown.lt k hk; omega))
end Go.Proofs.Ytcmgnjdhjnclkaa
