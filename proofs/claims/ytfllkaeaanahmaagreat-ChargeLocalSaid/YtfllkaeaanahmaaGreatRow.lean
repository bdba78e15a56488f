/- Arrays that are variables: blocks of one row, known whole. No condition: plain lemmas over any program. -/
import Derived.Test.YtfllkaeaanahmaaGreatBase
import Derived.Deep.WholeRow
import Derived.Deep.MidRow
namespace Go.Proofs.YtfllkaeaanahmaaGreat
set_option linter.unusedVariables false
set_option linter.unusedSimpArgs false
open Go.RowKit

def IsRow (w : World) (b : Nat) (t : TypeId) (l : List Value) : Prop := w.heap[b]? = some (.cells l.toArray t (0, 0))

section
variable {w w' : World} {b B : Nat} {t : TypeId} {l : List Value}
theorem IsRow.lt (h : IsRow w b t l) : b < w.heap.size := (Array.getElem?_eq_some_iff.1 h).1
theorem IsRow.new (w : World) (t : TypeId) (l : List Value) : IsRow (w.alloc (.cells l.toArray t)) w.heap.size t l := heap_alloc_new w _
theorem IsRow.keep (h : IsRow w b t l) (hk : w'.heap[b]? = w.heap[b]?) : IsRow w' b t l := hk.trans h
theorem IsRow.below (h : IsRow w b t l) (hb : Below B w w') (hB : b < B) : IsRow w' b t l := (hb.block b hB).trans h
theorem IsRow.below' (h : IsRow w b t l) (hb : Below w.heap.size w w') : IsRow w' b t l := (hb.block b h.lt).trans h
theorem IsRow.drew (h : IsRow w b t l) : IsRow w.drew b t l := h
theorem IsRow.drewN (h : IsRow w b t l) (k : Nat) : IsRow (w.drewN k) b t l := h
theorem IsRow.alloc (h : IsRow w b t l) (o : Obj) : IsRow (w.alloc o) b t l := (heap_alloc_old w o b h.lt).trans h
theorem IsRow.grown (h : IsRow w b t l) {row : Option Nat} (hg : w.grownBy w' row) (hr : row ≠ some b) : IsRow w' b t l := (hg.block b h.lt (fun e => hr e.symm)).trans h
theorem IsRow.cell (h : IsRow w b t l) (j : Nat) : w.cell? ⟨b, j, none⟩ = l[j]? := by rw [cell_of_row w b j _ t (0, 0) h]; simp
theorem IsRow.frozen (h : IsRow w b t l) (j : Nat) : w.frozen? ⟨b, j, none⟩ = false := by
 have h' : w.heap[b]? = some (.cells l.toArray t (0, 0)) := h
 simp [World.frozen?, h']
theorem IsRow.setOther (h : IsRow w b t l) {p : Addr} (hp : p.block ≠ b) (v : Value) : IsRow (w.setCell p v) b t l := (Below.heap_setCell w p v b (fun e => hp (by rw [e]))).trans h
theorem IsRow.set (h : IsRow w b t l) (j : Nat) (v : Value) : IsRow (w.setCell ⟨b, j, none⟩ v) b t (l.set j v) := by
 have h' : w.heap[b]? = some (.cells l.toArray t (0, 0)) := h
 obtain ⟨hlt, he⟩ := Array.getElem?_eq_some_iff.1 h'
 unfold IsRow World.setCell
 simp only [Array.getElem?_modify, if_true, h', Option.map_some]
 simp
theorem IsRow.rd (h : IsRow w b t l) {n size : Nat} (hl : l.length = n * size) (hB : b < B) : Rd w B size (some ⟨b, 0, none⟩) n l :=
 ⟨hl, fun _ => ⟨b, 0, rfl, hB, fun j u hu => by rw [Nat.zero_add, h.cell, hu]⟩⟩
end

def HasRow (w : World) (b : Nat) (l : List Value) : Prop := ∃ t fr, w.heap[b]? = some (.cells l.toArray t fr)
theorem HasRow.lt {w : World} {b : Nat} {l : List Value} (h : HasRow w b l) : b < w.heap.size := by obtain ⟨_, _, h⟩ := h; exact (Array.getElem?_eq_some_iff.1 h).1
theorem HasRow.below {w w' : World} {b B : Nat} {l : List Value} (h : HasRow w b l) (hb : Below B w w') (hB : b < B) : HasRow w' b l := by obtain ⟨t, fr, h⟩ := h; exact ⟨t, fr, (hb.block b hB).trans h⟩
theorem HasRow.below' {w w' : World} {b : Nat} {l : List Value} (h : HasRow w b l) (hb : Below w.heap.size w w') : HasRow w' b l := h.below hb h.lt
theorem HasRow.grown {w w' : World} {b : Nat} {l : List Value} (h : HasRow w b l) {row : Option Nat} (hg : w.grownBy w' row) (hr : row ≠ some b) : HasRow w' b l := by
 have hl := h.lt
 obtain ⟨t, fr, h⟩ := h
 exact ⟨t, fr, (hg.block b hl (fun e => hr e.symm)).trans h⟩
theorem HasRow.cell {w : World} {b : Nat} {l : List Value} (h : HasRow w b l) (j : Nat) : w.cell? ⟨b, j, none⟩ = l[j]? := by obtain ⟨t, fr, h⟩ := h; rw [cell_of_row w b j _ t fr h]; simp
theorem HasRow.keep {w w' : World} {b : Nat} {l : List Value} (h : HasRow w b l) (hk : w'.heap[b]? = w.heap[b]?) : HasRow w' b l := by obtain ⟨t, fr, h⟩ := h; exact ⟨t, fr, hk.trans h⟩

section
variable {P : Program} {w : World} {ops : Array Oper} {rest : List Oper} {o : Oper} {a : Act} {Q : Exit → Act → World → Prop}
theorem wpList_loadRow (hgd : o.guard = none) (ty : TypeId) (x : Operand) (ho : o.op = .load ty x) {b t n e : Nat} {l : List Value} (hr : IsRow w b t l) (hx : a.eval x = .pointer (some ⟨b, 0, none⟩))
  (hu : P.underlying ty = some (.array n e)) (hi : (P.info? ty).map (·.size) = some l.length) (h : wpList P ops Q rest (a.put o.dst (.agg l.toArray)) w) : wpList P ops Q (o :: rest) a w :=
 wpList_load_row hgd ty x ho b hx t l.toArray (0, 0) _ hr hu rfl (by simpa using hi) h
theorem wpList_storeRow (hgd : o.guard = none) (ty : TypeId) (x y : Operand) (ho : o.op = .store ty x y) {b t : Nat} {l l' : List Value} (hr : IsRow w b t l) (hx : a.eval x = .pointer (some ⟨b, 0, none⟩))
  (hy : a.eval y = .agg l'.toArray) (hi : (P.info? ty).map (·.size) = some l'.length) (hl : l.length = l'.length) (h1 : l'.all (·.oneCell') = true)
  (h : ∀ w', IsRow w' b t l' → w.grownBy w' (some b) → w'.heap.size = w.heap.size → wpList P ops Q rest (a.put o.dst undef) w') : wpList P ops Q (o :: rest) a w := by
 refine wpList_plain hgd fun K hK => ?_
 have hs := run_storeVar_row (P := P) w b t ty l.toArray l'.toArray hr (by simpa using hi) (by simpa using hl) (by simpa using h1)
 unfold Oper.wp execOp
 simp only [ho, hx, hy, Instr.storeAt, Instr.sureAddr, Sem.run_bind, Sem.run_pure, Result.andThen_ok, hs]
 refine hK _ _ (h _ (setRow_heap w b _ _ t _ hr) ⟨rfl, rfl, rfl, by simp [World.setRow], fun k _ hk => setRow_other w b k _ (fun e => hk (by rw [e]))⟩ (by simp [World.setRow]))
theorem wpList_allocRow (hgd : o.guard = none) (ty : TypeId) (ho : o.op = .alloc ty) (zs : List Value) (hz : (P.info? ty).map (fun i => (i.zero, i.size)) = some (some (.agg zs.toArray), zs.length))
  (h : ∀ w', IsRow w' w.heap.size ty zs → Below w.heap.size w w' → w'.heap.size = w.heap.size + 1 → wpList P ops Q rest (a.put o.dst (.pointer (some ⟨w.heap.size, 0, none⟩))) w') : wpList P ops Q (o :: rest) a w := by
 refine wpList_plain hgd fun K hK => ?_
 have hz1 := (zero_of_info (P := P) hz).1
 have hn : Sem.run P (newVar ty (.agg zs.toArray)) w = .ok ⟨w.heap.size, 0, none⟩ (w.alloc (.cells zs.toArray ty)) := by
  simp [newVar, Value.cells, go_sem]
 unfold Oper.wp execOp
 simp only [ho, Instr.alloc, Sem.run_bind, Sem.run_pure, Result.andThen_ok, hz1, hn]
 exact hK _ _ (h _ (IsRow.new w ty zs) ((Below.refl _ _).alloc (Nat.le_refl _) _) (by simp))
end
theorem resultRow {P : Program} {fn : Func} {p : Tmp} {ty : TypeId} (h : fn.results = #[.cell p ty]) (tmps : Array Value) (w : World) {b t n e : Nat} {l : List Value} (hr : IsRow w b t l)
  (hp : tmps.getD p undef = .pointer (some ⟨b, 0, none⟩)) (hu : P.underlying ty = some (.array n e)) (hi : (P.info? ty).map (·.size) = some l.length) :
  (results fn tmps).run P w = .ok (.agg l.toArray) w := results_cell_row h tmps w b t l.toArray (0, 0) _ hp hr hu rfl (by simpa using hi)
end Go.Proofs.YtfllkaeaanahmaaGreat
