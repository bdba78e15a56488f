/- A map in memory as a function from its keys: look-ups, stores, deletions, len, at the run and at the operation of the walk. No condition: plain lemmas over any program. -/
import Derived.Test.YtkjomnakolhdcaaDoorBase
import Derived.Maps.OwnSet
namespace Go.Proofs.YtkjomnakolhdcaaDoor
set_option linter.unusedVariables false
set_option linter.unusedSimpArgs false
open Go.RowKit Go.ChangeMaps

section
variable {α : Type} [DecidableEq α]

def findIn (x : α) : List (α × Value) → Nat → Option (Nat × Value)
  | [], _ => none
  | (y, v) :: L, i => if x = y then some (i, v) else findIn x L (i + 1)
def lkup (x : α) (L : List (α × Value)) : Option Value := (findIn x L 0).map (·.2)

/-- how keys of the type k are spelled, and that the model finds them -/
structure KeyT (P : Program) (k : TypeId) (kv : α → Value) : Prop where
  check : ∀ (w : World) (emp : Bool) (x : α), (Instr.checkKey emp 10000 k (kv x)).run P w = .ok () w
  find : ∀ (w : World) (x : α) (L : List (α × Value)) (es : List MapEntry), es.map (fun e => (e.key, e.val)) = L.map (fun p => (kv p.1, p.2)) → (Instr.findKey k (kv x) es).run P w = .ok (findIn x L 0) w
  bits : ∀ x, Instr.sameBits 10000 (kv x) (kv x) = true

/-- block b is a map of n entries; M says what is at each key -/
def MapIs (w : World) (b : Nat) (kv : α → Value) (M : α → Option Value) (n : Nat) : Prop :=
  ∃ es clock L, w.heap[b]? = some (.map es clock) ∧ es.toList.map (fun e => (e.key, e.val)) = L.map (fun p => (kv p.1, p.2)) ∧ (L.map (·.1)).Nodup ∧ (∀ x, lkup x L = M x) ∧ L.length = n

variable {P : Program} {t k e : TypeId} {kv : α → Value} {w w' : World} {b n : Nat} {M : α → Option Value}

theorem MapIs.lt (h : MapIs w b kv M n) : b < w.heap.size := by
  obtain ⟨es, clock, L, hb, _⟩ := h
  exact (Array.getElem?_eq_some_iff.1 hb).1
theorem MapIs.block (h : MapIs w b kv M n) (hb : w'.heap[b]? = w.heap[b]?) : MapIs w' b kv M n := by
  obtain ⟨es, clock, L, h1, r⟩ := h
  exact ⟨es, clock, L, hb.trans h1, r⟩
theorem MapIs.below {B : Nat} (h : MapIs w b kv M n) (hb : Below B w w') (hB : b < B) : MapIs w' b kv M n := h.block (hb.block b hB)
theorem MapIs.alloc (h : MapIs w b kv M n) (o : Obj) : MapIs (w.alloc o) b kv M n := h.block (RowKit.Below.heap_alloc w o b h.lt)
theorem MapIs.drew (h : MapIs w b kv M n) : MapIs w.drew b kv M n := h
theorem MapIs.drewN (h : MapIs w b kv M n) (k : Nat) : MapIs (w.drewN k) b kv M n := h
theorem MapIs.setCell (h : MapIs w b kv M n) {a : Addr} (ha : b ≠ a.block) (u : Value) : MapIs (w.setCell a u) b kv M n := h.block (RowKit.Below.heap_setCell _ _ _ _ ha)
theorem MapIs.made (w : World) (kv : α → Value) : MapIs (w.alloc (.map #[] 0)) w.heap.size kv (fun _ => none) 0 :=
  ⟨#[], 0, [], (MapKept.heap_alloc w _).1, rfl, by simp, fun _ => rfl, rfl⟩
theorem MapIs.congr {M' : α → Option Value} (h : MapIs w b kv M n) (he : ∀ x, M x = M' x) : MapIs w b kv M' n := by
  obtain ⟨es, clock, L, h1, h2, h3, h4, h5⟩ := h
  exact ⟨es, clock, L, h1, h2, h3, fun x => (h4 x).trans (he x), h5⟩

theorem MapIs.look (h : MapIs w b kv M n) (K : KeyT P k kv) (ht : P.underlying t = some (.map k e)) {z : Value} (hz : (zeroValue e).run P w = .ok z w) (x : α) (c : Bool) :
    (Instr.lookup t (.map (some b)) (kv x) c).run P w = .ok (if c then .tuple #[(M x).getD z, .bool (M x).isSome] else (M x).getD z) w := by
  obtain ⟨es, clock, L, hb, hes, hn, hM, hl⟩ := h
  have hf := K.find w x L es.toList hes
  rw [← hM x]
  cases hfi : findIn x L 0 with
  | none =>
    rw [hfi] at hf
    simp [Instr.lookup, run_underlying ht, MapKept.run_getObj_map hb, K.check w _ x, hf, hz, Result.andThen, lkup, hfi]
  | some p =>
    rw [hfi] at hf
    simp [Instr.lookup, run_underlying ht, MapKept.run_getObj_map hb, K.check w _ x, hf, Result.andThen, lkup, hfi]
theorem MapIs.len (h : MapIs w b kv M n) (ht : P.underlying t = some (.map k e)) (ty : TypeId) : (Builtin.len_ #[t] ty #[.map (some b)]).run P w = .ok (.int .i64 n) w := by
  obtain ⟨es, clock, L, hb, hes, hn, hM, hl⟩ := h
  have : es.size = n := by
    have := congrArg List.length hes
    simp at this; omega
  simp [Builtin.len_, run_underlying ht, MapKept.run_getObj_map hb, Result.andThen, goInt, this]

/-! At the operation -/
variable {ops : Array Oper} {rest : List Oper} {o : Oper} {a : Act} {Q : Exit → Act → World → Prop}
end

/-! keys of type int -/
end Go.Proofs.YtkjomnakolhdcaaDoor
