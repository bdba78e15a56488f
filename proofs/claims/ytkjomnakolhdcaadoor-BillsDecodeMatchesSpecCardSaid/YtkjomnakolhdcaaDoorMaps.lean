/- Joined texts: Maps, Keep. Conditions: as each part says. -/
import Derived.Test.YtkjomnakolhdcaaDoorBase
import Derived.Maps.OwnSet
namespace Go.Proofs.YtkjomnakolhdcaaDoor
set_option linter.unusedVariables false
set_option linter.unusedSimpArgs false
/-! A map in memory as a function from its keys: look-ups, stores, deletions, len, at the run and at the operation of the walk. No condition: plain lemmas over any program. -/
section
open Go.RowKit Go.ChangeMaps

section
variable {α : Type} [DecidableEq α]

def findIn (x : α) : List (α × Value) → Nat → Option (Nat × Value)
  | [], _ => none
  | (y, v) :: L, i => if x = y then some (i, v) else findIn x L (i + 1)
def lkup (x : α) (L : List (α × Value)) : Option Value := (findIn x L 0).map (·.2)

/-- how keys of the type k are spelled, and that the model finds them -/
structure KeyT (P : Program) (k : TypeId) (kv : α → Value) : Prop where
  check : ∀ (w : World) (emp : Bool) (x : α), (Instr.checkKey emp 10000 k (kv x)).run P w = .ok () w
  find : ∀ (w : World) (x : α) (L : List (α × Value)) (es : List MapEntry), es.map (fun e => (e.key, e.val)) = L.map (fun p => (kv p.1, p.2)) → (Instr.findKey k (kv x) es).run P w = .ok (findIn x L 0) w
  bits : ∀ x, Instr.sameBits 10000 (kv x) (kv x) = true

/-- block b is a map of n entries; M says what is at each key -/
def MapIs (w : World) (b : Nat) (kv : α → Value) (M : α → Option Value) (n : Nat) : Prop :=
  ∃ es clock L, w.heap[b]? = some (.map es clock) ∧ es.toList.map (fun e => (e.key, e.val)) = L.map (fun p => (kv p.1, p.2)) ∧ (L.map (·.1)).Nodup ∧ (∀ x, lkup x L = M x) ∧ L.length = n

variable {P : Program} {t k e : TypeId} {kv : α → Value} {w w' : World} {b n : Nat} {M : α → Option Value}

theorem MapIs.lt (h : MapIs w b kv M n) : b < w.heap.size := by
  obtain ⟨es, clock, L, hb, _⟩ := h
  exact (Array.getElem?_eq_some_iff.1 hb).1
theorem MapIs.block (h : MapIs w b kv M n) (hb : w'.heap[b]? = w.heap[b]?) : MapIs w' b kv M n := by
  obtain ⟨es, clock, L, h1, r⟩ := h
  exact ⟨es, clock, L, hb.trans h1, r⟩
theorem MapIs.below {B : Nat} (h : MapIs w b kv M n) (hb : Below B w w') (hB : b < B) : MapIs w' b kv M n := h.block (hb.block b hB)
theorem MapIs.alloc (h : MapIs w b kv M n) (o : Obj) : MapIs (w.alloc o) b kv M n := h.block (RowKit.Below.heap_alloc w o b h.lt)
theorem MapIs.drew (h : MapIs w b kv M n) : MapIs w.drew b kv M n := h
theorem MapIs.drewN (h : MapIs w b kv M n) (k : Nat) : MapIs (w.drewN k) b kv M n := h
theorem MapIs.setCell (h : MapIs w b kv M n) {a : Addr} (ha : b ≠ a.block) (u : Value) : MapIs (w.setCell a u) b kv M n := h.block (RowKit.Below.heap_setCell _ _ _ _ ha)
theorem MapIs.made (w : World) (kv : α → Value) : MapIs (w.alloc (.map #[] 0)) w.heap.size kv (fun _ => none) 0 :=
  ⟨#[], 0, [], (MapKept.heap_alloc w _).1, rfl, by simp, fun _ => rfl, rfl⟩
theorem MapIs.congr {M' : α → Option Value} (h : MapIs w b kv M n) (he : ∀ x, M x = M' x) : MapIs w b kv M' n := by
  obtain ⟨es, clock, L, h1, h2, h3, h4, h5⟩ := h
  exact ⟨es, clock, L, h1, h2, h3, fun x => (h4 x).trans (he x), h5⟩

theorem MapIs.look (h : MapIs w b kv M n) (K : KeyT P k kv) (ht : P.underlying t = some (.map k e)) {z : Value} (hz : (zeroValue e).run P w = .ok z w) (x : α) (c : Bool) :
    (Instr.lookup t (.map (some b)) (kv x) c).run P w = .ok (if c then .tuple #[(M x).getD z, .bool (M x).isSome] else (M x).getD z) w := by
  obtain ⟨es, clock, L, hb, hes, hn, hM, hl⟩ := h
  have hf := K.find w x L es.toList hes
  rw [← hM x]
  cases hfi : findIn x L 0 with
  | none =>
    rw [hfi] at hf
    simp [Instr.lookup, run_underlying ht, MapKept.run_getObj_map hb, K.check w _ x, hf, hz, Result.andThen, lkup, hfi]
  | some p =>
    rw [hfi] at hf
    simp [Instr.lookup, run_underlying ht, MapKept.run_getObj_map hb, K.check w _ x, hf, Result.andThen, lkup, hfi]
theorem MapIs.len (h : MapIs w b kv M n) (ht : P.underlying t = some (.map k e)) (ty : TypeId) : (Builtin.len_ #[t] ty #[.map (some b)]).run P w = .ok (.int .i64 n) w := by
  obtain ⟨es, clock, L, hb, hes, hn, hM, hl⟩ := h
  have : es.size = n := by
    have := congrArg List.length hes
    simp at this; omega
  simp [Builtin.len_, run_underlying ht, MapKept.run_getObj_map hb, Result.andThen, goInt, this]

/-! At the operation -/
variable {ops : Array Oper} {rest : List Oper} {o : Oper} {a : Act} {Q : Exit → Act → World → Prop}
end

/-! keys of type int -/
end
/-! Frames by a set of blocks that may turn. No condition: plain lemmas over any program. -/
section
open Go.RowKit Go.ChangeMaps

/-- os, tape and output are as they were; of the blocks that were there, only those of S may have turned -/
structure Keep (S : Nat → Prop) (w w' : World) : Prop where
  os : w'.os = w.os
  tape : w'.tape = w.tape
  output : w'.output = w.output
  size : w.heap.size ≤ w'.heap.size
  block : ∀ k, k < w.heap.size → ¬ S k → w'.heap[k]? = w.heap[k]?

section
variable {S T : Nat → Prop} {w w' w'' : World}
theorem Keep.refl (S : Nat → Prop) (w : World) : Keep S w w := ⟨rfl, rfl, rfl, Nat.le_refl _, fun _ _ _ => rfl⟩
theorem Keep.trans (h : Keep S w w') (k : Keep S w' w'') : Keep S w w'' :=
  ⟨k.os.trans h.os, k.tape.trans h.tape, k.output.trans h.output, Nat.le_trans h.size k.size, fun i hi hs => (k.block i (Nat.lt_of_lt_of_le hi h.size) hs).trans (h.block i hi hs)⟩
theorem Keep.mono (h : Keep S w w') (hST : ∀ k, k < w.heap.size → S k → T k) : Keep T w w' := ⟨h.os, h.tape, h.output, h.size, fun i hi hs => h.block i hi fun hS => hs (hST i hi hS)⟩
theorem Keep.alloc (h : Keep S w w') (o : Obj) : Keep S w (w'.alloc o) :=
  ⟨h.os, h.tape, h.output, by simp; have := h.size; omega, fun i hi hs => (RowKit.Below.heap_alloc w' o i (Nat.lt_of_lt_of_le hi h.size)).trans (h.block i hi hs)⟩
theorem Keep.setCell (h : Keep S w w') {a : Addr} (ha : S a.block ∨ w.heap.size ≤ a.block) (u : Value) : Keep S w (w'.setCell a u) :=
  ⟨h.os, h.tape, h.output, by simp [World.setCell]; exact h.size, fun i hi hs => by
    rw [RowKit.Below.heap_setCell _ _ _ _ (fun e => by subst e; rcases ha with h | h; · exact hs h
                                                       · omega)]
    exact h.block i hi hs⟩
theorem Keep.drew (h : Keep S w w') : Keep S w w'.drew := ⟨h.os, h.tape, h.output, h.size, h.block⟩
theorem Keep.drewN (h : Keep S w w') (n : Nat) : Keep S w (w'.drewN n) := ⟨h.os, h.tape, h.output, h.size, h.block⟩
theorem Keep.of_grown {row : Option Nat} (hg : w.grownBy w' row) (hr : ∀ k, row = some k → S k) : Keep S w w' :=
  ⟨hg.os, hg.tape, hg.output, hg.size, fun i hi hs => hg.block i hi fun e => hs (hr i e.symm)⟩
theorem Keep.grown {row : Option Nat} (h : Keep S w w') (hg : w'.grownBy w'' row) (hr : ∀ k, row = some k → S k ∨ w.heap.size ≤ k) : Keep S w w'' := by
  refine ⟨hg.os.trans h.os, hg.tape.trans h.tape, hg.output.trans h.output, Nat.le_trans h.size hg.size, fun i hi hs => ?_⟩
  refine (hg.block i (Nat.lt_of_lt_of_le hi h.size) fun e => ?_).trans (h.block i hi hs)
  rcases hr i e.symm with h | h
  · exact hs h
  · omega
theorem Keep.turned {b : Nat} (h : Keep S w w') (hg : w'.mapTurned w'' b) (hb : S b ∨ w.heap.size ≤ b) : Keep S w w'' := h.grown hg.grown fun k e => by injection e with e; subst e; exact hb
theorem Keep.of_below (h : Below w.heap.size w w') : Keep S w w' := ⟨h.os, h.tape, h.output, h.size, fun i hi _ => h.block i hi⟩
theorem Keep.then_below (h : Keep S w w') (k : Below w'.heap.size w' w'') : Keep S w w'' := h.trans (Keep.of_below k)
theorem Keep.below {B : Nat} (h : Keep S w w') (hB : B ≤ w.heap.size) (hs : ∀ k, k < B → ¬ S k) : Below B w w' := ⟨h.os, h.tape, h.output, h.size, fun k hk => h.block k (by omega) (hs k hk)⟩
theorem Keep.cell (h : Keep S w w') {p : Addr} (hp : p.block < w.heap.size) (hs : ¬ S p.block) : w'.cell? p = w.cell? p := World.cell?_of_block (h.block p.block hp hs)
theorem Keep.new {B : Nat} (h : Keep (fun k => B ≤ k) w w') (hB : B ≤ w.heap.size) : Below B w w' := h.below hB fun k hk h => by omega
/-- a call's frame, seen from a caller whose world began earlier: blocks made since may turn, too -/
theorem Keep.then {w0 : World} (h0 : Keep S w0 w) (h : Keep T w w') (hT : ∀ k, T k → S k ∨ w0.heap.size ≤ k) : Keep S w0 w' :=
  ⟨h.os.trans h0.os, h.tape.trans h0.tape, h.output.trans h0.output, Nat.le_trans h0.size h.size, fun i hi hs => (h.block i (Nat.lt_of_lt_of_le hi h0.size) fun ht => by
    rcases hT i ht with h1 | h1
    · exact hs h1
    · omega).trans (h0.block i hi hs)⟩
theorem Rd.keepS {B size n : Nat} {A : Option Addr} {xs : List Value} (h : Rd w B size A n xs) (hk : Keep S w w') (hB : B ≤ w.heap.size) (hA : ∀ a, A = some a → ¬ S a.block) : Rd w' B size A n xs :=
  ⟨h.1, fun hn => by
    obtain ⟨b, off, e, hb, hc⟩ := h.2 hn
    exact ⟨b, off, e, hb, fun j u hu => (hk.cell (p := ⟨b, off + j, none⟩) (by show b < _; omega) (show ¬ S b from hA _ e)).trans (hc j u hu)⟩⟩
theorem MapIs.keep {α : Type} [DecidableEq α] {b n : Nat} {kv : α → Value} {M : α → Option Value} (h : MapIs w b kv M n) (hk : Keep S w w') (hb : ¬ S b) : MapIs w' b kv M n := h.block (hk.block b h.lt hb)
end
end
end Go.Proofs.YtkjomnakolhdcaaDoor
