/- Frames by a set of blocks that may turn. No condition: plain lemmas over any program. -/
import Derived.Test.YtkjomnakolhdcaaDoorMaps
namespace Go.Proofs.YtkjomnakolhdcaaDoor
set_option linter.unusedVariables false
set_option linter.unusedSimpArgs false
open Go.RowKit Go.ChangeMaps

/-- os, tape and output are as they were; of the blocks that were there, only those of S may have turned -/
structure Keep (S : Nat → Prop) (w w' : World) : Prop where
  os : w'.os = w.os
  tape : w'.tape = w.tape
  output : w'.output = w.output
  size : w.heap.size ≤ w'.heap.size
  block : ∀ k, k < w.heap.size → ¬ S k → w'.heap[k]? = w.heap[k]?

section
variable {S T : Nat → Prop} {w w' w'' : World}
theorem Keep.refl (S : Nat → Prop) (w : World) : Keep S w w := ⟨rfl, rfl, rfl, Nat.le_refl _, fun _ _ _ => rfl⟩
theorem Keep.trans (h : Keep S w w') (k : Keep S w' w'') : Keep S w w'' :=
  ⟨k.os.trans h.os, k.tape.trans h.tape, k.output.trans h.output, Nat.le_trans h.size k.size, fun i hi hs => (k.block i (Nat.lt_of_lt_of_le hi h.size) hs).trans (h.block i hi hs)⟩
theorem Keep.mono (h : Keep S w w') (hST : ∀ k, k < w.heap.size → S k → T k) : Keep T w w' := ⟨h.os, h.tape, h.output, h.size, fun i hi hs => h.block i hi fun hS => hs (hST i hi hS)⟩
theorem Keep.alloc (h : Keep S w w') (o : Obj) : Keep S w (w'.alloc o) :=
  ⟨h.os, h.tape, h.output, by simp; have := h.size; omega, fun i hi hs => (RowKit.Below.heap_alloc w' o i (Nat.lt_of_lt_of_le hi h.size)).trans (h.block i hi hs)⟩
theorem Keep.setCell (h : Keep S w w') {a : Addr} (ha : S a.block ∨ w.heap.size ≤ a.block) (u : Value) : Keep S w (w'.setCell a u) :=
  ⟨h.os, h.tape, h.output, by simp [World.setCell]; exact h.size, fun i hi hs => by
    rw [RowKit.Below.heap_setCell _ _ _ _ (fun e => by subst e; rcases ha with h | h; · exact hs h
                                                       · omega)]
    exact h.block i hi hs⟩
theorem Keep.drew (h : Keep S w w') : Keep S w w'.drew := ⟨h.os, h.tape, h.output, h.size, h.block⟩
theorem Keep.drewN (h : Keep S w w') (n : Nat) : Keep S w (w'.drewN n) := ⟨h.os, h.tape, h.output, h.size, h.block⟩
theorem Keep.of_grown {row : Option Nat} (hg : w.grownBy w' row) (hr : ∀ k, row = some k → S k) : Keep S w w' :=
  ⟨hg.os, hg.tape, hg.output, hg.size, fun i hi hs => hg.block i hi fun e => hs (hr i e.symm)⟩
theorem Keep.grown {row : Option Nat} (h : Keep S w w') (hg : w'.grownBy w'' row) (hr : ∀ k, row = some k → S k ∨ w.heap.size ≤ k) : Keep S w w'' := by
  refine ⟨hg.os.trans h.os, hg.tape.trans h.tape, hg.output.trans h.output, Nat.le_trans h.size hg.size, fun i hi hs => ?_⟩
  refine (hg.block i (Nat.lt_of_lt_of_le hi h.size) fun e => ?_).trans (h.block i hi hs)
  rcases hr i e.symm with h | h
  · exact hs h
  · omega
theorem Keep.turned {b : Nat} (h : Keep S w w') (hg : w'.mapTurned w'' b) (hb : S b ∨ w.heap.size ≤ b) : Keep S w w'' := h.grown hg.grown fun k e => by injection e with e; subst e; exact hb
theorem Keep.of_below (h : Below w.heap.size w w') : Keep S w w' := ⟨h.os, h.tape, h.output, h.size, fun i hi _ => h.block i hi⟩
theorem Keep.then_below (h : Keep S w w') (k : Below w'.heap.size w' w'') : Keep S w w'' := h.trans (Keep.of_below k)
theorem Keep.below {B : Nat} (h : Keep S w w') (hB : B ≤ w.heap.size) (hs : ∀ k, k < B → ¬ S k) : Below B w w' := ⟨h.os, h.tape, h.output, h.size, fun k hk => h.block k (by omega) (hs k hk)⟩
theorem Keep.cell (h : Keep S w w') {p : Addr} (hp : p.block < w.heap.size) (hs : ¬ S p.block) : w'.cell? p = w.cell? p := World.cell?_of_block (h.block p.block hp hs)
theorem Keep.new {B : Nat} (h : Keep (fun k => B ≤ k) w w') (hB : B ≤ w.heap.size) : Below B w w' := h.below hB fun k hk h => by omega
/-- a call's frame, seen from a caller whose world began earlier: blocks made since may turn, too -/
theorem Keep.then {w0 : World} (h0 : Keep S w0 w) (h : Keep T w w') (hT : ∀ k, T k → S k ∨ w0.heap.size ≤ k) : Keep S w0 w' :=
  ⟨h.os.trans h0.os, h.tape.trans h0.tape, h.output.trans h0.output, Nat.le_trans h0.size h.size, fun i hi hs => (h.block i (Nat.lt_of_lt_of_le hi h0.size) fun ht => by
    rcases hT i ht with h1 | h1
    · exact hs h1
    · omega).trans (h0.block i hi hs)⟩
theorem Rd.keepS {B size n : Nat} {A : Option Addr} {xs : List Value} (h : Rd w B size A n xs) (hk : Keep S w w') (hB : B ≤ w.heap.size) (hA : ∀ a, A = some a → ¬ S a.block) : Rd w' B size A n xs :=
  ⟨h.1, fun hn => by
    obtain ⟨b, off, e, hb, hc⟩ := h.2 hn
    exact ⟨b, off, e, hb, fun j u hu => (hk.cell (p := ⟨b, off + j, none⟩) (by show b < _; omega) (show ¬ S b from hA _ e)).trans (hc j u hu)⟩⟩
theorem MapIs.keep {α : Type} [DecidableEq α] {b n : Nat} {kv : α → Value} {M : α → Option Value} (h : MapIs w b kv M n) (hk : Keep S w w') (hb : ¬ S b) : MapIs w' b kv M n := h.block (hk.block b h.lt hb)
end
end Go.Proofs.YtkjomnakolhdcaaDoor
