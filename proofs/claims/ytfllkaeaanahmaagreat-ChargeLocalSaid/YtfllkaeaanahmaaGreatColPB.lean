/- Joined texts: ColP, ColB. Conditions: as each part says. -/
import Derived.Test.YtfllkaeaanahmaaGreatChkR3
namespace Go.Proofs.YtfllkaeaanahmaaGreat
set_option linter.unusedVariables false
set_option linter.unusedSimpArgs false
section
open Go.RowKit
section
variable {w0 w w' : World} {a r : Nat} {l l2 l' : List Chk.Ck} {G : Nat → Prop}
theorem Pair.call {P : Program} {fn : FuncId} {args : Array Value} {Q : Ending → Prop} (h : Pair w0 w a l r l' G) (hc : ∀ F S t, TAt w F S a t l → (∀ b, F b ∨ S b → b < w.heap.size) → Calls P fn args w fun e w' => Q e ∧ OpRes w F S a l2 w') :
  Calls P fn args w fun e w' => Q e ∧ Pair w0 w' a l2 r l' G ∧ SameG w w' G := by
 obtain ⟨F, S, F', S', ⟨t, h1⟩, ⟨t', h2⟩, h3, h4, h5, h6, h7, h8⟩ := h
 refine (hc F S t h1 (fun b e => (h3 b (.inl e)).2)).mono ?_
 rintro e w' ⟨he, Fn, Sn, ht, hk, hb, hS, hF⟩
 have hs := h7.size
 refine ⟨he, ⟨Fn, Sn, F', S', ht, ⟨t', h2.keep hk (fun b e e2 => h4 b e2 e) h6⟩, fun b e => ?_, fun b e e2 => ?_, fun b e e2 => ?_, fun b e e2 => ?_, Below.then_keep h7 hk (fun b e => (h3 b (.inl (.inr e))).1) (Nat.le_refl _), fun b e => ⟨Nat.lt_of_lt_of_le (h8 b e).1 hk.size, fun e2 => ?_, (h8 b e).2.2⟩⟩, fun b e => hk.block b (h8 b e).1 (h8 b e).2.1⟩
 ·
  rcases e with (e | e) | e
  ·
   refine ⟨?_, hb b (.inl e)⟩
   rcases hF b e with h | h
   ·
    exact (h3 b (.inl (.inl h))).1
   ·
    omega
  ·
   refine ⟨?_, hb b (.inr e)⟩
   rcases hS b e with h | h
   ·
    exact (h3 b (.inl (.inr h))).1
   ·
    omega
  ·
   exact ⟨(h3 b (.inr e)).1, Nat.lt_of_lt_of_le (h3 b (.inr e)).2 hk.size⟩
 ·
  rcases hS b e with h | h
  ·
   exact h4 b h e2
  ·
   have := (h3 b (.inr (.inr e2))).2; omega
 ·
  rcases hF b e with h | h
  ·
   exact h5 b h e2
  ·
   have := (h3 b (.inr (.inr e2))).2; omega
 ·
  rcases hS b e2 with h | h
  ·
   exact h6 b e h
  ·
   have := (h3 b (.inr (.inl e))).2; omega
 ·
  rcases hS b e2 with h | h
  ·
   exact (h8 b e).2.1 h
  ·
   have := (h8 b e).1; omega
theorem Pair.read {P : Program} {fn : FuncId} {args : Array Value} {Q : Ending → World → Prop} (h : Pair w0 w a l r l' G) (hc : ∀ F S t, TAt w F S a t l → Calls P fn args w fun e w' => Q e w') : Calls P fn args w fun e w' => Q e w' := by
 obtain ⟨F, S, F', S', ⟨t, h1⟩, _⟩ := h
 exact hc F S t h1
end
section
variable {w0 w : World} {a r : Nat} {l l2 l' : List Chk.Ck} {G : Nat → Prop} (h : Pair w0 w a l r l' G)
include h
theorem Pair.add_ (dg : List UInt8) (hdg : dg.length = 16) (pr : Int) (hp : Chk.inR pr 4294967296) (u : Chk.Un) (tn : Int) {n e : Int} (hR : Chk.add l dg pr u tn = (l2, n, e)) :
  Calls Tryz.prog 29 #[.pointer (some ⟨a, 0, none⟩), .agg (bvs dg).toArray, .int .u32 pr, unV u, .int .i64 tn] w fun x w' => x = .returned (.tuple #[.int .i64 n, .int .i64 e]) ∧ Pair w0 w' a l2 r l' G ∧ SameG w w' G :=
 h.call fun _ _ _ ht hb => by have := add_any ht hb dg hdg pr hp u tn; rw [hR] at this; exact this
theorem Pair.refer_ (id tn n : Int) {m e : Int} (hR : Chk.refer l id tn n = (l2, m, e)) :
  Calls Tryz.prog 31 #[.pointer (some ⟨a, 0, none⟩), .int .i64 id, .int .i64 tn, .int .i64 n] w fun x w' => x = .returned (.int .i64 e) ∧ Pair w0 w' a l2 r l' G ∧ SameG w w' G :=
 h.call fun _ _ _ ht hb => by have := refer_any ht hb id tn n; rw [hR] at this; exact this
theorem Pair.unrefer_ (id tn n : Int) {m e : Int} (q : Bool) (hR : Chk.unrefer l id tn n = (l2, m, e)) (hq : decide (m = 1) = q) :
  Calls Tryz.prog 32 #[.pointer (some ⟨a, 0, none⟩), .int .i64 id, .int .i64 tn, .int .i64 n] w fun x w' => x = .returned (.tuple #[.bool q, .int .i64 e]) ∧ Pair w0 w' a l2 r l' G ∧ SameG w w' G :=
 h.call fun _ _ _ ht hb => by have := unrefer_any ht hb id tn n; rw [hR, hq] at this; exact this
theorem Pair.move_ (id : Int) (u : Chk.Un) {m e : Int} (hR : Chk.move l id u = (l2, m, e)) :
  Calls Tryz.prog 33 #[.pointer (some ⟨a, 0, none⟩), .int .i64 id, unV u] w fun x w' => x = .returned (.int .i64 e) ∧ Pair w0 w' a l2 r l' G ∧ SameG w w' G :=
 h.call fun F S _ ht hb => by
  have := move_any ht id u
  rw [hR] at this
  exact this.mono fun e w' ⟨h1, t5, h51, h52⟩ => ⟨h1, F, S, ⟨t5, h51⟩, h52, fun b e => Nat.lt_of_lt_of_le (hb b e) h52.size, fun _ h => .inl h, fun _ h => .inl h⟩
theorem Pair.lose_ (id : Int) {m e : Int} (hR : Chk.lose l id = (l2, m, e)) :
  Calls Tryz.prog 34 #[.pointer (some ⟨a, 0, none⟩), .int .i64 id] w fun x w' => x = .returned (.int .i64 e) ∧ Pair w0 w' a l2 r l' G ∧ SameG w w' G :=
 h.call fun F S _ ht hb => by
  have := lose_any ht id
  rw [hR] at this
  exact this.mono fun e w' ⟨h1, t5, h51, h52⟩ => ⟨h1, F, S, ⟨t5, h51⟩, h52, fun b e => Nat.lt_of_lt_of_le (hb b e) h52.size, fun _ h => .inl h, fun _ h => .inl h⟩
end
end
section
open Go.RowKit
theorem cell_hp {W w : World} {b k : Nat} (h : W.heap[b]? = w.heap[b]?) : W.cell? ⟨b, k, none⟩ = w.cell? ⟨b, k, none⟩ := by
 simp only [World.cell?, h]
end
end Go.Proofs.YtfllkaeaanahmaaGreat
