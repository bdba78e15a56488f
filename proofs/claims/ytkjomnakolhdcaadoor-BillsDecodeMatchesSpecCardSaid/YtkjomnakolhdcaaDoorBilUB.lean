/- Joined texts: BilU6, BilU7. Conditions: as each part says. -/
import Derived.Test.YtkjomnakolhdcaaDoorBilUA
namespace Go.Proofs.YtkjomnakolhdcaaDoor
set_option linter.unusedVariables false
set_option linter.unusedSimpArgs false
/-! Layer 35's reference: the memory of a copy while it is made. Conditions: the ledger reads as told. -/
section
open Go.RowKit
section
variable {w W W0 W1 : World} {e : TypeId} {sz c n : Nat} {A : Option Addr} {L : List (List Value)}
theorem ORow.of_own {base : Nat} (h : w.ownsRow base e sz (.slice A n c) n L.flatten) (hl : ∀ x ∈ L, x.length = sz) (hn : L.length = n) : ORow w e sz A c L := by
  refine ⟨hl, ?_⟩
  rcases h.2 with ⟨hv, h0⟩ | ⟨g, cap, cur, hv, hb, hh, h1, h2, h3, h4⟩
  · injection hv with hA _ hc
    subst h0
    exact .inl ⟨hA, hc, List.eq_nil_of_length_eq_zero hn⟩
  · injection hv with hA _ hc
    subst hA hc
    refine .inr ⟨g, 0, cur, rfl, hh, by omega, h2, by omega, fun j u hu => ?_⟩
    rw [← h4, List.getElem?_take] at hu
    split at hu
    · rw [Nat.zero_add]; simpa using hu
    · cases hu
theorem ORow.rd (h : ORow w e sz A c L) (hn : L.length = n) : Rd w w.heap.size sz A n L.flatten := by
  obtain ⟨hl, h⟩ := h
  refine ⟨by rw [flat_len hl, hn], fun h0 => ?_⟩
  rcases h with ⟨_, _, rfl⟩ | ⟨g, off, cur, rfl, h1, h2, h3, h4, h5⟩
  · simp at hn; omega
  · exact ⟨g, off, rfl, (Array.getElem?_eq_some_iff.1 h1).1, fun j u hu => by rw [cell_of_row w g _ cur _ (0, 0) h1]; exact h5 j u hu⟩
end
/-- a kept bill but for where its credits lie -/
def RA.strip (k : RA) : RA := { k with bg := 0, cg := 0 }
theorem strip_bill (n : Nat) {a b : List RA} (h : a.map RA.strip = b.map RA.strip) : a.map (RA.bill n) = b.map (RA.bill n) := by
  have e : RA.bill n = RA.bill n ∘ RA.strip := rfl
  rw [e, ← List.map_map, ← List.map_map, h]
theorem strip_a {a b : List RA} (h : a.map RA.strip = b.map RA.strip) : a.map RA.a = b.map RA.a := by
  have e : RA.a = RA.a ∘ RA.strip := rfl
  rw [e, ← List.map_map, ← List.map_map, h]
/-- a copy with the credits of its first kept bills -/
structure RCl (w W : World) (bc : Nat) (col cl : Nat → Nat) (l : Bil.Lg) (ks done : List RA) (Ak : Option Addr) (ck : Nat) (Ag : Option Addr) (cg bp cp bq cq : Nat) : Prop where
  row : IsRow W bc 76 (rcs l.n l.periods l.head bp cp bq cq (.slice Ak ks.length ck) (.slice Ag done.length cg))
  pend : FRow W bp l.n (fun t => l.pending.getD t 0)
  paid : FRow W bq l.n (fun t => l.paid.getD t 0)
  krow : ORow W 31 6 Ak ck (ks.map (RA.bill l.n))
  grow : ORow W 29 1 Ag cg (done.map (RA.gr l.n))
  strip : done.map RA.strip = (ks.take done.length).map RA.strip
  kat : ∀ d ∈ done, RKat W cl l.n d
  cbl : cl bc = 1
  cbp : cl bp = 2
  cbq : cl bq = 3
  cka : ∀ a, Ak = some a → cl a.block = 4
  cga : ∀ a, Ag = some a → cl a.block = 5
  fresh : ∀ b, cl b ≠ 0 → w.heap.size ≤ b ∨ (col b = 6 ∧ cl b = 6)
  six : ∀ b, col b = 6 → cl b = 6
  lt : ∀ b, cl b ≠ 0 → b < W.heap.size
  below : Below w.heap.size w W
/-- what the reference's Clone gives: the copy shares the lists of the kept bills alone -/
def RCloneRes (w : World) (col : Nat → Nat) (l : Bil.Lg) (e : Ending) (w' : World) : Prop := ∃ bc cl m', e = .returned (.pointer (some ⟨bc, 0, none⟩)) ∧ RAt w' bc cl m' l ∧ (∀ b, cl b ≠ 0 → w.heap.size ≤ b ∨ (col b = 6 ∧ cl b = 6)) ∧ (∀ b, col b = 6 → cl b = 6) ∧ Below w.heap.size w w'
section
variable {w W W0 W1 w2 : World} {bl bc ck cg bp cp bq cq : Nat} {col cl : Nat → Nat} {m : RM} {l : Bil.Lg} {done : List RA} {Ak Ag : Option Addr}
/-- the finished copy -/
theorem RCl.fin (h : RCl w W bc col cl l m.ks done Ak ck Ag cg bp cp bq cq) (hl : RAt w bl col m l) (hd : done.length = m.ks.length) (ht : 2 < w.heap.size ∧ 0 < w.heap.size ∧ 1 < w.heap.size) : RAt W bc cl ⟨Ak, ck, Ag, cg, done, bp, cp, bq, cq⟩ l := by
  have hs := h.strip
  rw [hd, List.take_of_length_le (Nat.le_refl _)] at hs
  have tz : ∀ x, x < w.heap.size → col x = 0 → cl x = 0 := fun x hx hx0 => by
    rcases Nat.eq_zero_or_pos (cl x) with h0 | h0
    · exact h0
    · rcases h.fresh x (by omega) with h1 | h1 <;> omega
  refine ⟨?_, hl.h16, hl.n1, hl.n2, hl.per, by show done.length ≤ 16; rw [hd]; exact hl.len, h.pend, h.paid, hl.lp, hl.lq, ?_, ?_, h.grow, h.kat, h.cbl, h.cbp, h.cbq, h.cka, h.cga, h.lt, ⟨tz _ ht.1 hl.tab.1, tz _ ht.2.1 hl.tab.2.1, tz _ ht.2.2 hl.tab.2.2⟩⟩
  · have := h.row
    rw [← hd] at this
    exact this
  · rw [hl.kept]; exact (strip_a hs).symm
  · rw [strip_bill l.n hs]; exact h.krow
end
end
/-! Layer 35's reference: Clone. Conditions: the ledger reads as told; the tables of the digest are in memory. -/
section
open Go.RowKit
def rl4 (n p : Int) (hd : List UInt8) (a b c d : Value) : List Value := ([.int .i64 n, .int .i64 p] : List Value) ++ bvs hd ++ ([a, b, c, d] : List Value)
theorem rl4_tail {hd : List UInt8} (h : hd.length = 16) (n p : Int) (a b c d : Value) (j : Nat) : (rl4 n p hd a b c d)[18 + j]? = ([a, b, c, d] : List Value)[j]? := by
  unfold rl4
  rw [List.getElem?_append_right (by simp [h])]
  simp [h]
theorem rl4_set {hd : List UInt8} (h : hd.length = 16) (n p : Int) (a b c d v : Value) : (rl4 n p hd a b c d).set 18 v = rl4 n p hd v b c d ∧ (rl4 n p hd a b c d).set 19 v = rl4 n p hd a v c d ∧ (rl4 n p hd a b c d).set 20 v = rl4 n p hd a b v d := by
  have hc : (bvs hd).length = 16 := by rw [bvs_len, h]
  unfold rl4
  obtain ⟨a0, a1, a2, a3, a4, a5, a6, a7, a8, a9, a10, a11, a12, a13, a14, a15, e⟩ := list16 (bvs hd) hc
  rw [e]; exact ⟨rfl, rfl, rfl⟩
theorem wpList_arun {P : Program} {w w' : World} {ops : Array Oper} {rest : List Oper} {o : Oper} {a : Act} {Q : Exit → Act → World → Prop} (hgd : o.guard = none) (s x : Operand) (t : TypeId) (ho : o.op = .call { callee := .builtin .append, args := #[s, x], argTypes := #[t, t] }) (vs vx v : Value) (hs : a.eval s = vs) (hx : a.eval x = vx)
    (hrun : (Builtin.append_ #[t, t] o.type #[vs, vx]).run P w = .ok v w') (h : wpList P ops Q rest (a.put o.dst v) w') : wpList P ops Q (o :: rest) a w :=
  wpList_plain hgd fun K hK => wp_arun s x t ho vs vx v hs hx hrun (hK _ _ h)
/-- behind the copy of what is owed -/
structure RC2 (w wx : World) (bc g2 c2 N P : Nat) (l : Bil.Lg) : Prop where
  b : Below w.heap.size w wx
  o : w.heap.size ≤ bc ∧ bc < g2
  row : IsRow wx bc 76 (rl4 (N : Int) (P : Int) l.head (.slice (some ⟨g2, 0, none⟩) N c2) (.slice none 0 0) (.slice none 0 0) (.slice none 0 0))
  f2 : FRow wx g2 N (fun t => l.pending.getD t 0)
/-- behind the copy of what was paid -/
structure RC3 (w wx : World) (bc g2 c2 g3 c3 N P : Nat) (l : Bil.Lg) : Prop where
  b : Below w.heap.size w wx
  o : w.heap.size ≤ bc ∧ bc < g2 ∧ g2 < g3
  row : IsRow wx bc 76 (rl4 (N : Int) (P : Int) l.head (.slice (some ⟨g2, 0, none⟩) N c2) (.slice (some ⟨g3, 0, none⟩) N c3) (.slice none 0 0) (.slice none 0 0))
  f2 : FRow wx g2 N (fun t => l.pending.getD t 0)
  f3 : FRow wx g3 N (fun t => l.paid.getD t 0)
end
end Go.Proofs.YtkjomnakolhdcaaDoor
