/- More lemmas on memory: append onto a slice without spare room. No condition: plain lemmas over any program. -/
import Derived.Test.YtkjomnakolhdcaaDoorBase
namespace Go.Proofs.YtkjomnakolhdcaaDoor
set_option linter.unusedVariables false
set_option linter.unusedSimpArgs false
open Go.RowKit

section
variable {P : Program} (w : World) {t e : TypeId} {z : Value} {size bytes : Nat}

/-- append onto a slice whose length is its capacity (or that is nil): SOME slice that reads as both; nothing old has turned -/
theorem run_appT (ty : TypeId) (E : ElemT P t e z size bytes) (A0 : Option Addr) (n : Nat) (xs : List Value) (B0 : Nat) (hr0 : Rd w B0 size A0 n xs) (hB0 : B0 ≤ w.heap.size)
    (A : Option Addr) (m c : Nat) (news : List Value) (B : Nat) (hr : Rd w B size A m news) (h1 : ∀ u ∈ news, u.oneCell' = true) (hb : (n + m) * bytes ≤ 140737488355328) :
    ∃ A' c' w', (Builtin.append_ #[t, t] ty #[.slice A0 n n, .slice A m c]).run P w = .ok (.slice A' (n + m) c') w' ∧ Rd w' w'.heap.size size A' (n + m) (xs ++ news) ∧ n + m ≤ c' ∧ c' ≤ maxLen ∧ Below w.heap.size w w' := by
  have h63 := le_maxLen hb E.bpos
  obtain ⟨i, hi, hz, hsize, hby⟩ := info_parts E.info
  rcases Nat.eq_zero_or_pos m with h0 | h0
  · subst h0
    obtain rfl : news = [] := List.eq_nil_of_length_eq_zero (by simpa using hr.1)
    refine ⟨A0, n, w, ?_, by simpa using hr0.more hB0, by omega, by simpa using h63, Below.refl _ _⟩
    cases A with
    | none => cases A0 <;> simp [Builtin.append_, run_underlying E.sl, sizeOf, typeInfo, hi, Builtin.lenOf, Builtin.firstCells, storeCells]
    | some ad => cases A0 <;> simp [Builtin.append_, run_underlying E.sl, sizeOf, typeInfo, hi, Builtin.lenOf, Builtin.firstCells, storeCells, loadCells, loadCellsFrom]
  · obtain ⟨b, off, rfl, _, hc⟩ := hr.2 h0
    have key : ∀ v' w', (Builtin.append_ #[t, t] ty #[.slice A0 n n, .slice (some ⟨b, off, none⟩) m c]).run P w = .ok v' w' → w'.ownsRow w.heap.size e size v' (n + m) (xs ++ news) → w.grownBy w' none →
        ∃ A' c' w', (Builtin.append_ #[t, t] ty #[.slice A0 n n, .slice (some ⟨b, off, none⟩) m c]).run P w = .ok (.slice A' (n + m) c') w' ∧ Rd w' w'.heap.size size A' (n + m) (xs ++ news) ∧ n + m ≤ c' ∧ c' ≤ maxLen ∧ Below w.heap.size w w' := by
      intro v' w' hrun h2 h3
      obtain ⟨A', c', rfl⟩ := own_slice h2
      rcases h2.2 with ⟨h4, h5⟩ | ⟨g, cap, cur, h4, _⟩
      · omega
      · injection h4 with h4a h4b h4c
        subst h4a h4c
        have h5 := own_cap h2
        exact ⟨_, _, w', hrun, Rd.of_own h2, h5.1, h5.2, (Below.refl _ _).grown h3 (Nat.le_refl _) (by intro k hk; cases hk)⟩
    cases A0 with
    | none =>
      have hn0 : n = 0 := by
        rcases Nat.eq_zero_or_pos n with h | h
        · exact h
        · obtain ⟨b, off, e, _⟩ := hr0.2 h; cases e
      subst hn0
      obtain rfl : xs = [] := List.eq_nil_of_length_eq_zero (by simpa using hr0.1)
      obtain ⟨v', w', hrun, r1, r2, _⟩ := run_append_own (P := P) w w.heap.size t ty e i z size bytes E.sl hi hz hsize hby E.zs E.pos (.slice none 0 0) 0 [] (World.ownsRow_nil w _ e size) ⟨b, off, none⟩ m c news hr.1 (fun j u hu => by rw [Addr.add_lit]; exact hc j u hu) h1 h63 hb (Nat.le_refl _)
      exact key v' w' hrun r1 r2
    | some a0 =>
      have holds : ∀ j u, xs[j]? = some u → w.cell? (a0.add j) = some u := by
        intro j u hu
        rcases Nat.eq_zero_or_pos n with h | h
        · subst h
          obtain rfl : xs = [] := List.eq_nil_of_length_eq_zero (by simpa using hr0.1)
          simp at hu
        · obtain ⟨b1, o1, e1, _, hc1⟩ := hr0.2 h
          injection e1 with e1
          subst e1
          rw [Addr.add_lit]; exact hc1 j u hu
      obtain ⟨v', w', hrun, r1, r2⟩ := run_append_arg_grows (P := P) w t ty e i z size bytes E.sl hi hz hsize hby E.zs E.pos a0 n n xs hr0.1 holds ⟨b, off, none⟩ m c news hr.1 (fun j u hu => by rw [Addr.add_lit]; exact hc j u hu) (by omega) h63 hb
      exact key v' w' hrun r1 r2

theorem wpList_appT {ops : Array Oper} {rest : List Oper} {o : Oper} {a : Act} {Q : Exit → Act → World → Prop} (hgd : o.guard = none) (s x : Operand) (t : TypeId)
    (ho : o.op = .call { callee := .builtin .append, args := #[s, x], argTypes := #[t, t] }) (e : TypeId) (z : Value) (size bytes : Nat) (E : ElemT P t e z size bytes)
    (A0 : Option Addr) (n : Nat) (xs : List Value) (A : Option Addr) (m c : Nat) (news : List Value) (hs : a.eval s = .slice A0 n n) (hx : a.eval x = .slice A m c) {B0 : Nat} (hr0 : Rd w B0 size A0 n xs) (hB0 : B0 ≤ w.heap.size) {B : Nat} (hr : Rd w B size A m news) (h1 : ∀ u ∈ news, u.oneCell' = true)
    (hb : (n + m) * bytes ≤ 140737488355328)
    (h : ∀ A' c' w', Rd w' w'.heap.size size A' (n + m) (xs ++ news) → n + m ≤ c' → c' ≤ maxLen → Below w.heap.size w w' → wpList P ops Q rest (a.put o.dst (.slice A' (n + m) c')) w') : wpList P ops Q (o :: rest) a w := by
  refine wpList_plain hgd fun K hK => ?_
  obtain ⟨A', c', w', hrun, h2, h3, h4, h5⟩ := run_appT (P := P) w o.type E A0 n xs B0 hr0 hB0 A m c news B hr h1 hb
  unfold Oper.wp execOp
  simp only [ho, resolve, invoke, builtin, Sem.run_bind, Sem.run_pure, Result.andThen_ok, List.map_toArray, List.map_cons, List.map_nil, hs, hx, hrun]
  exact hK _ _ (h A' c' w' h2 h3 h4 h5)
end
end Go.Proofs.YtkjomnakolhdcaaDoor
