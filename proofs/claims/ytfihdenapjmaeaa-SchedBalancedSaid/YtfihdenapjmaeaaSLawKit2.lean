/- Layer 37: a list of lists of tasks among the arguments, opened to plain data. No condition. -/
import Derived.Test.YtfihdenapjmaeaaSLawKit
namespace Go.Proofs.Ytfihdenapjmaeaa
set_option linter.unusedVariables false
set_option linter.unusedSimpArgs false
open Go.RowKit Go.WideShapes Go.ChangeShapes Go.ChangeAt Go.Deep
open Go.WideMaps Go.WideElems
section
variable {H : Type} {enc : TypeId × Value → H} {P : Program} {W : World} {t e : TypeId} {v : Value} {d : DataW H} {ps : List MemPlace} {r : Reach} {b0 : Nat}
/-- a slice among the cells, of elements of m cells, each of which reads as some f y -/
theorem cell_elems {α : Type} {f : α → List Value} {Q : α → Prop} {m fuel0 : Nat} {cs0 : List Value} {x0 : DataW H × List MemPlace} (ht : P.underlying t = some (.slice e)) (hc : P.cellsOf e = m) (hm0 : 0 < m)
    (hel : ∀ fuel cs x, cs.length = m → DataW.trod enc P W 0 (fun _ => true) true fuel e cs = some x → ∃ y : α, cs = f y ∧ Q y)
    (hf : DataW.trod enc P W 0 (fun _ => true) true fuel0 t cs0 = some x0) :
    ∃ (A : Option Addr) (n c : Nat) (l : List α), cs0 = [.slice A n c] ∧ l.length = n ∧ (∀ x ∈ l, Q x ∧ (f x).length = m) ∧ Rd W W.heap.size m A n (l.flatMap f) := by
  rcases open_slice ht hf with ⟨hcs, hx⟩ | ⟨a, len, M0, M, n, D, Pl, hcs, _, hl, hm, hM, hx, hi⟩
  · subst hcs
    exact ⟨none, 0, 0, [], rfl, rfl, by simp, Rd.nil_ _ _ _ _⟩
  · subst hcs
    simp only [if_true] at hM
    subst hM
    have each : ∀ i, i < len → ∃ y : α, (f y).length = m ∧ Q y ∧ ∀ j u, (f y)[j]? = some u → W.cell? (a.add (i * m + j)) = some u := by
      intro i hil
      obtain ⟨cs', hcc, htr⟩ := hi i (by omega)
      rw [hc] at hcc
      obtain ⟨_, hcl, hat⟩ := World.cells?_some hcc
      obtain ⟨y, hy, hq⟩ := hel _ _ _ hcl htr
      subst hy
      refine ⟨y, hcl, hq, fun j u hu => ?_⟩
      have hj : j < m := by have := (List.getElem?_eq_some_iff.1 hu).1; omega
      rw [← Go.Deep.add_add, hat j hj, hu]
    rcases Nat.eq_zero_or_pos len with h0 | h0
    · subst h0
      exact ⟨some a, 0, M, [], rfl, rfl, by simp, Rd.nil_ _ _ _ _⟩
    obtain ⟨y0, _⟩ := each 0 h0
    obtain ⟨L, hL⟩ : ∃ L : Nat → α, ∀ i, i < len → (f (L i)).length = m ∧ Q (L i) ∧ ∀ j u, (f (L i))[j]? = some u → W.cell? (a.add (i * m + j)) = some u :=
      ⟨fun i => if h : i < len then (each i h).choose else y0, fun i h => by
        have := (each i h).choose_spec
        simp only [h, dif_pos]
        exact this⟩
    have hlen : ∀ x ∈ (List.range len).map L, Q x ∧ (f x).length = m := by
      intro x hx'
      simp only [List.mem_map, List.mem_range] at hx'
      obtain ⟨i, hi', rfl⟩ := hx'
      exact ⟨(hL i hi').2.1, (hL i hi').1⟩
    have hfl : ∀ x ∈ (List.range len).map L, (f x).length = m := fun x hx' => (hlen x hx').2
    refine ⟨some a, len, M, (List.range len).map L, rfl, by simp, hlen, ⟨by rw [flatMap_len hfl]; simp, fun hn => ?_⟩⟩
    obtain ⟨u0, hc0⟩ : ∃ u, W.cell? (a.add 0) = some u := by
      obtain ⟨h1, _, h3⟩ := hL 0 hn
      have h4 : (f (L 0))[0]? = some ((f (L 0))[0]'(by omega)) := List.getElem?_eq_getElem _
      exact ⟨_, by simpa only [Nat.zero_mul, Nat.zero_add] using h3 0 _ h4⟩
    have hsp := addr_plain hc0
    refine ⟨a.block, a.off, by cases a; simp_all, ints_block hc0, fun j u hu => ?_⟩
    have hjl : j < len * m := by
      have := (List.getElem?_eq_some_iff.1 hu).1
      rw [flatMap_len hfl] at this
      simpa using this
    have hk : j / m < len := by rw [Nat.div_lt_iff_lt_mul hm0]; exact hjl
    have hj : j % m < m := Nat.mod_lt _ hm0
    have hjj : j = j / m * m + j % m := by rw [Nat.mul_comm]; exact (Nat.div_add_mod j m).symm
    rw [hjj, flatMap_get? hfl (by simpa using hk) hj] at hu
    simp only [List.getElem_map, List.getElem_range] at hu
    have h1 := (hL (j / m) hk).2.2 (j % m) u hu
    rw [← hjj, addr_add_plain hsp] at h1
    exact h1
/-- a slice of tasks: where it lies, its length and capacity, and the tasks -/
structure TSl where
  A : Option Addr
  n : Nat
  c : Nat
  L : List Sc.Tk
def tsl (y : TSl) : List Value := [.slice y.A y.n y.c]
def TSlOk (W : World) (y : TSl) : Prop := y.L.length = y.n ∧ Rd W W.heap.size 5 y.A y.n (y.L.flatMap tcs)
theorem arg_lists (hval : Value.okWide Try.prog W r b0 56 v) (hd : DataW.Trod enc Try.prog W 0 (fun _ => true) true 56 v d ps) (hs : Sized Try.prog 56 d) :
    ∃ (A : Option Addr) (n c : Nat) (l : List TSl), v = .slice A n c ∧ n ≤ c ∧ c ≤ 140737488355328 ∧ l.length = n ∧ (∀ y ∈ l, TSlOk W y) ∧ Rd W W.heap.size 1 A n (l.flatMap tsl) := by
  obtain ⟨A, n, c, l, hv, h1, h2, h3, h4, h5⟩ := arg_elems (f := tsl) (Q := TSlOk W) (m := 1) (bytes := 24) Try.underlying56 (by kernel_rfl) (by kernel_rfl) (by omega) (by omega) (fun fuel cs x hl h => by
    obtain ⟨A, n, c, L, e1, e2, e3, e4⟩ := cell_elems (f := tcs) (Q := TkOk) (m := 5) Try.underlying23 (by kernel_rfl) (by omega) (fun fuel cs x hl h => task_cells hl h) h
    exact ⟨⟨A, n, c, L⟩, e1, e2, e4⟩) hval hd hs
  exact ⟨A, n, c, l, hv, h1, h2, h3, fun o ho => (h4 o ho).1, h5⟩
end
end Go.Proofs.Ytfihdenapjmaeaa
