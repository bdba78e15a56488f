/- Arguments that are slices of structs, or structs: opened to plain data. Lemmas over any program. No condition. -/
import Derived.Test.YtihhkcndcgljbaaGreatLawKit
import Derived.Lib.SmallJoins
namespace Go.Proofs.YtihhkcndcgljbaaGreat
set_option linter.unusedVariables false
set_option linter.unusedSimpArgs false
open Go.RowKit Go.WideShapes Go.ChangeShapes Go.ChangeAt Go.Deep
open Go.WideMaps Go.WideElems

section
variable {H : Type} {enc : TypeId × Value → H} {P : Program} {W : World} {t e : TypeId} {v : Value} {d : DataW H} {ps : List MemPlace} {r : Reach} {b0 : Nat}

/-- a slice of elements of m cells, each of which reads as some f y -/
theorem arg_elems {α : Type} {f : α → List Value} {Q : α → Prop} {m bytes : Nat} (ht : P.underlying t = some (.slice e)) (hc : P.cellsOf e = m) (hby : P.bytesOf e = bytes) (hb0 : 0 < bytes) (hm0 : 0 < m)
    (hel : ∀ fuel cs x, cs.length = m → DataW.trod enc P W 0 (fun _ => true) true fuel e cs = some x → ∃ y : α, cs = f y ∧ Q y)
    (hval : Value.okWide P W r b0 t v) (hd : DataW.Trod enc P W 0 (fun _ => true) true t v d ps) (hs : Sized P t d) :
    ∃ (A : Option Addr) (n c : Nat) (l : List α), v = .slice A n c ∧ n ≤ c ∧ c ≤ 140737488355328 ∧ l.length = n ∧ (∀ x ∈ l, Q x ∧ (f x).length = m) ∧ Rd W W.heap.size m A n (l.flatMap f) := by
  obtain ⟨a0, len, cap, rfl⟩ := okWide_slice ht hval
  obtain ⟨fuel, hf⟩ := hd
  rcases open_slice ht hf with ⟨hcs, hx⟩ | ⟨a, len', cap', M, n, D, Pl, hcs, _, hl, hm, hM, hx, hi⟩
  · simp [Value.cells] at hcs
    obtain ⟨rfl, rfl, rfl⟩ := hcs
    exact ⟨none, 0, 0, [], rfl, by omega, by omega, rfl, by simp, Rd.nil_ _ _ _ _⟩
  · simp [Value.cells] at hcs
    obtain ⟨rfl, rfl, rfl⟩ := hcs
    simp only [if_true] at hM
    subst hM
    have hcap : M ≤ 140737488355328 := by
      simp only [Prod.mk.injEq] at hx
      have h1 := hs ((((List.range len).map D).length + ((List.range (M - len)).map fun j => D (len + j)).length) * P.bytesOf e) (by rw [hx.1]; simp [DataW.weights, ht])
      simp only [List.length_map, List.length_range, hby] at h1
      have h2 := reachBytes_lt
      have h3 : M * 1 ≤ M * bytes := Nat.mul_le_mul_left _ hb0
      have h4 : len + (M - len) = M := by omega
      rw [h4] at h1
      omega
    have each : ∀ i, i < len → ∃ y : α, (f y).length = m ∧ Q y ∧ ∀ j u, (f y)[j]? = some u → W.cell? (a.add (i * m + j)) = some u := by
      intro i hil
      obtain ⟨cs', hcc, htr⟩ := hi i (by omega)
      rw [hc] at hcc
      obtain ⟨_, hcl, hat⟩ := World.cells?_some hcc
      obtain ⟨y, hy, hq⟩ := hel _ _ _ hcl htr
      subst hy
      refine ⟨y, hcl, hq, fun j u hu => ?_⟩
      have hj : j < m := by have := (List.getElem?_eq_some_iff.1 hu).1; omega
      rw [← Go.Deep.add_add, hat j hj, hu]
    rcases Nat.eq_zero_or_pos len with h0 | h0
    · subst h0
      exact ⟨some a, 0, M, [], rfl, by omega, hcap, rfl, by simp, Rd.nil_ _ _ _ _⟩
    obtain ⟨y0, _⟩ := each 0 h0
    obtain ⟨L, hL⟩ : ∃ L : Nat → α, ∀ i, i < len → (f (L i)).length = m ∧ Q (L i) ∧ ∀ j u, (f (L i))[j]? = some u → W.cell? (a.add (i * m + j)) = some u :=
      ⟨fun i => if h : i < len then (each i h).choose else y0, fun i h => by
        have := (each i h).choose_spec
        simp only [h, dif_pos]
        exact this⟩
    have hlen : ∀ x ∈ (List.range len).map L, Q x ∧ (f x).length = m := by
      intro x hx'
      simp only [List.mem_map, List.mem_range] at hx'
      obtain ⟨i, hi', rfl⟩ := hx'
      exact ⟨(hL i hi').2.1, (hL i hi').1⟩
    have hfl : ∀ x ∈ (List.range len).map L, (f x).length = m := fun x hx' => (hlen x hx').2
    refine ⟨some a, len, M, (List.range len).map L, rfl, hl, hcap, by simp, hlen, ⟨by rw [flatMap_len hfl]; simp, fun hn => ?_⟩⟩
    obtain ⟨u0, hc0⟩ : ∃ u, W.cell? (a.add 0) = some u := by
      obtain ⟨h1, _, h3⟩ := hL 0 hn
      have h4 : (f (L 0))[0]? = some ((f (L 0))[0]'(by omega)) := List.getElem?_eq_getElem _
      exact ⟨_, by simpa only [Nat.zero_mul, Nat.zero_add] using h3 0 _ h4⟩
    have hsp := addr_plain hc0
    refine ⟨a.block, a.off, by cases a; simp_all, ints_block hc0, fun j u hu => ?_⟩
    have hjl : j < len * m := by
      have := (List.getElem?_eq_some_iff.1 hu).1
      rw [flatMap_len hfl] at this
      simpa using this
    have hk : j / m < len := by rw [Nat.div_lt_iff_lt_mul hm0]; exact hjl
    have hj : j % m < m := Nat.mod_lt _ hm0
    have hjj : j = j / m * m + j % m := by rw [Nat.mul_comm]; exact (Nat.div_add_mod j m).symm
    rw [hjj, flatMap_get? hfl (by simpa using hk) hj] at hu
    simp only [List.getElem_map, List.getElem_range] at hu
    have h1 := (hL (j / m) hk).2.2 (j % m) u hu
    rw [← hjj, addr_add_plain hsp] at h1
    exact h1

theorem field_int {k : IntKind} {n : Nat} {u : Value} {y : DataW H × List MemPlace} (ht : P.underlying t = some (.int k)) (h : DataW.trod enc P W 0 (fun _ => true) true n t [u] = some y) : ∃ q : Int, u = .int k q ∧ (Lit.int k q).wf = true := by
  obtain ⟨q, hq1, _, hq2⟩ := DataW.trod_int ht h
  simp only [List.cons.injEq, and_true] at hq1
  exact ⟨q, hq1, hq2⟩
end
end Go.Proofs.YtihhkcndcgljbaaGreat
