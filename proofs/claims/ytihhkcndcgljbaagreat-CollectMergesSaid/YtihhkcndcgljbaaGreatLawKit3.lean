/- Slices within slices among the arguments, opened to plain data, each with its size. Lemmas over any program. No condition. -/
import Derived.Test.YtihhkcndcgljbaaGreatLawKit2
namespace Go.Proofs.YtihhkcndcgljbaaGreat
set_option linter.unusedVariables false
set_option linter.unusedSimpArgs false
open Go.RowKit Go.WideShapes Go.ChangeShapes Go.ChangeAt Go.Deep
open Go.WideMaps Go.WideElems
section
variable {H : Type} {enc : TypeId × Value → H} {P : Program} {W : World} {t e : TypeId} {v : Value} {d : DataW H} {ps : List MemPlace} {r : Reach} {b0 : Nat}
theorem weights_all {es : List (DataW H)} {x : DataW H} (hx : x ∈ es) : ∀ n ∈ x.weights P e, n ∈ DataW.weightsAll P e es := by
  induction es with
  | nil => cases hx
  | cons y es ih =>
    intro n hn
    simp only [DataW.weightsAll, List.mem_append]
    rcases List.mem_cons.1 hx with rfl | hx
    · exact .inl hn
    · exact .inr (ih hx n hn)
/-- a field of a struct, with its size -/
theorem field_sz {fs : Array Field} {fuel : Nat} {cs : List Value} {x : DataW H × List MemPlace} (he : P.underlying e = some (.struct fs)) (h : DataW.trod enc P W 0 (fun _ => true) true fuel e cs = some x) {j : Nat} {f : Field} (hj : fs[j]? = some f) :
    ∃ (n : Nat) (y : DataW H × List MemPlace), DataW.trod enc P W 0 (fun _ => true) true n f.type ((cs.drop f.offset).take (P.cellsOf f.type)) = some y ∧ (Sized P e x.1 → Sized P f.type y.1) := by
  obtain ⟨ys, n', _, hx, _, hyl, hf⟩ := DataW.trod_struct he h
  have hjl : j < fs.size := (Array.getElem?_eq_some_iff.1 hj).1
  have h1 := hf j f hj
  rw [List.getElem?_eq_getElem (by omega)] at h1
  refine ⟨_, _, h1, fun hs n hn => hs n ?_⟩
  rw [hx]
  simp only [DataW.weights, he]
  exact DataW.weights_mem_each (j := j) (by rw [List.getElem?_map, Array.getElem?_toList, hj]; rfl) (by rw [List.getElem?_map, List.getElem?_eq_getElem (by omega)]; rfl) n hn
/-- a slice among the cells, of elements of m cells, each of which reads as some f y -/
theorem elems_of {α : Type} {f : α → List Value} {Q : α → Prop} {m bytes fuel0 : Nat} {cs0 : List Value} {x0 : DataW H × List MemPlace} (ht : P.underlying t = some (.slice e)) (hc : P.cellsOf e = m) (hby : P.bytesOf e = bytes) (hb0 : 0 < bytes) (hm0 : 0 < m)
    (hel : ∀ fuel cs x, cs.length = m → DataW.trod enc P W 0 (fun _ => true) true fuel e cs = some x → Sized P e x.1 → ∃ y : α, cs = f y ∧ Q y)
    (hf : DataW.trod enc P W 0 (fun _ => true) true fuel0 t cs0 = some x0) (hs : Sized P t x0.1) :
    ∃ (A : Option Addr) (n c : Nat) (l : List α), cs0 = [.slice A n c] ∧ n ≤ c ∧ c * bytes ≤ reachBytes ∧ l.length = n ∧ (∀ x ∈ l, Q x ∧ (f x).length = m) ∧ Rd W W.heap.size m A n (l.flatMap f) := by
  rcases open_slice ht hf with ⟨hcs, hx⟩ | ⟨a, len, M0, M, n, D, Pl, hcs, _, hl, hm, hM, hx, hi⟩
  · subst hcs
    exact ⟨none, 0, 0, [], rfl, Nat.le_refl _, by omega, rfl, by simp, Rd.nil_ _ _ _ _⟩
  · subst hcs
    simp only [if_true] at hM
    subst hM
    have hsz : M * bytes ≤ reachBytes := by
      have h1 := hs ((((List.range len).map D).length + ((List.range (M - len)).map fun j => D (len + j)).length) * P.bytesOf e) (by rw [hx]; simp [DataW.weights, ht])
      simp only [List.length_map, List.length_range, hby] at h1
      have h4 : len + (M - len) = M := by omega
      rw [h4] at h1
      exact h1
    have each : ∀ i, i < len → ∃ y : α, (f y).length = m ∧ Q y ∧ ∀ j u, (f y)[j]? = some u → W.cell? (a.add (i * m + j)) = some u := by
      intro i hil
      obtain ⟨cs', hcc, htr⟩ := hi i (by omega)
      rw [hc] at hcc
      obtain ⟨_, hcl, hat⟩ := World.cells?_some hcc
      obtain ⟨y, hy, hq⟩ := hel _ _ _ hcl htr (fun n hn => hs n (by
        rw [hx]
        simp only [DataW.weights, ht, List.mem_cons, List.mem_append]
        exact .inr (.inl (weights_all (List.mem_map.2 ⟨i, List.mem_range.2 hil, rfl⟩) n hn))))
      subst hy
      refine ⟨y, hcl, hq, fun j u hu => ?_⟩
      have hj : j < m := by have := (List.getElem?_eq_some_iff.1 hu).1; omega
      rw [← Go.Deep.add_add, hat j hj, hu]
    rcases Nat.eq_zero_or_pos len with h0 | h0
    · subst h0
      exact ⟨some a, 0, M, [], rfl, Nat.zero_le _, hsz, rfl, by simp, Rd.nil_ _ _ _ _⟩
    obtain ⟨y0, _⟩ := each 0 h0
    obtain ⟨L, hL⟩ : ∃ L : Nat → α, ∀ i, i < len → (f (L i)).length = m ∧ Q (L i) ∧ ∀ j u, (f (L i))[j]? = some u → W.cell? (a.add (i * m + j)) = some u :=
      ⟨fun i => if h : i < len then (each i h).choose else y0, fun i h => by
        have := (each i h).choose_spec
        simp only [h, dif_pos]
        exact this⟩
    have hlen : ∀ x ∈ (List.range len).map L, Q x ∧ (f x).length = m := by
      intro x hx'
      simp only [List.mem_map, List.mem_range] at hx'
      obtain ⟨i, hi', rfl⟩ := hx'
      exact ⟨(hL i hi').2.1, (hL i hi').1⟩
    have hfl : ∀ x ∈ (List.range len).map L, (f x).length = m := fun x hx' => (hlen x hx').2
    refine ⟨some a, len, M, (List.range len).map L, rfl, hl, hsz, by simp, hlen, ⟨by rw [flatMap_len hfl]; simp, fun hn => ?_⟩⟩
    obtain ⟨u0, hc0⟩ : ∃ u, W.cell? (a.add 0) = some u := by
      obtain ⟨h1, _, h3⟩ := hL 0 hn
      have h4 : (f (L 0))[0]? = some ((f (L 0))[0]'(by omega)) := List.getElem?_eq_getElem _
      exact ⟨_, by simpa only [Nat.zero_mul, Nat.zero_add] using h3 0 _ h4⟩
    have hsp := addr_plain hc0
    refine ⟨a.block, a.off, by cases a; simp_all, ints_block hc0, fun j u hu => ?_⟩
    have hjl : j < len * m := by
      have := (List.getElem?_eq_some_iff.1 hu).1
      rw [flatMap_len hfl] at this
      simpa using this
    have hk : j / m < len := by rw [Nat.div_lt_iff_lt_mul hm0]; exact hjl
    have hj : j % m < m := Nat.mod_lt _ hm0
    have hjj : j = j / m * m + j % m := by rw [Nat.mul_comm]; exact (Nat.div_add_mod j m).symm
    rw [hjj, flatMap_get? hfl (by simpa using hk) hj] at hu
    simp only [List.getElem_map, List.getElem_range] at hu
    have h1 := (hL (j / m) hk).2.2 (j % m) u hu
    rw [← hjj, addr_add_plain hsp] at h1
    exact h1
/-- an argument that is such a slice -/
theorem arg_elems3 {α : Type} {f : α → List Value} {Q : α → Prop} {m bytes : Nat} (ht : P.underlying t = some (.slice e)) (hc : P.cellsOf e = m) (hby : P.bytesOf e = bytes) (hb0 : 0 < bytes) (hm0 : 0 < m)
    (hel : ∀ fuel cs x, cs.length = m → DataW.trod enc P W 0 (fun _ => true) true fuel e cs = some x → Sized P e x.1 → ∃ y : α, cs = f y ∧ Q y)
    (hval : Value.okWide P W r b0 t v) (hd : DataW.Trod enc P W 0 (fun _ => true) true t v d ps) (hs : Sized P t d) :
    ∃ (A : Option Addr) (n c : Nat) (l : List α), v = .slice A n c ∧ n ≤ c ∧ c * bytes ≤ reachBytes ∧ l.length = n ∧ (∀ x ∈ l, Q x ∧ (f x).length = m) ∧ Rd W W.heap.size m A n (l.flatMap f) := by
  obtain ⟨a0, len, cap, rfl⟩ := okWide_slice ht hval
  obtain ⟨fuel, hf⟩ := hd
  obtain ⟨A, n, c, l, h1, h2⟩ := elems_of ht hc hby hb0 hm0 hel hf hs
  simp only [Value.cells, List.cons.injEq, and_true] at h1
  exact ⟨A, n, c, l, h1, h2⟩
end
end Go.Proofs.YtihhkcndcgljbaaGreat
