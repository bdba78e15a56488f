/- Layer 35's laws: a list of bookings among the arguments, opened to plain data. No condition. -/
import Derived.Test.YtkjomnakolhdcaaDoorLawKit2
import Derived.Test.YtkjomnakolhdcaaDoorBilD
namespace Go.Proofs.YtkjomnakolhdcaaDoor
set_option linter.unusedVariables false
set_option linter.unusedSimpArgs false
open Go.RowKit Go.WideShapes Go.ChangeShapes Go.ChangeAt Go.Deep
open Go.WideMaps Go.WideElems
section
variable {H : Type} {enc : TypeId × Value → H} {P : Program} {W : World} {t e : TypeId} {v : Value} {d : DataW H} {ps : List MemPlace} {r : Reach} {b0 : Nat}
theorem bookingFields : ∃ f0 f1 f2 f3 f4 : Field, Tryd.prog.underlying 35 = some (.struct #[f0, f1, f2, f3, f4]) ∧ f0.type = 3 ∧ f1.type = 3 ∧ f2.type = 3 ∧ f3.type = 3 ∧ f4.type = 29 ∧ oneCellFields Tryd.prog #[f0, f1, f2, f3, f4] = true :=
  ⟨_, _, _, _, _, Tryd.underlying35, rfl, rfl, rfl, rfl, rfl, by kernel_rfl⟩
/-- a slice among the cells, of elements of m cells, each of which reads as some f y -/
theorem cell_elems {α : Type} {f : α → List Value} {Q : α → Prop} {m fuel0 : Nat} {cs0 : List Value} {x0 : DataW H × List MemPlace} (ht : P.underlying t = some (.slice e)) (hc : P.cellsOf e = m) (hm0 : 0 < m)
    (hel : ∀ fuel cs x, cs.length = m → DataW.trod enc P W 0 (fun _ => true) true fuel e cs = some x → ∃ y : α, cs = f y ∧ Q y)
    (hf : DataW.trod enc P W 0 (fun _ => true) true fuel0 t cs0 = some x0) :
    ∃ (A : Option Addr) (n c : Nat) (l : List α), cs0 = [.slice A n c] ∧ l.length = n ∧ (∀ x ∈ l, Q x ∧ (f x).length = m) ∧ Rd W W.heap.size m A n (l.flatMap f) := by
  rcases open_slice ht hf with ⟨hcs, hx⟩ | ⟨a, len, M0, M, n, D, Pl, hcs, _, hl, hm, hM, hx, hi⟩
  · subst hcs
    exact ⟨none, 0, 0, [], rfl, rfl, by simp, Rd.nil_ _ _ _ _⟩
  · subst hcs
    simp only [if_true] at hM
    subst hM
    have each : ∀ i, i < len → ∃ y : α, (f y).length = m ∧ Q y ∧ ∀ j u, (f y)[j]? = some u → W.cell? (a.add (i * m + j)) = some u := by
      intro i hil
      obtain ⟨cs', hcc, htr⟩ := hi i (by omega)
      rw [hc] at hcc
      obtain ⟨_, hcl, hat⟩ := World.cells?_some hcc
      obtain ⟨y, hy, hq⟩ := hel _ _ _ hcl htr
      subst hy
      refine ⟨y, hcl, hq, fun j u hu => ?_⟩
      have hj : j < m := by have := (List.getElem?_eq_some_iff.1 hu).1; omega
      rw [← Go.Deep.add_add, hat j hj, hu]
    rcases Nat.eq_zero_or_pos len with h0 | h0
    · subst h0
      exact ⟨some a, 0, M, [], rfl, rfl, by simp, Rd.nil_ _ _ _ _⟩
    obtain ⟨y0, _⟩ := each 0 h0
    obtain ⟨L, hL⟩ : ∃ L : Nat → α, ∀ i, i < len → (f (L i)).length = m ∧ Q (L i) ∧ ∀ j u, (f (L i))[j]? = some u → W.cell? (a.add (i * m + j)) = some u :=
      ⟨fun i => if h : i < len then (each i h).choose else y0, fun i h => by
        have := (each i h).choose_spec
        simp only [h, dif_pos]
        exact this⟩
    have hlen : ∀ x ∈ (List.range len).map L, Q x ∧ (f x).length = m := by
      intro x hx'
      simp only [List.mem_map, List.mem_range] at hx'
      obtain ⟨i, hi', rfl⟩ := hx'
      exact ⟨(hL i hi').2.1, (hL i hi').1⟩
    have hfl : ∀ x ∈ (List.range len).map L, (f x).length = m := fun x hx' => (hlen x hx').2
    refine ⟨some a, len, M, (List.range len).map L, rfl, by simp, hlen, ⟨by rw [flatMap_len hfl]; simp, fun hn => ?_⟩⟩
    obtain ⟨u0, hc0⟩ : ∃ u, W.cell? (a.add 0) = some u := by
      obtain ⟨h1, _, h3⟩ := hL 0 hn
      have h4 : (f (L 0))[0]? = some ((f (L 0))[0]'(by omega)) := List.getElem?_eq_getElem _
      exact ⟨_, by simpa only [Nat.zero_mul, Nat.zero_add] using h3 0 _ h4⟩
    have hsp := addr_plain hc0
    refine ⟨a.block, a.off, by cases a; simp_all, ints_block hc0, fun j u hu => ?_⟩
    have hjl : j < len * m := by
      have := (List.getElem?_eq_some_iff.1 hu).1
      rw [flatMap_len hfl] at this
      simpa using this
    have hk : j / m < len := by rw [Nat.div_lt_iff_lt_mul hm0]; exact hjl
    have hj : j % m < m := Nat.mod_lt _ hm0
    have hjj : j = j / m * m + j % m := by rw [Nat.mul_comm]; exact (Nat.div_add_mod j m).symm
    rw [hjj, flatMap_get? hfl (by simpa using hk) hj] at hu
    simp only [List.getElem_map, List.getElem_range] at hu
    have h1 := (hL (j / m) hk).2.2 (j % m) u hu
    rw [← hjj, addr_add_plain hsp] at h1
    exact h1
/-- a slice of numbers among the cells -/
theorem cell_ints {fuel : Nat} {u : Value} {y : DataW H × List MemPlace} (h : DataW.trod enc Tryd.prog W 0 (fun _ => true) true fuel 29 [u] = some y) :
    ∃ (A : Option Addr) (n c : Nat) (l : List Int), u = .slice A n c ∧ l.length = n ∧ Rd W W.heap.size 1 A n (ivs l) ∧ I64s l := by
  obtain ⟨A, n, c, l, e1, e2, e3, e4⟩ := cell_elems (f := fun x : Int => [Value.int .i64 x]) (Q := fun x => -9223372036854775808 ≤ x ∧ x ≤ 9223372036854775807) (m := 1) Tryd.underlying29 (by kernel_rfl) (by omega) (fun fuel cs x hl h => by
    obtain ⟨u, rfl⟩ : ∃ u, cs = [u] := by
      match cs, hl with
      | [a], _ => exact ⟨a, rfl⟩
    obtain ⟨q, rfl, hw⟩ := field_int Tryd.underlying3 h
    exact ⟨q, rfl, int_range hw⟩) h
  refine ⟨A, n, c, l, by simpa using e1, e2, ?_, fun x hx => (e3 x hx).1⟩
  have key : ∀ l : List Int, ivs l = l.flatMap fun x => [Value.int .i64 x] := fun l => by
    induction l with
    | nil => rfl
    | cons a l ih => rw [List.flatMap_cons, ← ih]; rfl
  rw [key]; exact e4
theorem booking_cells {fuel : Nat} {cs : List Value} {x : DataW H × List MemPlace} (hl : cs.length = 5) (h : DataW.trod enc Tryd.prog W 0 (fun _ => true) true fuel 35 cs = some x) : ∃ y : BkM, cs = bkc y ∧ BkOk W W.heap.size y := by
  obtain ⟨u0, u1, u2, u3, u4, rfl⟩ : ∃ u0 u1 u2 u3 u4, cs = [u0, u1, u2, u3, u4] := by
    match cs, hl with
    | [a, b, c, d, e], _ => exact ⟨a, b, c, d, e, rfl⟩
  obtain ⟨f0, f1, f2, f3, f4, he, t0, t1, t2, t3, t4, hone⟩ := bookingFields
  obtain ⟨v0, n0, y0, e0, h0⟩ := field_of he hone rfl h (j := 0) (f := f0) rfl
  obtain ⟨v1, n1, y1, e1, h1⟩ := field_of he hone rfl h (j := 1) (f := f1) rfl
  obtain ⟨v2, n2, y2, e2, h2⟩ := field_of he hone rfl h (j := 2) (f := f2) rfl
  obtain ⟨v3, n3, y3, e3, h3⟩ := field_of he hone rfl h (j := 3) (f := f3) rfl
  obtain ⟨v4, n4, y4, e4, h4⟩ := field_of he hone rfl h (j := 4) (f := f4) rfl
  rw [t0] at h0; rw [t1] at h1; rw [t2] at h2; rw [t3] at h3; rw [t4] at h4
  simp at e0 e1 e2 e3 e4
  subst e0 e1 e2 e3 e4
  obtain ⟨q0, rfl, w0⟩ := field_int Tryd.underlying3 h0
  obtain ⟨q1, rfl, w1⟩ := field_int Tryd.underlying3 h1
  obtain ⟨q2, rfl, w2⟩ := field_int Tryd.underlying3 h2
  obtain ⟨q3, rfl, w3⟩ := field_int Tryd.underlying3 h3
  obtain ⟨A, n, c, l, rfl, hln, hrd, _⟩ := cell_ints h4
  exact ⟨⟨⟨q0, q1, q2, q3, l⟩, A, n, c⟩, rfl, ⟨int_range w1, int_range w2, int_range w3, hln, hrd⟩⟩
set_option maxRecDepth 100000 in
theorem arg_bookings (hval : Value.okWide Tryd.prog W r b0 22 v) (hd : DataW.Trod enc Tryd.prog W 0 (fun _ => true) true 22 v d ps) (hs : Sized Tryd.prog 22 d) :
    ∃ (A : Option Addr) (n c : Nat) (L : List BkM), v = .slice A n c ∧ n ≤ c ∧ c ≤ 140737488355328 ∧ L.length = n ∧ (∀ y ∈ L, BkOk W W.heap.size y) ∧ Rd W W.heap.size 5 A n (L.flatMap bkc) := by
  obtain ⟨A, n, c, L, hv, h1, h2, h3, h4, h5⟩ := arg_elems (f := bkc) (Q := BkOk W W.heap.size) (m := 5) (bytes := 56) Tryd.underlying22 (by kernel_rfl) (by kernel_rfl) (by omega) (by omega) (fun fuel cs x hl h => booking_cells hl h) hval hd hs
  exact ⟨A, n, c, L, hv, h1, h2, h3, fun o ho => (h4 o ho).1, h5⟩
end
end Go.Proofs.YtkjomnakolhdcaaDoor
