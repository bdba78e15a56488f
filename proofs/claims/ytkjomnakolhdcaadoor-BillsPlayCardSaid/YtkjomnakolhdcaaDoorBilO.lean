/- A row of elements of several cells that begins anywhere in its block and grows by append: any element type. Conditions: at most 1000 elements. -/
import Derived.Test.YtkjomnakolhdcaaDoorBilM
namespace Go.Proofs.YtkjomnakolhdcaaDoor
set_option linter.unusedVariables false
set_option linter.unusedSimpArgs false
open Go.RowKit
/-- the row of the elements L, of sz cells each; its capacity lies in its block -/
def ORow (w : World) (e : TypeId) (sz : Nat) (A : Option Addr) (c : Nat) (L : List (List Value)) : Prop :=
  (∀ x ∈ L, x.length = sz) ∧ ((A = none ∧ c = 0 ∧ L = []) ∨ ∃ g off cur, A = some ⟨g, off, none⟩ ∧ w.heap[g]? = some (.cells cur e (0, 0)) ∧ L.length ≤ c ∧ c ≤ maxLen ∧ off + c * sz ≤ cur.size ∧ ∀ j u, L.flatten[j]? = some u → cur[off + j]? = some u)
section
variable {w w' : World} {e : TypeId} {sz c : Nat} {A : Option Addr} {L : List (List Value)}
theorem flat_len : ∀ {L : List (List Value)}, (∀ x ∈ L, x.length = sz) → L.flatten.length = L.length * sz
  | [], _ => by simp
  | x :: L, h => by
    have h1 := flat_len (L := L) (fun y hy => h y (List.mem_cons_of_mem _ hy))
    have h2 := h x List.mem_cons_self
    rw [List.flatten_cons, List.length_append, h1, h2, List.length_cons, Nat.succ_mul, Nat.add_comm]
theorem flat_get : ∀ {L : List (List Value)}, (∀ x ∈ L, x.length = sz) → ∀ {i j : Nat} (hi : i < L.length), j < sz → L.flatten[i * sz + j]? = (L[i]'hi)[j]?
  | [], _, _, _, hi, _ => by simp at hi
  | x :: L, h, 0, j, hi, hj => by
    have h2 := h x List.mem_cons_self
    rw [List.flatten_cons, Nat.zero_mul, Nat.zero_add, List.getElem?_append_left (by omega)]; rfl
  | x :: L, h, i + 1, j, hi, hj => by
    have h2 := h x List.mem_cons_self
    have h1 := flat_get (L := L) (fun y hy => h y (List.mem_cons_of_mem _ hy)) (i := i) (j := j) (by simpa using hi) hj
    rw [List.flatten_cons, Nat.succ_mul, List.getElem?_append_right (by omega), h2, show i * sz + sz + j - sz = i * sz + j by omega, h1]; rfl
theorem flat_drop : ∀ {L : List (List Value)}, (∀ x ∈ L, x.length = sz) → ∀ k, (L.drop k).flatten = L.flatten.drop (k * sz)
  | [], _, k => by simp
  | x :: L, h, 0 => by simp
  | x :: L, h, k + 1 => by
    have h2 := h x List.mem_cons_self
    rw [List.drop_succ_cons, flat_drop (L := L) (fun y hy => h y (List.mem_cons_of_mem _ hy)) k, List.flatten_cons, Nat.succ_mul, Nat.add_comm (k * sz) sz, ← h2, List.drop_append, List.drop_of_length_le (l := x) (by omega), List.nil_append, Nat.add_sub_cancel_left]
theorem ORow.keep (h : ORow w e sz A c L) (hk : ∀ a, A = some a → w'.heap[a.block]? = w.heap[a.block]?) : ORow w' e sz A c L := by
  refine ⟨h.1, ?_⟩
  rcases h.2 with h | ⟨g, off, cur, rfl, h1, r⟩
  · exact .inl h
  · exact .inr ⟨g, off, cur, rfl, (hk _ rfl).trans h1, r⟩
theorem ORow.lt (h : ORow w e sz A c L) {a : Addr} (ha : A = some a) : a.block < w.heap.size := by
  rcases h.2 with ⟨h, _⟩ | ⟨g, off, cur, rfl, h1, r⟩
  · rw [h] at ha; cases ha
  · obtain rfl := Option.some.inj ha; exact (Array.getElem?_eq_some_iff.1 h1).1
theorem ORow.below (h : ORow w e sz A c L) (hb : Below w.heap.size w w') : ORow w' e sz A c L := h.keep fun a ha => hb.block a.block (h.lt ha)
theorem ORow.nil (w : World) (e : TypeId) (sz : Nat) : ORow w e sz none 0 [] := ⟨by simp, .inl ⟨rfl, rfl, rfl⟩⟩
theorem ORow.form (h : ORow w e sz A c L) (hk : 0 < L.length) : ∃ g off, A = some ⟨g, off, none⟩ ∧ L.length ≤ c ∧ ∀ i (hi : i < L.length) (j : Nat) (u : Value), (L[i]'hi)[j]? = some u → w.cell? ⟨g, off + i * sz + j, none⟩ = some u := by
  obtain ⟨hl, h⟩ := h
  rcases h with ⟨_, _, rfl⟩ | ⟨g, off, cur, rfl, h1, h2, h3, h4, h5⟩
  · cases hk
  · refine ⟨g, off, rfl, h2, fun i hi j u hu => ?_⟩
    have hj : j < sz := by have := (List.getElem?_eq_some_iff.1 hu).1; rwa [hl _ (List.getElem_mem hi)] at this
    rw [cell_of_row w g _ cur _ (0, 0) h1, Nat.add_assoc]
    exact h5 _ _ (by rw [flat_get hl hi hj]; exact hu)
/-- 's[k:]' -/
theorem ORow.cut {g off : Nat} (h : ORow w e sz (some ⟨g, off, none⟩) c L) {k : Nat} (hk : k ≤ L.length) : ORow w e sz (some ⟨g, off + k * sz, none⟩) (c - k) (L.drop k) := by
  obtain ⟨hl, h⟩ := h
  refine ⟨fun x hx => hl x (List.mem_of_mem_drop hx), ?_⟩
  rcases h with ⟨h, _⟩ | ⟨g', off', cur, he, h1, h2, h3, h4, h5⟩
  · cases h
  · obtain ⟨rfl, rfl⟩ : g' = g ∧ off' = off := by have he := Option.some.inj he; exact ⟨(congrArg (·.block) he).symm, (congrArg (·.off) he).symm⟩
    refine .inr ⟨g', off' + k * sz, cur, rfl, h1, by rw [List.length_drop]; omega, by omega, ?_, fun j u hu => ?_⟩
    · rw [Nat.sub_mul]
      have : k * sz ≤ c * sz := Nat.mul_le_mul_right _ (by omega)
      omega
    · rw [flat_drop hl, List.getElem?_drop] at hu
      rw [Nat.add_assoc]; exact h5 _ _ hu
/-- 's = append(s, x)', wherever in its block the row begins -/
theorem run_oapp {P : Program} {t : TypeId} {z : Value} {bytes : Nat} (E : ElemT P t e z sz bytes) (h : ORow w e sz A c L) (x : List Value) (hx : x.length = sz) (hx1 : ∀ u ∈ x, u.oneCell' = true) (b : Nat) (hk : ∀ j u, x[j]? = some u → w.cell? ⟨b, j, none⟩ = some u) (hlen : L.length ≤ 1000) (hbt : (L.length + 1) * bytes ≤ 140737488355328) (ty : TypeId) :
    ∃ g off c' w', (Builtin.append_ #[t, t] ty #[.slice A L.length c, .slice (some ⟨b, 0, none⟩) 1 1]).run P w = .ok (.slice (some ⟨g, off, none⟩) (L.length + 1) c') w' ∧ ORow w' e sz (some ⟨g, off, none⟩) c' (L ++ [x]) ∧ ((∃ o, A = some ⟨g, o, none⟩) ∨ g = w.heap.size) ∧ w.grownBy w' (some g) := by
  obtain ⟨i, hi, hz, hsize, hby⟩ := info_parts E.info
  have hnews : ∀ j u, x[j]? = some u → w.cell? ((⟨b, 0, none⟩ : Addr).add j) = some u := fun j u hu => by rw [Addr.add_lit, Nat.zero_add]; exact hk j u hu
  have hml : (1000 : Nat) + 1 ≤ maxLen := by unfold maxLen; omega
  obtain ⟨hl, h⟩ := h
  have hl' : ∀ y ∈ L ++ [x], y.length = sz := fun y hy => by
    rcases List.mem_append.1 hy with hy | hy
    · exact hl y hy
    · obtain rfl := List.mem_singleton.1 hy; exact hx
  have hfl := flat_len hl
  have hsn : (L ++ [x]).flatten = L.flatten ++ x := by simp
  have new : ∀ (old : Nat) (olds : List Value), olds = L.flatten → old < L.length + 1 →
      ORow (w.drew.alloc (.cells (olds.toArray ++ x.toArray ++ Builtin.zeroCells z.cells (grownCap w (L.length + 1) old e - (L.length + 1))) e)) e sz
        (some ⟨w.heap.size, 0, none⟩) (grownCap w (L.length + 1) old e) (L ++ [x]) := by
    intro old olds ho _
    subst ho
    have hge := grownCap_ge w (L.length + 1) old e
    have hcm : grownCap w (L.length + 1) old e ≤ maxLen := grownCap_le_maxLen w _ old _ (by omega)
    refine ⟨hl', .inr ⟨w.heap.size, 0, _, rfl, heap_alloc_new w.drew _, by rw [List.length_append]; exact hge, hcm, ?_, fun j u hu => ?_⟩⟩
    · simp only [Array.size_append, List.size_toArray, size_zeroCells, E.zs, hfl, hx]
      obtain ⟨d, hd⟩ := Nat.exists_eq_add_of_le hge
      rw [hd, show L.length + 1 + d - (L.length + 1) = d by omega, Nat.add_mul, Nat.add_mul]
      omega
    · rw [hsn] at hu
      have hj := (List.getElem?_eq_some_iff.1 hu).1
      rw [Nat.zero_add, Array.getElem?_append_left (by simpa using hj), List.append_toArray, List.getElem?_toArray]
      exact hu
  rcases h with ⟨rfl, rfl, rfl⟩ | ⟨g, off, cur, rfl, h1, h2, h3, h4, h5⟩
  · have hr := run_append_nil (P := P) w t ty e i _ E.sl hi hz ⟨b, 0, none⟩ 1 1 x (by rw [hsize, hx]; omega) hnews (by omega) (by omega) (by rw [hby]; simp only [List.length_nil, Nat.zero_add, Nat.one_mul] at hbt; omega)
    have hN := new 0 [] rfl (by simp)
    simp only [List.length_nil, Nat.zero_add] at hN
    have he : (#[] : Array Value) ++ x.toArray = x.toArray := by simp
    rw [he] at hN
    exact ⟨w.heap.size, 0, _, _, hr, hN, .inr rfl, ⟨rfl, rfl, rfl, by simp, fun q hq _ => Below.heap_alloc w.drew _ q hq⟩⟩
  · by_cases hroom : L.length + 1 ≤ c
    · have hmul : (L.length + 1) * sz ≤ c * sz := Nat.mul_le_mul_right _ hroom
      rw [Nat.add_mul, Nat.one_mul] at hmul
      have hfit : off + L.length * i.size + x.length ≤ cur.size := by rw [hsize, hx]; omega
      have hr := run_append_off (P := P) w t ty e i E.sl hi g off L.length c cur h1 ⟨b, 0, none⟩ 1 1 x (by rw [hsize, hx]; omega) hnews hx1 hroom hfit
      refine ⟨g, off, c, _, hr, ⟨hl', .inr ⟨g, off, _, rfl, setRow_heap w g cur _ _ _ h1, by rw [List.length_append]; exact hroom, h3, ?_, fun j u hu => ?_⟩⟩, .inl ⟨off, rfl⟩, ⟨rfl, rfl, rfl, by simp [World.setRow], fun k _ hk => setRow_other w g k _ (fun e => hk (by rw [e]))⟩⟩
      · rw [hsize, hx]
        simp only [List.size_toArray, List.length_append, List.length_take, List.length_drop, Array.length_toList, hx]
        omega
      · rw [hsn] at hu
        have hj := (List.getElem?_eq_some_iff.1 hu).1
        rw [List.length_append, hfl, hx] at hj
        rw [hsize, hx, List.getElem?_toArray, List.append_assoc]
        rcases Nat.lt_or_ge j (L.length * sz) with hlt | hge
        · rw [List.getElem?_append_left (by rw [hfl]; exact hlt)] at hu
          rw [List.getElem?_append_left (by simp only [List.length_take, Array.length_toList]; omega), List.getElem?_take, if_pos (by omega), Array.getElem?_toList]
          exact h5 j u hu
        · rw [List.getElem?_append_right (by rw [hfl]; exact hge), hfl] at hu
          have ht : (cur.toList.take (off + L.length * sz)).length = off + L.length * sz := by simp only [List.length_take, Array.length_toList]; omega
          rw [List.getElem?_append_right (by rw [ht]; omega), ht, List.getElem?_append_left (by rw [hx]; omega), show off + j - (off + L.length * sz) = j - L.length * sz by omega]
          exact hu
    · have holds : ∀ j u, L.flatten[j]? = some u → w.cell? ((⟨g, off, none⟩ : Addr).add j) = some u := fun j u hu => by
        rw [Addr.add_lit, cell_of_row w g _ cur _ (0, 0) h1]; exact h5 j u hu
      have hr := run_append_grow (P := P) w t ty e i _ E.sl hi hz ⟨g, off, none⟩ L.length c L.flatten (by rw [hsize, hfl]) holds ⟨b, 0, none⟩ 1 1 x (by rw [hsize, hx]; omega) hnews (by omega) (by omega) (growslice_fits (by omega) (by rw [hby]; exact hbt))
      exact ⟨w.heap.size, 0, _, _, hr, new c _ rfl (by omega), .inr rfl, ⟨rfl, rfl, rfl, by simp, fun q hq _ => Below.heap_alloc w.drew _ q hq⟩⟩
end
end Go.Proofs.YtkjomnakolhdcaaDoor
