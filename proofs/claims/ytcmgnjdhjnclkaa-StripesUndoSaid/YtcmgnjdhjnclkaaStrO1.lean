/- Allocate with good arguments: its results, its state between the loops. Conditions: the rows are kept. -/
import Derived.Test.YtcmgnjdhjnclkaaStrN
import Derived.Test.YtcmgnjdhjnclkaaStrIns
import Derived.Test.YtcmgnjdhjnclkaaRnd
namespace Go.Proofs.Ytcmgnjdhjnclkaa.S
set_option linter.unusedVariables false
set_option linter.unusedSimpArgs false
open Go.RowKit Go.Shelf

attribute [local go_sem] Oper.semAt_some

/-- what Allocate gives: the rows, the stripe, the error -/
def AlcOut (base n : Nat) (l : List Str.Rw) (G code width ge gc : Int) (v : Value) (st : List Value) (er : Value) (W : World) : Prop :=
  (v = .slice none 0 0 ∧ st = zSt ∧ er = .int .i64 1 ∧ ¬ Str.widthOk l code width) ∨
  (Str.widthOk l code width ∧ ∃ (k : Nat) (x : Str.Rw) (A' : Option Addr) (c' : Nat) (E : List RR), Str.alcAt G l code = some k ∧ l[k]? = some x ∧ v = .slice A' n c' ∧ st = [.int .i64 (k : Int), .int .i64 (Str.gap x.used 0 : Nat)] ∧ er = .int .i64 0 ∧ OwnRows W base A' n c' E (l.set k { x with used := Str.put x.used (Str.gap x.used 0) ge gc })) ∨
  (Str.widthOk l code width ∧ Str.alcAt G l code = none ∧ ∃ (k : Nat) (A' : Option Addr) (c' : Nat) (E : List RR), Str.alcFree l = some k ∧ v = .slice A' n c' ∧ st = [.int .i64 (k : Int), .int .i64 0] ∧ er = .int .i64 0 ∧ OwnRows W base A' n c' E (l.set k ⟨code, width, [⟨0, ge, gc⟩]⟩)) ∨
  (Str.widthOk l code width ∧ Str.alcAt G l code = none ∧ Str.alcFree l = none ∧ v = .slice none 0 0 ∧ st = zSt ∧ er = .int .i64 16)
theorem OwnRows.grown {X Y : World} {row : Option Nat} {base n c : Nat} {A : Option Addr} {E : List RR} {l : List Str.Rw} (h : OwnRows X base A n c E l) (hg : X.grownBy Y row) (hr : ∀ r, row = some r → ∃ o : Obj, X.heap[r]? = some o ∧ o.isCells = false) : OwnRows Y base A n c E l := by
  have key : ∀ {e size n : Nat} {v : Value} {xs : List Value}, X.ownsRow base e size v n xs → Y.ownsRow base e size v n xs := fun {e size n v xs} h => by
    refine own_same h fun g hgb => ?_
    have hlt := (h.lt g hgb).2
    refine hg.block g hlt (fun e => ?_)
    obtain ⟨o, ho, hc⟩ := hr g e.symm
    rcases h.2 with ⟨rfl, _⟩ | ⟨g', cap, cur, rfl, _, hh, _⟩
    · cases hgb
    · obtain rfl : g' = g := by simpa [Value.ownBlock] using hgb
      rw [hh] at ho; cases ho; cases hc
  exact ⟨key h.own, h.rs, fun x hx => key (h.us x hx), h.sep, h.mx, h.mu⟩
theorem AlcOut.grown {X Y : World} {row : Option Nat} {base n : Nat} {l : List Str.Rw} {G code width ge gc : Int} {v : Value} {st : List Value} {er : Value} (h : AlcOut base n l G code width ge gc v st er X) (hg : X.grownBy Y row) (hr : ∀ r, row = some r → ∃ o : Obj, X.heap[r]? = some o ∧ o.isCells = false) : AlcOut base n l G code width ge gc v st er Y := by
  rcases h with h | ⟨h0, k, x, A', c', E, h1, h2, h3, h4, h5, h6⟩ | ⟨h0, h1, k, A', c', E, h2, h3, h4, h5, h6⟩ | h
  · exact .inl h
  · exact .inr (.inl ⟨h0, k, x, A', c', E, h1, h2, h3, h4, h5, h6.grown hg hr⟩)
  · exact .inr (.inr (.inl ⟨h0, h1, k, A', c', E, h2, h3, h4, h5, h6.grown hg hr⟩))
  · exact .inr (.inr (.inr h))
/-- Allocate has come to its end -/
def AFin (w : World) (n : Nat) (l : List Str.Rw) (G code width ge gc : Int) (W : World) : Prop :=
  ∃ cl v st er, AB w cl code width [.int .i64 ge, .int .i64 gc] v st er W ∧ st.length = 2 ∧ AlcOut w.heap.size n l G code width ge gc v st er W
theorem aFin_own (w : World) (n : Nat) (l : List Str.Rw) (G code width ge gc : Int) {β : Type} {B : Nat} (hB : w.heap.size ≤ B) : OwnFrom B (fun (_ : β) W => AFin w n l G code width ge gc W) := fun s X Y row h hg hr => by
  obtain ⟨cl, v, st, er, h1, h2, h3⟩ := h
  exact ⟨cl, v, st, er, ab_own w cl code width _ (fun _ : Unit => v) (fun _ => st) (fun _ => er) hB () X Y row h1 hg hr, h2, h3.grown hg (fun r e => (hr r e).2)⟩
theorem ofD_in {c : Int} : ∀ (E : List RR) (j : Nat) {i : Nat} {x : RR}, E[i]? = some x → x.r.code = c → (j + i, x) ∈ ofD c E j
  | [], _, i, x, h, _ => by simp at h
  | y :: E, j, 0, x, h, hc => by
    obtain rfl : y = x := by simpa using h
    unfold ofD; rw [if_pos hc]; exact List.mem_cons_self ..
  | y :: E, j, i + 1, x, h, hc => by
    have ih := ofD_in E (j + 1) (i := i) (by simpa using h) hc
    unfold ofD
    rw [show j + 1 + i = j + (i + 1) by omega] at ih
    split
    · exact List.mem_cons_of_mem _ ih
    · exact ih
def AlcRes (w : World) (n : Nat) (l : List Str.Rw) (G code width ge gc : Int) (e : Ending) (w' : World) : Prop :=
  ∃ v st er, e = .returned (.tuple #[v, .agg st.toArray, er]) ∧ AlcOut w.heap.size n l G code width ge gc v st er w' ∧ Below w.heap.size w w'
theorem OwnRows.below {w w' : World} {base n c : Nat} {A : Option Addr} {D : List RR} {l : List Str.Rw} (h : OwnRows w base A n c D l) (hb : Below w.heap.size w w') : OwnRows w' base A n c D l :=
  ⟨own_below h.own hb, h.rs, fun x hx => own_below (h.us x hx) hb, h.sep, h.mx, h.mu⟩
/-- a store into a box leaves rows of one's own as they lay -/
theorem OwnRows.box {w w' : World} {base n c b t : Nat} {A : Option Addr} {D : List RR} {l : List Str.Rw} {v : List Value} (h : OwnRows w base A n c D l) (hr : IsRow w b t v) (ht : t ≠ 59 ∧ t ≠ 37) (hg : w.grownBy w' (some b)) : OwnRows w' base A n c D l := by
  have hn : ∀ {e size n : Nat} {v : Value} {xs : List Value}, w.ownsRow base e size v n xs → t ≠ e → w'.ownsRow base e size v n xs := fun {e size n v xs} ho hte => own_same ho fun g hgb => by
    refine hg.block g (ho.lt g hgb).2 (fun e1 => ?_)
    have e1 := Option.some.inj e1
    rcases ho.2 with ⟨rfl, _⟩ | ⟨g', cap, cur, rfl, _, hh, _⟩
    · cases hgb
    · obtain rfl : g' = g := by simpa [Value.ownBlock] using hgb
      rw [e1, show w.heap[b]? = _ from hr] at hh
      have := Option.some.inj hh
      injection this with _ h2
      exact hte h2
  exact ⟨hn h.own ht.1, h.rs, fun x hx => hn (h.us x hx) ht.2, h.sep, h.mx, h.mu⟩
theorem isRow_ne {w : World} {b1 b2 t1 t2 : Nat} {l1 l2 : List Value} (h1 : IsRow w b1 t1 l1) (h2 : IsRow w b2 t2 l2) (ht : t1 ≠ t2) : b1 ≠ b2 := by
  rintro rfl
  have e : w.heap[b1]? = _ := h1
  rw [show w.heap[b1]? = _ from h2] at e
  have := Option.some.inj e
  injection this with _ h3
  exact ht h3.symm
/-- the state behind 'next, groups := ..' -/
structure AMid (w : World) (cl : List Value) (code width : Int) (gn : List Value) (b15 b16 n c' : Nat) (A' : Option Addr) (E : List RR) (l : List Str.Rw) (G : Int) (W : World) : Prop where
  ab : AB w cl code width gn (.slice none 0 0) zSt (.int .i64 0) W
  nx : IsRow W b15 25 [.slice A' n c']
  gr : IsRow W b16 3 [.int .i64 G]
  own : OwnRows W w.heap.size A' n c' E l
  far : w.heap.size + 6 < b15 ∧ w.heap.size + 6 < b16
section
variable {w W W' : World} {cl gn : List Value} {code width G : Int} {b15 b16 n c' : Nat} {A' : Option Addr} {E : List RR} {l : List Str.Rw}
theorem AMid.below (h : AMid w cl code width gn b15 b16 n c' A' E l G W) (hb : Below W.heap.size W W') : AMid w cl code width gn b15 b16 n c' A' E l G W' :=
  ⟨h.ab.below hb, h.nx.below' hb, h.gr.below' hb, h.own.below hb, h.far⟩
theorem aMid_own (w : World) (cl : List Value) (code width : Int) (gn : List Value) (b15 b16 n c' : Nat) (A' : Option Addr) (E : List RR) (l : List Str.Rw) (G : Int) {β : Type} {B : Nat} (hB : w.heap.size ≤ B) : OwnFrom B (fun (_ : β) W => AMid w cl code width gn b15 b16 n c' A' E l G W) := fun s X Y row h hg hr => by
  have hn : ∀ b t l, IsRow X b t l → row ≠ some b := fun b t l hX e => by
    obtain ⟨_, o', ho, hc⟩ := hr b e
    rw [show X.heap[b]? = _ from hX] at ho; cases ho; cases hc
  exact ⟨ab_own w cl code width gn (fun _ : Unit => .slice none 0 0) (fun _ => zSt) (fun _ => .int .i64 0) hB () X Y row h.ab hg hr, h.nx.grown hg (hn _ _ _ h.nx), h.gr.grown hg (hn _ _ _ h.gr), h.own.grown hg (fun r e => (hr r e).2), h.far⟩
/-- region 7: the rows copied, the groups; both boxes are new -/
theorem AMid.made {w wr W1 W2 W3 : World} (ha : AB w cl code width gn (.slice none 0 0) zSt (.int .i64 0) wr) (hv : Below wr.heap.size wr W1) (h15 : wr.heap.size ≤ b15) (h16 : wr.heap.size ≤ b16) {v15 v16 : Value} (r15 : IsRow W1 b15 25 [v15]) (r16 : IsRow W1 b16 3 [v16]) (ho : OwnRows W1 wr.heap.size A' n c' E l)
    (s15 : IsRow W2 b15 25 [.slice A' n c']) (g15 : W1.grownBy W2 (some b15)) (s16 : IsRow W3 b16 3 [.int .i64 G]) (g16 : W2.grownBy W3 (some b16)) : AMid w cl code width gn b15 b16 n c' A' E l G W3 ∧ Below wr.heap.size wr W3 := by
  have h6 := ha.er.lt
  have hne := isRow_ne r15 r16 (by decide)
  have r16' := r16.grown g15 (by intro e; exact hne (Option.some.inj e))
  have o2 := ho.box r15 ⟨by decide, by decide⟩ g15
  have o3 := o2.box r16' ⟨by decide, by decide⟩ g16
  have hb2 := hv.grown g15 hv.size (fun k e => by have := Option.some.inj e; omega)
  have hb3 := hb2.grown g16 hb2.size (fun k e => by have := Option.some.inj e; omega)
  exact ⟨⟨ha.below hb3, s15.grown g16 (by intro e; exact hne (Option.some.inj e).symm), s16, o3.base ha.bel.size, by omega, by omega⟩, hb3⟩
end
theorem ofD_sorted (c : Int) : ∀ (E : List RR) (j : Nat), (ofD c E j).Pairwise (fun x y => x.1 < y.1) ∧ ∀ y ∈ ofD c E j, j ≤ y.1
  | [], _ => ⟨List.Pairwise.nil, fun _ h => by cases h⟩
  | x :: E, j => by
    obtain ⟨ih1, ih2⟩ := ofD_sorted c E (j + 1)
    unfold ofD
    split
    · refine ⟨List.pairwise_cons.2 ⟨fun y hy => by have := ih2 y hy; show j < y.1; omega, ih1⟩, fun y hy => ?_⟩
      rcases List.mem_cons.1 hy with rfl | hy
      · exact Nat.le_refl _
      · have := ih2 y hy; omega
    · exact ⟨ih1, fun y hy => by have := ih2 y hy; omega⟩
/-- what has come before a row of the code -/
theorem ofS_before {c : Int} {D : List RR} {pre : List (OfT c D)} {x : OfT c D} (h : pre ++ [x] <+: ofS c D) {i : Nat} {y : RR} (hi : i < x.1.1) (hy : D[i]? = some y) (hc : y.r.code = c) : ∃ z ∈ pre, z.1 = (i, y) := by
  obtain ⟨t, ht⟩ := h
  have h1 : (i, y) ∈ ofD c D 0 := by have := ofD_in D 0 hy hc; rwa [Nat.zero_add] at this
  have hs := (ofD_sorted c D 0).1
  rw [← ofS_val c D, ← ht] at h1 hs
  rw [List.append_assoc, List.map_append, List.mem_append] at h1
  rcases h1 with h1 | h1
  · obtain ⟨z, hz, e⟩ := List.mem_map.1 h1
    exact ⟨z, hz, e⟩
  · exfalso
    rw [List.append_assoc, List.map_append, List.pairwise_append] at hs
    have h2 := hs.2.1
    rw [List.singleton_append, List.map_cons, List.pairwise_cons] at h2
    rw [List.singleton_append, List.map_cons, List.mem_cons] at h1
    rcases h1 with e | h1
    · have : i = x.1.1 := congrArg Prod.fst e
      omega
    · have := h2.1 _ h1
      show False
      have : x.1.1 < i := this
      omega
theorem alcAt_hit {G code : Int} {D : List RR} {l : List Str.Rw} (hl : D.map RR.r = l) {pre : List (OfT code D)} {x : OfT code D} (h : pre ++ [x] <+: ofS code D) (hp : ∀ y ∈ pre, (y.1.2.r.used.length : Int) = G) (hx : (x.1.2.r.used.length : Int) ≠ G) : Str.alcAt G l code = some x.1.1 ∧ l[x.1.1]? = some x.1.2.r := by
  subst hl
  have hD := x.2.1
  have hlt := (List.getElem?_eq_some_iff.1 hD).1
  have hg : (D.map RR.r)[x.1.1]? = some x.1.2.r := by rw [List.getElem?_map, hD]; rfl
  refine ⟨?_, hg⟩
  unfold Str.alcAt
  rw [List.findIdx?_eq_some_iff_getElem]
  refine ⟨by rw [List.length_map]; exact hlt, ?_, fun j hj => ?_⟩
  · have e : (D.map RR.r)[x.1.1]'(by rw [List.length_map]; exact hlt) = x.1.2.r := by
      have := List.getElem?_eq_some_iff.1 hg
      exact this.2
    rw [e]; simp [x.2.2, hx]
  · have hjl : j < D.length := by omega
    simp only [List.getElem_map]
    by_cases hc : D[j].r.code = code
    · obtain ⟨z, hz, e⟩ := ofS_before h hj (List.getElem?_eq_getElem hjl) hc
      have := hp z hz
      rw [e] at this
      simp [hc, this]
    · simp [hc]
theorem alcAt_miss {G code : Int} {D : List RR} {l : List Str.Rw} (hl : D.map RR.r = l) (hp : ∀ y ∈ ofS code D, (y.1.2.r.used.length : Int) = G) : Str.alcAt G l code = none := by
  subst hl
  unfold Str.alcAt
  rw [List.findIdx?_eq_none_iff]
  intro r hr
  obtain ⟨x, hx, rfl⟩ := List.mem_map.1 hr
  by_cases hc : x.r.code = code
  · obtain ⟨i, hi⟩ := List.getElem?_of_mem hx
    have h1 : (i, x) ∈ ofD code D 0 := by have := ofD_in D 0 hi hc; rwa [Nat.zero_add] at this
    rw [← ofS_val code D] at h1
    obtain ⟨y, hy, e⟩ := List.mem_map.1 h1
    have := hp y hy
    rw [e] at this
    simp [hc, this]
  · simp [hc]
theorem alcFree_hit {D : List RR} {l : List Str.Rw} (hl : D.map RR.r = l) {x : OfT (-1) D} (h : [x] <+: ofS (-1) D) : Str.alcFree l = some x.1.1 ∧ l[x.1.1]? = some x.1.2.r := by
  subst hl
  have hD := x.2.1
  have hlt := (List.getElem?_eq_some_iff.1 hD).1
  have hg : (D.map RR.r)[x.1.1]? = some x.1.2.r := by rw [List.getElem?_map, hD]; rfl
  refine ⟨?_, hg⟩
  unfold Str.alcFree
  rw [List.findIdx?_eq_some_iff_getElem]
  refine ⟨by rw [List.length_map]; exact hlt, ?_, fun j hj => ?_⟩
  · have e : (D.map RR.r)[x.1.1]'(by rw [List.length_map]; exact hlt) = x.1.2.r := (List.getElem?_eq_some_iff.1 hg).2
    rw [e]; simp [x.2.2]
  · have hjl : j < D.length := by omega
    simp only [List.getElem_map]
    by_cases hc : D[j].r.code = -1
    · obtain ⟨z, hz, _⟩ := ofS_before (pre := []) h hj (List.getElem?_eq_getElem hjl) hc
      cases hz
    · simp [hc]
theorem alcFree_miss {D : List RR} {l : List Str.Rw} (hl : D.map RR.r = l) (h : ofS (-1) D = []) : Str.alcFree l = none := by
  subst hl
  unfold Str.alcFree
  rw [List.findIdx?_eq_none_iff]
  intro r hr
  obtain ⟨x, hx, rfl⟩ := List.mem_map.1 hr
  by_cases hc : x.r.code = -1
  · exfalso
    obtain ⟨i, hi⟩ := List.getElem?_of_mem hx
    have h1 : (i, x) ∈ ofD (-1) D 0 := by have := ofD_in D 0 hi hc; rwa [Nat.zero_add] at this
    rw [← ofS_val (-1) D, h] at h1
    cases h1
  · simp [hc]
/-- a block of deferred calls stays as it is -/
theorem def_own {β : Type} {B D : Nat} {o : Obj} (hB : D < B) : OwnFrom B (fun (_ : β) W => W.heap[D]? = some o) := fun s X Y row h hg hr =>
  (hg.block D (Array.getElem?_eq_some_iff.1 h).1 (fun e => by have := (hr D e.symm).1; omega)).trans h
section
variable {P : Program} {w : World} {o : Oper} {a : Act} {K : Act → World → Prop} {Q : Exit → Act → World → Prop}
theorem wpO_alloc1 (ty : TypeId) (ho : o.op = .alloc ty) (z : Value) (hz : (P.info? ty).map (fun i => (i.zero, i.size)) = some (some z, 1)) (hc : z.cells = #[z])
    (h : ∀ w', IsRow w' w.heap.size ty [z] → Below w.heap.size w w' → w'.heap.size = w.heap.size + 1 → K (a.put o.dst (.pointer (some ⟨w.heap.size, 0, none⟩))) w') : o.wp P a w K Q := by
  unfold Oper.wp execOp
  simp only [ho, Instr.alloc, Sem.run_bind, Sem.run_pure, Result.andThen_ok, zero_of_info1 hz, newVar_one hc]
  exact h _ (IsRow.new w ty [z]) ((Below.refl _ _).alloc (Nat.le_refl _) _) (by simp)
theorem wpO_store1 (ty : TypeId) (x y : Operand) (ho : o.op = .store ty x y) {b t : Nat} {u v : Value} (hr : IsRow w b t [u]) (hx : a.eval x = .pointer (some ⟨b, 0, none⟩))
    (hy : a.eval y = v) (hi : (P.info? ty).map (·.size) = some 1) (hc : v.cells = #[v]) (h1 : v.oneCell' = true)
    (h : ∀ w', IsRow w' b t [v] → w.grownBy w' (some b) → w'.heap.size = w.heap.size → K (a.put o.dst undef) w') : o.wp P a w K Q := by
  have hs := run_storeVar_row (P := P) w b t ty [u].toArray [v].toArray hr (by simpa using hi) (by simp) (by simp [h1])
  unfold Oper.wp execOp
  simp only [ho, hx, hy, Instr.storeAt, Instr.sureAddr, Sem.run_bind, Sem.run_pure, Result.andThen_ok, storeVar_one hc]
  have hs' : Sem.run P (storeVar ty ⟨b, 0, none⟩ (.agg #[v])) w = .ok () (w.setRow b [v].toArray) := hs
  simp only [hs', Result.andThen_ok]
  exact h _ (setRow_heap w b _ _ t _ hr) ⟨rfl, rfl, rfl, by simp [World.setRow], fun k _ hk => setRow_other w b k _ (fun e => hk (by rw [e]))⟩ (by simp [World.setRow])
end
end Go.Proofs.Ytcmgnjdhjnclkaa.S
