/- Allocate: what its stores into the rows leave. Conditions: the rows are the call's own. -/
import Derived.Test.YtcmgnjdhjnclkaaStrO1
namespace Go.Proofs.Ytcmgnjdhjnclkaa.S
set_option linter.unusedVariables false
set_option linter.unusedSimpArgs false
open Go.RowKit Go.Shelf
section
variable {P : Program} {F : Fence} {nf : Nat} {w : World} {ops : Array Oper} {rest : List Oper} {o : Oper} {a : Act} {Q : Exit → Act → World → Prop}
theorem wpListIn_store_mid (hgd : o.guard = none) (ty : TypeId) (x y : Operand) (ho : o.op = .store ty x y) (b off : Nat) (cells : Array Value) (hx : a.eval x = .pointer (some ⟨b, off, none⟩)) (hy : a.eval y = .agg cells)
    (ht : w.there b off cells.size) (hi : (P.info? ty).map (·.size) = some cells.size) (h1 : cells.all (·.oneCell') = true)
    (h : wpListIn F nf P ops Q rest (a.put o.dst undef) (w.setCells b off cells.toList)) : wpListIn F nf P ops Q (o :: rest) a w := by
  refine wpListIn_plain hgd fun K hK => ?_
  have hs := run_storeVar_mid (P := P) w b off ty cells ht hi h1
  unfold Oper.wpIn
  refine ⟨by simp [Oper.about, ho], ?_⟩
  rw [Oper.semAt_plain F _ _ (by rw [ho]; intro c hc'; cases hc')]
  unfold execOp
  simp only [ho, hx, hy, Instr.storeAt, Instr.sureAddr, Sem.run_bind, Sem.run_pure, Result.andThen_ok, hs]
  exact hK _ _ h
end
theorem own_up {w : World} {e size n c base : Nat} {A : Option Addr} {xs : List Value} (h : w.ownsRow 0 e size (.slice A n c) n xs) (hb : ∀ a, A = some a → base ≤ a.block) : w.ownsRow base e size (.slice A n c) n xs := by
  refine ⟨h.1, ?_⟩
  rcases h.2 with h0 | ⟨g, cap, cur, he, _, r⟩
  · exact .inl h0
  · injection he with h1 _ h3
    exact .inr ⟨g, cap, cur, by rw [h1, h3], hb _ h1, r⟩
section
variable {w W W' : World} {cl gn st : List Value} {code width G : Int} {v er : Value} {b15 b16 n c' : Nat} {A' : Option Addr} {E : List RR} {l : List Str.Rw}
/-- what keeps all rows but those of rows and used stripes keeps the boxes -/
theorem AB.kept (h : AB w cl code width gn v st er W) (hk : ∀ b t l, t ≠ 59 → t ≠ 37 → IsRow W b t l → IsRow W' b t l) (hb : Below w.heap.size w W') : AB w cl code width gn v st er W' :=
  ⟨hk _ _ _ (by decide) (by decide) h.cf, hk _ _ _ (by decide) (by decide) h.co, hk _ _ _ (by decide) (by decide) h.wi, hk _ _ _ (by decide) (by decide) h.ge, hk _ _ _ (by decide) (by decide) h.rs, hk _ _ _ (by decide) (by decide) h.st, hk _ _ _ (by decide) (by decide) h.er, hb⟩
theorem isRow_own_ne {W : World} {b t base e size n : Nat} {l : List Value} {v : Value} {xs : List Value} (h : IsRow W b t l) (ho : W.ownsRow base e size v n xs) (ht : t ≠ e) : v.ownBlock ≠ some b := by
  intro hb
  rcases ho.2 with ⟨rfl, _⟩ | ⟨g, cap, cur, rfl, _, hh, _⟩
  · cases hb
  · obtain rfl : g = b := by simpa [Value.ownBlock] using hb
    rw [show W.heap[g]? = _ from h] at hh
    have := Option.some.inj hh
    injection this with _ h2
    exact ht h2
theorem isRow_setCell {W : World} {b t : Nat} {l : List Value} (h : IsRow W b t l) {d : Nat} (hd : b ≠ d) (o : Nat) (u : Value) : IsRow (W.setCell ⟨d, o, none⟩ u) b t l := (Below.heap_setCell _ _ _ b (fun e => hd e)).trans h
/-- region 15: a used stripe more in row i -/
theorem AMid.ins {w11 w12 : World} {d i : Nat} {y : RR} (hm : AMid w cl code width gn b15 b16 n c' (some ⟨d, 0, none⟩) E l G W) (hy : E[i]? = some y) (b11 : Below W.heap.size W w11) (g12 : w11.grownBy w12 (Value.slice y.A 0 0).ownBlock) {us : List Str.Us} {A2 : Option Addr} {c2 : Nat}
    (o12 : w12.ownsRow 0 37 3 (.slice A2 us.length c2) us.length (us.flatMap usL)) (hmu : us.length ≤ 65536) (hA2 : A2 = y.A ∨ ∃ a, A2 = some a ∧ w11.heap.size ≤ a.block) :
    (w12.cell? ⟨d, i * 3 + 2, none⟩ = some y.v ∧ w12.frozen? ⟨d, i * 3 + 2, none⟩ = false ∧ w12.cell? ⟨b15, 0, none⟩ = some (.slice (some ⟨d, 0, none⟩) n c') ∧ IsRow w12 (w.heap.size + 3) 27 gn) ∧
    AMid w cl code width gn b15 b16 n c' (some ⟨d, 0, none⟩) (E.set i ⟨{ y.r with used := us }, A2, c2⟩) (l.set i { y.r with used := us }) G (w12.setCell ⟨d, i * 3 + 2, none⟩ (.slice A2 us.length c2)) ∧ KeepsOthers W (w12.setCell ⟨d, i * 3 + 2, none⟩ (.slice A2 us.length c2)) := by
  have hm11 := hm.below b11
  have ho11 := hm11.own
  have hyu : w11.ownsRow w.heap.size 37 3 y.v y.r.used.length (y.r.used.flatMap usL) := ho11.us y (List.mem_of_getElem? hy)
  have hob : y.v.ownBlock = (Value.slice y.A 0 0).ownBlock := sliceObUs y.A y.r.used.length y.k
  have hyb : ∀ a, y.A = some a → w.heap.size ≤ a.block ∧ a.block < w11.heap.size := fun a ha => own_block_lt (A := y.A) hyu a ha
  have hsz := b11.size
  have hsz0 := hm.ab.bel.size
  have g12' : w11.grownBy w12 y.v.ownBlock := by rw [hob]; exact g12
  have o12' : w12.ownsRow w.heap.size 37 3 (.slice A2 us.length c2) us.length (us.flatMap usL) := own_up o12 fun a ha => by
    rcases hA2 with e | ⟨a', ha', hl⟩
    · exact (hyb a (by rw [← e]; exact ha)).1
    · obtain rfl : a' = a := Option.some.inj (ha'.symm.trans ha)
      omega
  obtain ⟨hown, hc, hf⟩ := ho11.stored hy g12' o12' hmu (hA2.imp id fun ⟨a, h1, h2⟩ => ⟨a, h1, h2⟩)
  have hd := own_block_lt ho11.own ⟨d, 0, none⟩ rfl
  have k12 : ∀ b t l, t ≠ 59 → t ≠ 37 → IsRow w11 b t l → IsRow w12 b t l := fun b t l _ ht h => h.grown g12' (isRow_own_ne h hyu ht)
  have k15 : ∀ b t l, t ≠ 59 → t ≠ 37 → IsRow w11 b t l → IsRow (w12.setCell ⟨d, i * 3 + 2, none⟩ (.slice A2 us.length c2)) b t l := fun b t l h1 h2 h =>
    isRow_setCell (k12 b t l h1 h2 h) (fun e => isRow_own_ne h ho11.own h1 (by rw [e]; rfl)) _ _
  have hbel12 : Below w.heap.size w w12 := hm11.ab.bel.grown g12 hm11.ab.bel.size (fun k e => by
    cases hA : y.A with
    | none => rw [hA] at e; cases e
    | some a =>
      rw [hA] at e
      have := (hyb a hA).1
      have e : k = a.block := by have : some a.block = some k := e; exact (Option.some.inj this).symm
      omega)
  refine ⟨⟨hc, hf, (k12 _ _ _ (by decide) (by decide) hm11.nx).cell 0, k12 _ _ _ (by decide) (by decide) hm11.ab.ge⟩, ⟨hm11.ab.kept k15 (hbel12.setCell (p := ⟨d, i * 3 + 2, none⟩) hd.1 _), k15 _ _ _ (by decide) (by decide) hm11.nx, k15 _ _ _ (by decide) (by decide) hm11.gr, hown, hm.far⟩, ?_⟩
  refine (keeps_below' b11).trans (KeepsOthers.trans ?_ (KeepsOthers.setCell _ _ _))
  refine KeepsOthers.of_grownBy g12' fun j o ej hj => ?_
  rcases hyu.2 with ⟨e0, _⟩ | ⟨g, cap, cur, e0, _, hh, _⟩
  · rw [e0] at ej; cases ej
  · rw [e0] at ej
    obtain rfl : g = j := by simpa [Value.ownBlock] using ej
    rw [hh] at hj
    have := Option.some.inj hj
    rw [← this]; rfl
/-- region 19: a whole row stored -/
theorem AMid.whole {w11 : World} {d i : Nat} {x y : RR} (hm : AMid w cl code width gn b15 b16 n c' (some ⟨d, 0, none⟩) E l G W) (hx : E[i]? = some x) (b11 : Below W.heap.size W w11) (hu : w11.ownsRow W.heap.size 37 3 y.v y.r.used.length (y.r.used.flatMap usL)) (hmu : y.r.used.length ≤ 65536) :
    w11.there d (i * 3) 3 ∧ AMid w cl code width gn b15 b16 n c' (some ⟨d, 0, none⟩) (E.set i y) (l.set i y.r) G (w11.setCells d (i * 3) (rwL y)) ∧ KeepsOthers W (w11.setCells d (i * 3) (rwL y)) := by
  have hu' : UsOwn w11 w.heap.size y := own_base hu hm.ab.bel.size
  obtain ⟨hown, hth⟩ := hm.own.whole (y := y) hx b11 hu' hmu (fun a ha => (own_block_lt (A := y.A) hu a ha).1)
  have hm11 := hm.below b11
  have ho11 := hm11.own
  have hd := own_block_lt ho11.own ⟨d, 0, none⟩ rfl
  have hgs := grown_sets d (rwL y) (i * 3) w11
  have k15 : ∀ b t l, t ≠ 59 → t ≠ 37 → IsRow w11 b t l → IsRow (w11.setCells d (i * 3) (rwL y)) b t l := fun b t l h1 _ h => h.grown hgs (isRow_own_ne h ho11.own h1)
  refine ⟨hth, ⟨hm11.ab.kept k15 (hm11.ab.bel.grown hgs hm11.ab.bel.size (fun k e => by have e := Option.some.inj e; rw [← e]; exact hd.1)), k15 _ _ _ (by decide) (by decide) hm11.nx, k15 _ _ _ (by decide) (by decide) hm11.gr, hown, hm.far⟩, ?_⟩
  refine (keeps_below' b11).trans (KeepsOthers.of_grownBy hgs fun j o ej hj => ?_)
  obtain rfl := Option.some.inj ej
  rcases ho11.own.2 with ⟨e0, _⟩ | ⟨g, cap, cur, e0, _, hh, _⟩
  · cases e0
  · injection e0 with e1
    obtain rfl : d = g := congrArg Addr.block (Option.some.inj e1)
    rw [hh] at hj
    have := Option.some.inj hj
    rw [← this]; rfl
end
/-- what region 15's loads read -/
structure AS3 (b15 d i b9 : Nat) (v15 yv : Value) (gn : List Value) (V : World) : Prop where
  c15 : V.cell? ⟨b15, 0, none⟩ = some v15
  cy : V.cell? ⟨d, i * 3 + 2, none⟩ = some yv
  ge : IsRow V b9 27 gn
theorem gap_step {l : List Str.Us} {j : Nat} (hj : j < l.length) : Str.gap (l.drop j) j = if l[j].g = (j : Int) then Str.gap (l.drop (j + 1)) (j + 1) else j := by
  rw [List.drop_eq_getElem_cons hj]; rfl
theorem gap_le {l : List Str.Us} : Str.gap l 0 ≤ l.length := by
  have : ∀ (l : List Str.Us) (k : Nat), Str.gap l k ≤ k + l.length := by
    intro l
    induction l with
    | nil => intro k; exact Nat.le_add_right _ _
    | cons u l ih =>
      intro k
      unfold Str.gap
      split
      · have := ih (k + 1); rw [List.length_cons]; omega
      · rw [List.length_cons]; omega
  have := this l 0
  omega
theorem put_cells {l : List Str.Us} {k : Nat} (hk : k ≤ l.length) (e c : Int) : (Str.put l k e c).flatMap usL = putAt 3 (l.flatMap usL) [.int .i64 (k : Int), .int .i64 e, .int .i64 c] k := by
  unfold Str.put putAt
  rw [List.flatMap_append, List.flatMap_cons, flat_take (fun u _ => usL_len u), flat_drop (fun u _ => usL_len u), List.append_assoc]
  rfl
theorem put_length (l : List Str.Us) (k : Nat) (e c : Int) : (Str.put l k e c).length = l.length + 1 := by
  unfold Str.put
  simp only [List.length_append, List.length_cons, List.length_take, List.length_drop]
  omega
theorem sizeGn : (Try.prog.info? 27).map (·.size) = some 2 := by kernel_rfl
/-- Allocate has stored its results -/
def AHit (w : World) (cl : List Value) (code width : Int) (gn : List Value) (n : Nat) (l2 : List Str.Rw) (st : List Value) (W : World) : Prop :=
  ∃ A' c' E, AB w cl code width gn (.slice A' n c') st (.int .i64 0) W ∧ OwnRows W w.heap.size A' n c' E l2
theorem AHit.grown {w : World} {cl : List Value} {code width : Int} {gn : List Value} {n : Nat} {l2 : List Str.Rw} {st : List Value} {X Y : World} {row : Option Nat} (h : AHit w cl code width gn n l2 st X) (hg : X.grownBy Y row) (hr : ∀ r, row = some r → w.heap.size ≤ r ∧ ∃ o : Obj, X.heap[r]? = some o ∧ o.isCells = false) : AHit w cl code width gn n l2 st Y := by
  obtain ⟨A', c', E, h1, h2⟩ := h
  exact ⟨A', c', E, ab_own w cl code width gn (fun _ : Unit => .slice A' n c') (fun _ => st) (fun _ => .int .i64 0) (Nat.le_refl _) () X Y row h1 hg hr, h2.grown hg (fun r e => (hr r e).2)⟩
/-- the second loop has returned -/
def AStop2 (w : World) (cl : List Value) (code width : Int) (ge gc : Int) (n : Nat) (l : List Str.Rw) (G : Int) (D : List RR) (pre : List (OfT code D)) (W : World) : Prop :=
  ∃ (pre0 : List (OfT code D)) (x : OfT code D), pre = pre0 ++ [x] ∧ (∀ y ∈ pre0, (y.1.2.r.used.length : Int) = G) ∧ (x.1.2.r.used.length : Int) ≠ G ∧
    AHit w cl code width [.int .i64 ge, .int .i64 gc] n (l.set x.1.1 { x.1.2.r with used := Str.put x.1.2.r.used (Str.gap x.1.2.r.used 0) ge gc }) [.int .i64 (x.1.1 : Int), .int .i64 (Str.gap x.1.2.r.used 0 : Nat)] W
theorem aStop2_own (w : World) (cl : List Value) (code width : Int) (ge gc : Int) (n : Nat) (l : List Str.Rw) (G : Int) (D : List RR) {B : Nat} (hB : w.heap.size ≤ B) : OwnFrom B (fun (pre : List (OfT code D)) W => AStop2 w cl code width ge gc n l G D pre W) := fun s X Y row h hg hr => by
  obtain ⟨pre0, x, h1, h2, h3, h4⟩ := h
  exact ⟨pre0, x, h1, h2, h3, h4.grown hg (fun r e => ⟨Nat.le_trans hB (hr r e).1, (hr r e).2⟩)⟩
/-- the third loop has returned -/
def AStop3 (w : World) (cl : List Value) (code width : Int) (ge gc : Int) (n : Nat) (l : List Str.Rw) (D : List RR) (pre : List (OfT (-1) D)) (W : World) : Prop :=
  ∃ x : OfT (-1) D, pre = [x] ∧ AHit w cl code width [.int .i64 ge, .int .i64 gc] n (l.set x.1.1 ⟨code, width, [⟨0, ge, gc⟩]⟩) [.int .i64 (x.1.1 : Int), .int .i64 0] W
theorem aStop3_own (w : World) (cl : List Value) (code width : Int) (ge gc : Int) (n : Nat) (l : List Str.Rw) (D : List RR) {B : Nat} (hB : w.heap.size ≤ B) : OwnFrom B (fun (pre : List (OfT (-1) D)) W => AStop3 w cl code width ge gc n l D pre W) := fun s X Y row h hg hr => by
  obtain ⟨x, h1, h4⟩ := h
  exact ⟨x, h1, h4.grown hg (fun r e => ⟨Nat.le_trans hB (hr r e).1, (hr r e).2⟩)⟩
theorem isRow_cells {W : World} {b t : Nat} {l : List Value} (h : IsRow W b t l) : ∀ (j : Nat) (o : Obj), some b = some j → W.heap[j]? = some o → o.isCells = true := fun j o e ho => by
  obtain rfl := Option.some.inj e
  rw [show W.heap[b]? = _ from h] at ho
  have := Option.some.inj ho
  rw [← this]; rfl
theorem own_new1 (w : World) (vs : List Value) (e : TypeId) {size : Nat} (hv : vs.length = size) : (w.alloc (.cells vs.toArray e)).ownsRow w.heap.size e size (.slice (some ⟨w.heap.size, 0, none⟩) 1 1) 1 vs :=
  ⟨by omega, .inr ⟨w.heap.size, 1, vs.toArray, rfl, Nat.le_refl _, heap_alloc_new w _, Nat.le_refl _, by unfold maxLen; omega, by simp [hv], by subst hv; simp⟩⟩
theorem AHit.put {w : World} {cl : List Value} {code width : Int} {gn : List Value} {n : Nat} {l2 : List Str.Rw} {st : List Value} {X : World} (h : AHit w cl code width gn n l2 st X) {D : Nat} {o : Obj} (hD : w.heap.size ≤ D) (ho : X.heap[D]? = some o) (hc : o.isCells = false) (o' : Obj) : AHit w cl code width gn n l2 st (X.putObj D o') :=
  h.grown (row := some D) (grownBy_putObj' X D o') (fun r e => by cases e; exact ⟨hD, o, ho, hc⟩)
theorem AB.put {w : World} {cl : List Value} {code width : Int} {gn : List Value} {st : List Value} {v er : Value} {X : World} (h : AB w cl code width gn v st er X) {D : Nat} {o : Obj} (hD : w.heap.size ≤ D) (ho : X.heap[D]? = some o) (hc : o.isCells = false) (o' : Obj) : AB w cl code width gn v st er (X.putObj D o') :=
  ab_own w cl code width gn (fun _ : Unit => v) (fun _ => st) (fun _ => er) (Nat.le_refl _) () X _ (some D) h (grownBy_putObj' X D o') (fun r e => by cases e; exact ⟨hD, o, ho, hc⟩)
end Go.Proofs.Ytcmgnjdhjnclkaa.S
