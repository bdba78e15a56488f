/- Allocate: what it gives; laws for variables in boxes. No condition. -/
import Derived.Test.YtcmgnjdhjnclkaaStrL
import Derived.Test.YtcmgnjdhjnclkaaStrG
namespace Go.Proofs.Ytcmgnjdhjnclkaa.S
set_option linter.unusedVariables false
set_option linter.unusedSimpArgs false
open Go.RowKit Go.Shelf
section
variable {P : Program} {w : World} {ops : Array Oper} {rest : List Oper} {o : Oper} {a : Act} {Q : Exit → Act → World → Prop}
theorem newVar_one {ty : TypeId} {v : Value} (hc : v.cells = #[v]) (w : World) : Sem.run P (newVar ty v) w = .ok ⟨w.heap.size, 0, none⟩ (w.alloc (.cells [v].toArray ty)) := by
  have h : newVar ty v = newVar ty (.agg #[v]) := by
    have : (Value.agg #[v]).cells = #[v] := rfl
    unfold newVar
    rw [hc, this]
  rw [h]
  simp [newVar, Value.cells, go_sem]
theorem wpList_box1 (hgd : o.guard = none) (ty : TypeId) (x : Operand) (ho : o.op = .box ty x) (v : Value) (hx : a.eval x = v) (hc : v.cells = #[v])
    (h : ∀ w', IsRow w' w.heap.size ty [v] → Below w.heap.size w w' → w'.heap.size = w.heap.size + 1 → wpList P ops Q rest (a.put o.dst (.pointer (some ⟨w.heap.size, 0, none⟩))) w') : wpList P ops Q (o :: rest) a w := by
  refine wpList_plain hgd fun K hK => ?_
  have hn := newVar_one (P := P) (ty := ty) hc w
  unfold Oper.wp execOp
  simp only [ho, hx, Instr.box, Sem.run_bind, Sem.run_pure, Result.andThen_ok, hn]
  exact hK _ _ (h _ (IsRow.new w ty [v]) ((Below.refl _ _).alloc (Nat.le_refl _) _) (by simp))
theorem zero_of_info1 {ty : TypeId} {z : Value} (hz : (P.info? ty).map (fun i => (i.zero, i.size)) = some (some z, 1)) (w : World) : (zeroValue ty).run P w = .ok z w := by
  cases hq : P.info? ty with
  | none => rw [hq] at hz; cases hz
  | some i =>
    rw [hq] at hz
    have h1 : i.zero = some z := by have := Option.some.inj hz; exact congrArg Prod.fst this
    simp [zeroValue, typeInfo, hq, h1, go_sem]
theorem wpList_alloc1 (hgd : o.guard = none) (ty : TypeId) (ho : o.op = .alloc ty) (z : Value) (hz : (P.info? ty).map (fun i => (i.zero, i.size)) = some (some z, 1)) (hc : z.cells = #[z])
    (h : ∀ w', IsRow w' w.heap.size ty [z] → Below w.heap.size w w' → w'.heap.size = w.heap.size + 1 → wpList P ops Q rest (a.put o.dst (.pointer (some ⟨w.heap.size, 0, none⟩))) w') : wpList P ops Q (o :: rest) a w := by
  refine wpList_plain hgd fun K hK => ?_
  unfold Oper.wp execOp
  simp only [ho, Instr.alloc, Sem.run_bind, Sem.run_pure, Result.andThen_ok, zero_of_info1 hz, newVar_one hc]
  exact hK _ _ (h _ (IsRow.new w ty [z]) ((Below.refl _ _).alloc (Nat.le_refl _) _) (by simp))
theorem storeVar_one {ty : TypeId} {ad : Addr} {v : Value} (hc : v.cells = #[v]) : storeVar ty ad v = storeVar ty ad (.agg #[v]) := by
  have : (Value.agg #[v]).cells = #[v] := rfl
  unfold storeVar
  rw [hc, this]
theorem wpList_store1 (hgd : o.guard = none) (ty : TypeId) (x y : Operand) (ho : o.op = .store ty x y) {b t : Nat} {u v : Value} (hr : IsRow w b t [u]) (hx : a.eval x = .pointer (some ⟨b, 0, none⟩))
    (hy : a.eval y = v) (hi : (P.info? ty).map (·.size) = some 1) (hc : v.cells = #[v]) (h1 : v.oneCell' = true)
    (h : ∀ w', IsRow w' b t [v] → w.grownBy w' (some b) → w'.heap.size = w.heap.size → wpList P ops Q rest (a.put o.dst undef) w') : wpList P ops Q (o :: rest) a w := by
  refine wpList_plain hgd fun K hK => ?_
  have hs := run_storeVar_row (P := P) w b t ty [u].toArray [v].toArray hr (by simpa using hi) (by simp) (by simp [h1])
  unfold Oper.wp execOp
  simp only [ho, hx, hy, Instr.storeAt, Instr.sureAddr, Sem.run_bind, Sem.run_pure, Result.andThen_ok, storeVar_one hc]
  have hs' : Sem.run P (storeVar ty ⟨b, 0, none⟩ (.agg #[v])) w = .ok () (w.setRow b [v].toArray) := hs
  simp only [hs', Result.andThen_ok]
  exact hK _ _ (h _ (setRow_heap w b _ _ t _ hr) ⟨rfl, rfl, rfl, by simp [World.setRow], fun k _ hk => setRow_other w b k _ (fun e => hk (by rw [e]))⟩ (by simp [World.setRow]))
end
section
variable {P : Program} {F : Fence} {nf : Nat} {w : World} {ops : Array Oper} {rest : List Oper} {o : Oper} {a : Act} {Q : Exit → Act → World → Prop}
theorem wpListIn_box1 (hgd : o.guard = none) (ty : TypeId) (x : Operand) (ho : o.op = .box ty x) (v : Value) (hx : a.eval x = v) (hc : v.cells = #[v])
    (h : ∀ w', IsRow w' w.heap.size ty [v] → Below w.heap.size w w' → w'.heap.size = w.heap.size + 1 → wpListIn F nf P ops Q rest (a.put o.dst (.pointer (some ⟨w.heap.size, 0, none⟩))) w') : wpListIn F nf P ops Q (o :: rest) a w := by
  refine wpListIn_plain hgd fun K hK => ?_
  unfold Oper.wpIn
  refine ⟨by simp [Oper.about, ho], ?_⟩
  rw [Oper.semAt_plain F _ _ (by rw [ho]; intro c hc'; cases hc')]
  have hn := newVar_one (P := P) (ty := ty) hc w
  unfold execOp
  simp only [ho, hx, Instr.box, Sem.run_bind, Sem.run_pure, Result.andThen_ok, hn]
  exact hK _ _ (h _ (IsRow.new w ty [v]) ((Below.refl _ _).alloc (Nat.le_refl _) _) (by simp))
theorem wpListIn_boxRow (hgd : o.guard = none) (ty : TypeId) (x : Operand) (ho : o.op = .box ty x) (l : List Value) {cs : Array Value} (hx : a.eval x = .agg cs) (hcs : cs = l.toArray)
    (h : ∀ w', IsRow w' w.heap.size ty l → Below w.heap.size w w' → w'.heap.size = w.heap.size + 1 → wpListIn F nf P ops Q rest (a.put o.dst (.pointer (some ⟨w.heap.size, 0, none⟩))) w') : wpListIn F nf P ops Q (o :: rest) a w := by
  subst hcs
  refine wpListIn_plain hgd fun K hK => ?_
  have hn : Sem.run P (newVar ty (.agg l.toArray)) w = .ok ⟨w.heap.size, 0, none⟩ (w.alloc (.cells l.toArray ty)) := by
    simp [newVar, Value.cells, go_sem]
  unfold Oper.wpIn
  refine ⟨by simp [Oper.about, ho], ?_⟩
  rw [Oper.semAt_plain F _ _ (by rw [ho]; intro c hc'; cases hc')]
  unfold execOp
  simp only [ho, hx, Instr.box, Sem.run_bind, Sem.run_pure, Result.andThen_ok, hn]
  exact hK _ _ (h _ (IsRow.new w ty l) ((Below.refl _ _).alloc (Nat.le_refl _) _) (by simp))
theorem wpListIn_alloc1 (hgd : o.guard = none) (ty : TypeId) (ho : o.op = .alloc ty) (z : Value) (hz : (P.info? ty).map (fun i => (i.zero, i.size)) = some (some z, 1)) (hc : z.cells = #[z])
    (h : ∀ w', IsRow w' w.heap.size ty [z] → Below w.heap.size w w' → w'.heap.size = w.heap.size + 1 → wpListIn F nf P ops Q rest (a.put o.dst (.pointer (some ⟨w.heap.size, 0, none⟩))) w') : wpListIn F nf P ops Q (o :: rest) a w := by
  refine wpListIn_plain hgd fun K hK => ?_
  unfold Oper.wpIn
  refine ⟨by simp [Oper.about, ho], ?_⟩
  rw [Oper.semAt_plain F _ _ (by rw [ho]; intro c hc'; cases hc')]
  unfold execOp
  simp only [ho, Instr.alloc, Sem.run_bind, Sem.run_pure, Result.andThen_ok, zero_of_info1 hz, newVar_one hc]
  exact hK _ _ (h _ (IsRow.new w ty [z]) ((Below.refl _ _).alloc (Nat.le_refl _) _) (by simp))
theorem wpListIn_store1 (hgd : o.guard = none) (ty : TypeId) (x y : Operand) (ho : o.op = .store ty x y) {b t : Nat} {u v : Value} (hr : IsRow w b t [u]) (hx : a.eval x = .pointer (some ⟨b, 0, none⟩))
    (hy : a.eval y = v) (hi : (P.info? ty).map (·.size) = some 1) (hc : v.cells = #[v]) (h1 : v.oneCell' = true)
    (h : ∀ w', IsRow w' b t [v] → w.grownBy w' (some b) → w'.heap.size = w.heap.size → KeepsOthers w w' → wpListIn F nf P ops Q rest (a.put o.dst undef) w') : wpListIn F nf P ops Q (o :: rest) a w := by
  refine wpListIn_plain hgd fun K hK => ?_
  have hs := run_storeVar_row (P := P) w b t ty [u].toArray [v].toArray hr (by simpa using hi) (by simp) (by simp [h1])
  have hg : w.grownBy (w.setRow b [v].toArray) (some b) := ⟨rfl, rfl, rfl, by simp [World.setRow], fun k _ hk => setRow_other w b k _ (fun e => hk (by rw [e]))⟩
  unfold Oper.wpIn
  refine ⟨by simp [Oper.about, ho], ?_⟩
  rw [Oper.semAt_plain F _ _ (by rw [ho]; intro c hc'; cases hc')]
  unfold execOp
  simp only [ho, hx, hy, Instr.storeAt, Instr.sureAddr, Sem.run_bind, Sem.run_pure, Result.andThen_ok, storeVar_one hc]
  have hs' : Sem.run P (storeVar ty ⟨b, 0, none⟩ (.agg #[v])) w = .ok () (w.setRow b [v].toArray) := hs
  simp only [hs', Result.andThen_ok]
  refine hK _ _ (h _ (setRow_heap w b _ _ t _ hr) hg (by simp [World.setRow]) (KeepsOthers.of_grownBy hg fun j o ej hj => ?_))
  have e1 := Option.some.inj ej
  subst e1
  have hr' : w.heap[b]? = some (.cells [u].toArray t (0, 0)) := hr
  rw [hr'] at hj
  injection hj with hj
  rw [← hj]; rfl
end
theorem resultC3 {P : Program} {fn : Func} {p q r : Tmp} {t1 t2 t3 : TypeId} (h : fn.results = #[.cell p t1, .cell q t2, .cell r t3]) (tmps : Array Value) (w : World) {b1 b2 b3 u2 : Nat} {v1 v3 : Value} {l2 : List Value} {d1 d3 : TypeDesc} {fs : Array Field}
    (hp : tmps.getD p undef = .pointer (some ⟨b1, 0, none⟩)) (hq : tmps.getD q undef = .pointer (some ⟨b2, 0, none⟩)) (hr : tmps.getD r undef = .pointer (some ⟨b3, 0, none⟩))
    (c1 : w.cell? ⟨b1, 0, none⟩ = some v1) (c2 : IsRow w b2 u2 l2) (c3 : w.cell? ⟨b3, 0, none⟩ = some v3) (hu1 : P.underlying t1 = some d1) (hd1 : (match d1 with | .struct _ | .array _ _ => true | _ => false) = false)
    (hu2 : P.underlying t2 = some (.struct fs)) (hi2 : (P.info? t2).map (·.size) = some l2.length) (hu3 : P.underlying t3 = some d3) (hd3 : (match d3 with | .struct _ | .array _ _ => true | _ => false) = false) :
    (results fn tmps).run P w = .ok (.tuple #[v1, .agg l2.toArray, v3]) w := by
  have hp' : tmps[p]?.getD undef = .pointer (some ⟨b1, 0, none⟩) := by simpa using hp
  have hq' : tmps[q]?.getD undef = .pointer (some ⟨b2, 0, none⟩) := by simpa using hq
  have hr' : tmps[r]?.getD undef = .pointer (some ⟨b3, 0, none⟩) := by simpa using hr
  simp [results, h, hp', hq', hr', asAddr, run_loadVar1 w b1 t1 v1 c1 hu1 hd1, run_loadVar1 w b3 t3 v3 c3 hu3 hd3, run_loadVar_row w b2 u2 t2 l2.toArray (0, 0) _ c2 hu2 rfl (by simpa using hi2)]
end Go.Proofs.Ytcmgnjdhjnclkaa.S
