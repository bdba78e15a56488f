/- Joined texts: Maps, Keep. Conditions: as each part says. -/
import Derived.Test.YtfllkaeaanahmaaGreatBase
import Derived.Maps.OwnSet
namespace Go.Proofs.YtfllkaeaanahmaaGreat
set_option linter.unusedVariables false
set_option linter.unusedSimpArgs false
section
open Go.RowKit Go.ChangeMaps

section
variable {α : Type} [DecidableEq α]

def findIn (x : α) : List (α × Value) → Nat → Option (Nat × Value)
 | [], _ => none
 | (y, v) :: L, i => if x = y then some (i, v) else findIn x L (i + 1)
def lkup (x : α) (L : List (α × Value)) : Option Value := (findIn x L 0).map (·.2)

theorem findIn_up (x : α) (L : List (α × Value)) (i : Nat) : findIn x L i = (findIn x L 0).map fun p => (p.1 + i, p.2) := by
 induction L generalizing i with
 | nil => rfl
 | cons p L ih =>
  obtain ⟨y, v⟩ := p
  simp only [findIn]
  split
  ·
   simp
  ·
   rw [ih (i + 1), ih (0 + 1), Option.map_map]
   congr 1
   funext p
   simp only [Function.comp, Prod.mk.injEq, and_true]
   omega
theorem lkup_nil (x : α) : lkup x [] = none := rfl
theorem lkup_cons (x y : α) (v : Value) (L : List (α × Value)) : lkup x ((y, v) :: L) = if x = y then some v else lkup x L := by
 unfold lkup
 simp only [findIn]
 split
 ·
  rfl
 ·
  rw [findIn_up, Option.map_map]; rfl
theorem lkup_none {x : α} {L : List (α × Value)} : lkup x L = none ↔ x ∉ L.map (·.1) := by
 induction L with
 | nil => simp [lkup_nil]
 | cons p L ih =>
  obtain ⟨y, v⟩ := p
  rw [lkup_cons, List.map_cons, List.mem_cons]
  split
  ·
   next h => simp [h]
  ·
   next h => rw [ih]; simp [h]
theorem findIn_some {x : α} {L : List (α × Value)} {j : Nat} {v : Value} (h : findIn x L 0 = some (j, v)) : ∃ A B, L = A ++ (x, v) :: B ∧ A.length = j ∧ lkup x A = none := by
 induction L generalizing j with
 | nil => cases h
 | cons p L ih =>
  obtain ⟨y, u⟩ := p
  simp only [findIn] at h
  split at h
  ·
   next hxy => subst hxy; simp only [Option.some.injEq, Prod.mk.injEq] at h; obtain ⟨rfl, rfl⟩ := h; exact ⟨[], L, rfl, rfl, rfl⟩
  ·
   next hxy =>
   rw [findIn_up] at h
   cases hf : findIn x L 0 with
   | none => rw [hf] at h; cases h
   | some q =>
    rw [hf] at h
    obtain ⟨i, v'⟩ := q
    simp only [Option.map_some, Option.some.injEq, Prod.mk.injEq] at h
    obtain ⟨rfl, rfl⟩ := h
    obtain ⟨A, B, rfl, rfl, h0⟩ := ih hf
    exact ⟨(y, u) :: A, B, rfl, by simp, by rw [lkup_cons, if_neg hxy, h0]⟩
theorem lkup_append (x : α) (A B : List (α × Value)) : lkup x (A ++ B) = (lkup x A).or (lkup x B) := by
 induction A with
 | nil => simp [lkup_nil]
 | cons p A ih =>
  obtain ⟨y, v⟩ := p
  rw [List.cons_append, lkup_cons, lkup_cons]
  split <;> simp [ih]
theorem lkup_eq_none_of {x : α} {L : List (α × Value)} (h : findIn x L 0 = none) : lkup x L = none := by simp [lkup, h]

structure KeyT (P : Program) (k : TypeId) (kv : α → Value) : Prop where
 check : ∀ (w : World) (emp : Bool) (x : α), (Instr.checkKey emp 10000 k (kv x)).run P w = .ok () w
 find : ∀ (w : World) (x : α) (L : List (α × Value)) (es : List MapEntry), es.map (fun e => (e.key, e.val)) = L.map (fun p => (kv p.1, p.2)) → (Instr.findKey k (kv x) es).run P w = .ok (findIn x L 0) w
 bits : ∀ x, Instr.sameBits 10000 (kv x) (kv x) = true

def MapIs (w : World) (b : Nat) (kv : α → Value) (M : α → Option Value) (n : Nat) : Prop :=
 ∃ es clock L, w.heap[b]? = some (.map es clock) ∧ es.toList.map (fun e => (e.key, e.val)) = L.map (fun p => (kv p.1, p.2)) ∧ (L.map (·.1)).Nodup ∧ (∀ x, lkup x L = M x) ∧ L.length = n

variable {P : Program} {t k e : TypeId} {kv : α → Value} {w w' : World} {b n : Nat} {M : α → Option Value}

theorem MapIs.lt (h : MapIs w b kv M n) : b < w.heap.size := by
 obtain ⟨es, clock, L, hb, _⟩ := h
 exact (Array.getElem?_eq_some_iff.1 hb).1
theorem MapIs.block (h : MapIs w b kv M n) (hb : w'.heap[b]? = w.heap[b]?) : MapIs w' b kv M n := by
 obtain ⟨es, clock, L, h1, r⟩ := h
 exact ⟨es, clock, L, hb.trans h1, r⟩
theorem MapIs.below {B : Nat} (h : MapIs w b kv M n) (hb : Below B w w') (hB : b < B) : MapIs w' b kv M n := h.block (hb.block b hB)
theorem MapIs.alloc (h : MapIs w b kv M n) (o : Obj) : MapIs (w.alloc o) b kv M n := h.block (RowKit.Below.heap_alloc w o b h.lt)
theorem MapIs.drew (h : MapIs w b kv M n) : MapIs w.drew b kv M n := h
theorem MapIs.drewN (h : MapIs w b kv M n) (k : Nat) : MapIs (w.drewN k) b kv M n := h
theorem MapIs.setCell (h : MapIs w b kv M n) {a : Addr} (ha : b ≠ a.block) (u : Value) : MapIs (w.setCell a u) b kv M n := h.block (RowKit.Below.heap_setCell _ _ _ _ ha)
theorem MapIs.made (w : World) (kv : α → Value) : MapIs (w.alloc (.map #[] 0)) w.heap.size kv (fun _ => none) 0 :=
 ⟨#[], 0, [], (MapKept.heap_alloc w _).1, rfl, by simp, fun _ => rfl, rfl⟩
theorem MapIs.congr {M' : α → Option Value} (h : MapIs w b kv M n) (he : ∀ x, M x = M' x) : MapIs w b kv M' n := by
 obtain ⟨es, clock, L, h1, h2, h3, h4, h5⟩ := h
 exact ⟨es, clock, L, h1, h2, h3, fun x => (h4 x).trans (he x), h5⟩

theorem MapIs.look (h : MapIs w b kv M n) (K : KeyT P k kv) (ht : P.underlying t = some (.map k e)) {z : Value} (hz : (zeroValue e).run P w = .ok z w) (x : α) (c : Bool) :
  (Instr.lookup t (.map (some b)) (kv x) c).run P w = .ok (if c then .tuple #[(M x).getD z, .bool (M x).isSome] else (M x).getD z) w := by
 obtain ⟨es, clock, L, hb, hes, hn, hM, hl⟩ := h
 have hf := K.find w x L es.toList hes
 rw [← hM x]
 cases hfi : findIn x L 0 with
 | none =>
  rw [hfi] at hf
  simp [Instr.lookup, run_underlying ht, MapKept.run_getObj_map hb, K.check w _ x, hf, hz, Result.andThen, lkup, hfi]
 | some p =>
  rw [hfi] at hf
  simp [Instr.lookup, run_underlying ht, MapKept.run_getObj_map hb, K.check w _ x, hf, Result.andThen, lkup, hfi]
theorem MapIs.look_ok (h : MapIs w b kv M n) (K : KeyT P k kv) (ht : P.underlying t = some (.map k e)) {z : Value} (hz : (zeroValue e).run P w = .ok z w) (x : α) {v : Value} (hv : M x = some v) :
  (Instr.lookup t (.map (some b)) (kv x) true).run P w = .ok (.tuple #[v, .bool true]) w := by
 rw [h.look K ht hz x true, hv]; rfl
theorem MapIs.look_no (h : MapIs w b kv M n) (K : KeyT P k kv) (ht : P.underlying t = some (.map k e)) {z : Value} (hz : (zeroValue e).run P w = .ok z w) (x : α) (hv : M x = none) :
  (Instr.lookup t (.map (some b)) (kv x) true).run P w = .ok (.tuple #[z, .bool false]) w := by
 rw [h.look K ht hz x true, hv]; rfl
theorem run_stays (K : KeyT P k kv) (x : α) (w : World) : (Instr.keyThatStays (kv x) (kv x)).run P w = .ok (kv x) w := by
 simp [Instr.keyThatStays, K.bits x]

theorem MapIs.update (h : MapIs w b kv M n) (K : KeyT P k kv) (ht : P.underlying t = some (.map k e)) (x : α) (v : Value) :
  ∃ w', (Instr.mapUpdate t (.map (some b)) (kv x) v).run P w = .ok () w' ∧ MapIs w' b kv (fun y => if y = x then some v else M y) (if (M x).isSome then n else n + 1) ∧ w.mapTurned w' b := by
 obtain ⟨es, clock, L, hb, hes, hn, hM, hl⟩ := h
 have hf := K.find w x L es.toList hes
 cases hfi : findIn x L 0 with
 | none =>
  rw [hfi] at hf
  have hnone := lkup_eq_none_of hfi
  refine ⟨setBlock w b (.map (es.push { key := kv x, val := v, born := clock }) (clock + 1)), ?_, ⟨_, _, L ++ [(x, v)], heap_setBlock_same hb _, ?_, ?_, ?_, ?_⟩, es, clock, _, _, hb, rfl⟩
  ·
   simp [Instr.mapUpdate, run_underlying ht, MapKept.run_getObj_map hb, K.check w _ x, hf, MapKept.run_setObj_map _ hb, Result.andThen, setBlock]
  ·
   simp [hes]
  ·
   rw [List.map_append, List.nodup_append]
   refine ⟨hn, by simp, ?_⟩
   intro a ha c hc
   simp only [List.map_cons, List.map_nil, List.mem_singleton] at hc
   subst hc
   intro hac
   subst hac
   exact lkup_none.1 hnone ha
  ·
   intro y
   rw [lkup_append, hM, lkup_cons, lkup_nil]
   by_cases hy : y = x
   ·
    subst hy; rw [← hM, hnone]; simp
   ·
    simp [hy]
  ·
   rw [← hM x, hnone]; simp [hl]
 | some p =>
  obtain ⟨j, u⟩ := p
  rw [hfi] at hf
  obtain ⟨A, B, rfl, hA, h0⟩ := findIn_some hfi
  have hj : es.toList[j]?.map (fun e => (e.key, e.val)) = some (kv x, u) := by
   rw [← List.getElem?_map, hes, List.getElem?_map, ← hA]; simp
  have hje : ∃ e0, es[j]? = some e0 ∧ e0.key = kv x ∧ e0.val = u := by
   rw [Array.getElem?_toList] at hj
   cases hq : es[j]? with
   | none => rw [hq] at hj; cases hj
   | some e0 => rw [hq] at hj; simp only [Option.map_some, Option.some.injEq, Prod.mk.injEq] at hj; exact ⟨e0, rfl, hj.1, hj.2⟩
  obtain ⟨e0, he0, hk0, hv0⟩ := hje
  have hxM : (M x).isSome = true := by rw [← hM x, lkup_append, lkup_cons]; simp [h0]
  refine ⟨setBlock w b (.map (es.modify j fun e => { e with key := kv x, val := v }) clock), ?_, ⟨_, _, A ++ (x, v) :: B, heap_setBlock_same hb _, ?_, ?_, ?_, ?_⟩, es, clock, _, _, hb, rfl⟩
  ·
   simp [Instr.mapUpdate, run_underlying ht, MapKept.run_getObj_map hb, K.check w _ x, hf, he0, hk0, run_stays K, MapKept.run_setObj_map _ hb, Result.andThen, setBlock]
  ·
   apply List.ext_getElem?
   intro i
   have hi := congrArg (fun l => l[i]?) hes
   simp only [List.getElem?_map, Array.getElem?_toList] at hi ⊢
   rw [Array.getElem?_modify]
   by_cases hij : i = j
   ·
    subst hij
    rw [← hA] at he0 ⊢
    simp [he0]
   ·
    rw [if_neg (fun h => hij h.symm)]
    rw [hi]
    rw [← hA] at hij
    rw [List.getElem?_append, List.getElem?_append]
    split
    ·
     rfl
    ·
     cases hd : i - A.length with
     | zero => omega
     | succ m => simp
  ·
   simpa using hn
  ·
   intro y
   show _ = if y = x then some v else M y
   rw [← hM y, lkup_append, lkup_append, lkup_cons, lkup_cons]
   by_cases hy : y = x
   ·
    subst hy; simp [h0]
   ·
    simp [hy]
  ·
   rw [if_pos hxM, ← hl]; simp

theorem lkup_del {x : α} {A B : List (α × Value)} {u : Value} (hn : ((A ++ (x, u) :: B).map (·.1)).Nodup) (h0 : lkup x A = none) (y : α) : lkup y (A ++ B) = if y = x then none else lkup y (A ++ (x, u) :: B) := by
 by_cases hy : y = x
 ·
  subst hy
  rw [if_pos rfl, lkup_append, h0]
  rw [List.map_append, List.map_cons, List.nodup_append] at hn
  have := (List.nodup_cons.1 hn.2.1).1
  rw [lkup_none.2 this]; rfl
 ·
  rw [if_neg hy, lkup_append, lkup_append, lkup_cons, if_neg hy]

theorem MapIs.delete (h : MapIs w b kv M n) (K : KeyT P k kv) (ht : P.underlying t = some (.map k e)) (x : α) (ty : TypeId) :
  ∃ w', (Builtin.delete_ #[t, k] ty #[.map (some b), kv x]).run P w = .ok (.tuple #[]) w' ∧ MapIs w' b kv (fun y => if y = x then none else M y) (if (M x).isSome then n - 1 else n) ∧ w.mapTurned w' b := by
 obtain ⟨es, clock, L, hb, hes, hn, hM, hl⟩ := h
 have hf := K.find w x L es.toList hes
 cases hfi : findIn x L 0 with
 | none =>
  rw [hfi] at hf
  have hnone := lkup_eq_none_of hfi
  refine ⟨setBlock w b (.map es clock), ?_, ⟨_, _, L, heap_setBlock_same hb _, hes, hn, ?_, ?_⟩, es, clock, _, _, hb, rfl⟩
  ·
   simp [Builtin.delete_, run_underlying ht, MapKept.run_getObj_map hb, K.check w _ x, hf, MapKept.run_setObj_map _ hb, Result.andThen, setBlock]
  ·
   intro y
   by_cases hy : y = x
   ·
    subst hy; simp [hnone]
   ·
    simp [hy, hM]
  ·
   rw [← hM x, hnone]; simp [hl]
 | some p =>
  obtain ⟨j, u⟩ := p
  rw [hfi] at hf
  obtain ⟨A, B, rfl, hA, h0⟩ := findIn_some hfi
  have hxM : (M x).isSome = true := by rw [← hM x, lkup_append, lkup_cons]; simp [h0]
  refine ⟨setBlock w b (.map (es.eraseIdxIfInBounds j) clock), ?_, ⟨_, _, A ++ B, heap_setBlock_same hb _, ?_, ?_, ?_, ?_⟩, es, clock, _, _, hb, rfl⟩
  ·
   simp [Builtin.delete_, run_underlying ht, MapKept.run_getObj_map hb, K.check w _ x, hf, MapKept.run_setObj_map _ hb, Result.andThen, setBlock]
  ·
   have hjlt : j < es.size := by
    have := congrArg List.length hes
    simp at this; omega
   have e1 : (es.eraseIdxIfInBounds j).toList = es.toList.eraseIdx j := by simp [Array.eraseIdxIfInBounds, hjlt]
   rw [e1, map_eraseIdx, hes, ← map_eraseIdx]
   congr 1
   rw [← hA, List.eraseIdx_append_of_length_le (Nat.le_refl _)]
   simp
  ·
   refine List.Nodup.sublist ?_ hn
   simp
  ·
   intro y
   rw [lkup_del hn h0 y, hM]
  ·
   rw [if_pos hxM, ← hl]; simp
theorem MapIs.len (h : MapIs w b kv M n) (ht : P.underlying t = some (.map k e)) (ty : TypeId) : (Builtin.len_ #[t] ty #[.map (some b)]).run P w = .ok (.int .i64 n) w := by
 obtain ⟨es, clock, L, hb, hes, hn, hM, hl⟩ := h
 have : es.size = n := by
  have := congrArg List.length hes
  simp at this; omega
 simp [Builtin.len_, run_underlying ht, MapKept.run_getObj_map hb, Result.andThen, goInt, this]

variable {ops : Array Oper} {rest : List Oper} {o : Oper} {a : Act} {Q : Exit → Act → World → Prop}
theorem wpList_store (hg : o.guard = none) (m x v : Operand) (t : TypeId) (hop : o.op = Op.mapUpdate t m x v) (K : KeyT P k kv) (ht : P.underlying t = some (.map k e)) (hown : MapIs w b kv M n) (hm : a.eval m = .map (some b)) (y : α) (hx : a.eval x = kv y) (val : Value) (hv : a.eval v = val)
  (hK : ∀ w', MapIs w' b kv (fun z => if z = y then some val else M z) (if (M y).isSome then n else n + 1) → w.mapTurned w' b → wpList P ops Q rest (a.put o.dst undef) w') : wpList P ops Q (o :: rest) a w := by
 refine wpList_plain hg fun K' hK' => ?_
 obtain ⟨w', hrun, r1, r2⟩ := hown.update K ht y val
 unfold Oper.wp
 simp [execOp, hop, hm, hx, hv, hrun, Result.andThen]
 exact hK' _ _ (hK w' r1 r2)
end

theorem findNow_int {P : Program} (q : IntKind) (x : Int) (L : List (Int × Value)) (es : List MapEntry) (h : es.map (fun e => (e.key, e.val)) = L.map (fun p => (Value.int q p.1, p.2))) (i : Nat) : Instr.findNow (.int q) (.int q x) es i = some (findIn x L i) := by
 induction es generalizing L i with
 | nil => cases L <;> simp_all [Instr.findNow, findIn]
 | cons e es ih =>
  cases L with
  | nil => simp at h
  | cons p L =>
   obtain ⟨y, v⟩ := p
   simp only [List.map_cons, List.cons.injEq, Prod.mk.injEq] at h
   obtain ⟨⟨h1, h2⟩, h3⟩ := h
   simp only [Instr.findNow, h1, Instr.sameNow, if_true, findIn]
   by_cases hxy : x = y
   ·
    subst hxy; simp [h2]
   ·
    have : (x == y) = false := by rw [beq_eq_false_iff_ne]; exact hxy
    rw [this, if_neg hxy]
    simp only
    exact ih L h3 (i + 1)
theorem keyT_int {P : Program} {k : TypeId} {q : IntKind} (hk : P.underlying k = some (.int q)) : KeyT P k (Value.int q) where
 check := by
  intro w emp x
  have h : ∀ n, (Instr.checkKey emp (n + 1) k (.int q x)).run P w = .ok () w := by intro n; simp [Instr.checkKey, run_underlying hk]
  exact h 9999
 find := by
  intro w x L es h
  have := findNow_int (P := P) q x L es h 0
  unfold Instr.findKey
  simp only [Sem.run_bind, run_underlying hk, Result.andThen_ok, this, Sem.run_pure]
 bits := by
  intro x
  have h : ∀ n, Instr.sameBits (n + 1) (.int q x) (.int q x) = true := by intro n; simp [Instr.sameBits]
  exact h 9999
end
section
open Go.RowKit Go.ChangeMaps

structure Keep (S : Nat → Prop) (w w' : World) : Prop where
 os : w'.os = w.os
 tape : w'.tape = w.tape
 output : w'.output = w.output
 size : w.heap.size ≤ w'.heap.size
 block : ∀ k, k < w.heap.size → ¬ S k → w'.heap[k]? = w.heap[k]?

section
variable {S T : Nat → Prop} {w w' w'' : World}
theorem Keep.refl (S : Nat → Prop) (w : World) : Keep S w w := ⟨rfl, rfl, rfl, Nat.le_refl _, fun _ _ _ => rfl⟩
theorem Keep.trans (h : Keep S w w') (k : Keep S w' w'') : Keep S w w'' :=
 ⟨k.os.trans h.os, k.tape.trans h.tape, k.output.trans h.output, Nat.le_trans h.size k.size, fun i hi hs => (k.block i (Nat.lt_of_lt_of_le hi h.size) hs).trans (h.block i hi hs)⟩
theorem Keep.mono (h : Keep S w w') (hST : ∀ k, k < w.heap.size → S k → T k) : Keep T w w' := ⟨h.os, h.tape, h.output, h.size, fun i hi hs => h.block i hi fun hS => hs (hST i hi hS)⟩
theorem Keep.alloc (h : Keep S w w') (o : Obj) : Keep S w (w'.alloc o) :=
 ⟨h.os, h.tape, h.output, by simp; have := h.size; omega, fun i hi hs => (RowKit.Below.heap_alloc w' o i (Nat.lt_of_lt_of_le hi h.size)).trans (h.block i hi hs)⟩
theorem Keep.setCell (h : Keep S w w') {a : Addr} (ha : S a.block ∨ w.heap.size ≤ a.block) (u : Value) : Keep S w (w'.setCell a u) :=
 ⟨h.os, h.tape, h.output, by simp [World.setCell]; exact h.size, fun i hi hs => by
  rw [RowKit.Below.heap_setCell _ _ _ _ (fun e => (by subst e; rcases ha with h | h <;> first | exact hs h | omega))]
  exact h.block i hi hs⟩
theorem Keep.drew (h : Keep S w w') : Keep S w w'.drew := ⟨h.os, h.tape, h.output, h.size, h.block⟩
theorem Keep.drewN (h : Keep S w w') (n : Nat) : Keep S w (w'.drewN n) := ⟨h.os, h.tape, h.output, h.size, h.block⟩
theorem Keep.l_drew (h : Keep S w.drew w') : Keep S w w' := ⟨h.os, h.tape, h.output, h.size, h.block⟩
theorem Keep.of_grown {row : Option Nat} (hg : w.grownBy w' row) (hr : ∀ k, row = some k → S k) : Keep S w w' :=
 ⟨hg.os, hg.tape, hg.output, hg.size, fun i hi hs => hg.block i hi fun e => hs (hr i e.symm)⟩
theorem Keep.grown {row : Option Nat} (h : Keep S w w') (hg : w'.grownBy w'' row) (hr : ∀ k, row = some k → S k ∨ w.heap.size ≤ k) : Keep S w w'' := by
 refine ⟨hg.os.trans h.os, hg.tape.trans h.tape, hg.output.trans h.output, Nat.le_trans h.size hg.size, fun i hi hs => ?_⟩
 refine (hg.block i (Nat.lt_of_lt_of_le hi h.size) fun e => ?_).trans (h.block i hi hs)
 rcases hr i e.symm with h | h
 ·
  exact hs h
 ·
  omega
theorem Keep.turned {b : Nat} (h : Keep S w w') (hg : w'.mapTurned w'' b) (hb : S b ∨ w.heap.size ≤ b) : Keep S w w'' := h.grown hg.grown fun k e => by injection e with e; subst e; exact hb
theorem Keep.of_below (h : Below w.heap.size w w') : Keep S w w' := ⟨h.os, h.tape, h.output, h.size, fun i hi _ => h.block i hi⟩
theorem Keep.then_below (h : Keep S w w') (k : Below w'.heap.size w' w'') : Keep S w w'' := h.trans (Keep.of_below k)
theorem Keep.below {B : Nat} (h : Keep S w w') (hB : B ≤ w.heap.size) (hs : ∀ k, k < B → ¬ S k) : Below B w w' := ⟨h.os, h.tape, h.output, h.size, fun k hk => h.block k (by omega) (hs k hk)⟩
theorem Keep.cell (h : Keep S w w') {p : Addr} (hp : p.block < w.heap.size) (hs : ¬ S p.block) : w'.cell? p = w.cell? p := World.cell?_of_block (h.block p.block hp hs)
theorem Keep.new {B : Nat} (h : Keep (fun k => B ≤ k) w w') (hB : B ≤ w.heap.size) : Below B w w' := h.below hB fun k hk h => by omega
theorem Keep.then {w0 : World} (h0 : Keep S w0 w) (h : Keep T w w') (hT : ∀ k, T k → S k ∨ w0.heap.size ≤ k) : Keep S w0 w' :=
 ⟨h.os.trans h0.os, h.tape.trans h0.tape, h.output.trans h0.output, Nat.le_trans h0.size h.size, fun i hi hs => (h.block i (Nat.lt_of_lt_of_le hi h0.size) fun ht => by
  rcases hT i ht with h1 | h1
  ·
   exact hs h1
  ·
   omega).trans (h0.block i hi hs)⟩
theorem Below.then_keep {B : Nat} {w0 : World} (h0 : Below B w0 w) (h : Keep T w w') (hT : ∀ k, T k → B ≤ k) (hB : B ≤ w0.heap.size) : Below B w0 w' :=
 h0.trans (h.below (Nat.le_trans hB h0.size) fun k hk ht => by have := hT k ht; omega)
theorem Rd.keepS {B size n : Nat} {A : Option Addr} {xs : List Value} (h : Rd w B size A n xs) (hk : Keep S w w') (hB : B ≤ w.heap.size) (hA : ∀ a, A = some a → ¬ S a.block) : Rd w' B size A n xs :=
 ⟨h.1, fun hn => by
  obtain ⟨b, off, e, hb, hc⟩ := h.2 hn
  exact ⟨b, off, e, hb, fun j u hu => (hk.cell (p := ⟨b, off + j, none⟩) (by show b < _; omega) (show ¬ S b from hA _ e)).trans (hc j u hu)⟩⟩
theorem MapIs.keep {α : Type} [DecidableEq α] {b n : Nat} {kv : α → Value} {M : α → Option Value} (h : MapIs w b kv M n) (hk : Keep S w w') (hb : ¬ S b) : MapIs w' b kv M n := h.block (hk.block b h.lt hb)
end
end
end Go.Proofs.YtfllkaeaanahmaaGreat
