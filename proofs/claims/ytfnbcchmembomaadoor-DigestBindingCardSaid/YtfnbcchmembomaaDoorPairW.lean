/- The reference's check of a prefix proof: walks of pairOf and VerifyPrefix. -/
import Derived.Test.YtfnbcchmembomaaDoorPairP
import Derived.Test.YtfnbcchmembomaaDoorRefTree
import Derived.Laws.Tables
namespace Go.Proofs.YtfnbcchmembomaaDoor
set_option linter.unusedVariables false
set_option linter.unusedSimpArgs false
open Go.RowKit
/-- the cells of a pair -/
def pcs (x y : List UInt8) (ok : Bool) : List Value := bvs x ++ bvs y ++ [.bool ok]
theorem pcs_len (x y : List UInt8) (ok : Bool) (hx : x.length = 16) (hy : y.length = 16) : (pcs x y ok).length = 33 := by unfold pcs; rw [List.length_append, List.length_append, bvs_len, bvs_len, hx, hy]; rfl
theorem pcs_all (x y : List UInt8) (ok : Bool) : (pcs x y ok).all (·.oneCell') = true := by
  unfold pcs
  rw [List.all_append, List.all_append, bvs_all, bvs_all]; rfl
theorem size33 : (Tryd.prog.info? 88).map (·.size) = some 33 := by kernel_rfl
theorem info33 : (Tryd.prog.info? 88).map (fun i => (i.zero, i.size)) = some (some (.agg (pcs Mk.z16 Mk.z16 false).toArray), (pcs Mk.z16 Mk.z16 false).length) := by kernel_rfl
theorem built_cells (cs ds : List Value) (ok : Bool) (hc : cs.length = 16) (hd : ds.length = 16) : Tryd.prog.built 88 [(0, .agg cs.toArray), (1, .agg ds.toArray), (2, .bool ok)] = some (cs ++ ds ++ [Value.bool ok]).toArray := by
  obtain ⟨a0, a1, a2, a3, a4, a5, a6, a7, a8, a9, a10, a11, a12, a13, a14, a15, rfl⟩ := list16 cs hc
  obtain ⟨b0, b1, b2, b3, b4, b5, b6, b7, b8, b9, b10, b11, b12, b13, b14, b15, rfl⟩ := list16 ds hd
  kernel_rfl
theorem built_pair (x y : List UInt8) (ok : Bool) (hx : x.length = 16) (hy : y.length = 16) : Tryd.prog.built 88 [(0, dv x), (1, dv y), (2, .bool ok)] = some (pcs x y ok).toArray := built_cells (bvs x) (bvs y) ok (by rw [bvs_len, hx]) (by rw [bvs_len, hy])
theorem built_none : Tryd.prog.built 88 [] = some (pcs Mk.z16 Mk.z16 false).toArray := by kernel_rfl
theorem pair_rows {w : World} {b t : Nat} {x y : List UInt8} {ok : Bool} (h : IsRow w b t (pcs x y ok)) (hx : x.length = 16) (hy : y.length = 16) :
    w.rangeAt b 0 (bvs x) ∧ w.rangeAt b 16 (bvs y) ∧ w.cell? ⟨b, 32, none⟩ = some (Value.bool ok) := by
  have hbx : (bvs x).length = 16 := by rw [bvs_len, hx]
  have hby : (bvs y).length = 16 := by rw [bvs_len, hy]
  refine ⟨fun j v hv => ?_, fun j v hv => ?_, ?_⟩
  · have hj : j < (bvs x).length := by
      rcases Nat.lt_or_ge j (bvs x).length with h' | h'
      · exact h'
      · rw [List.getElem?_eq_none h'] at hv; cases hv
    rw [h.cell, Nat.zero_add]
    unfold pcs
    rw [List.append_assoc, List.getElem?_append_left hj]; exact hv
  · have hj : j < (bvs y).length := by
      rcases Nat.lt_or_ge j (bvs y).length with h' | h'
      · exact h'
      · rw [List.getElem?_eq_none h'] at hv; cases hv
    rw [h.cell]
    unfold pcs
    rw [List.append_assoc, List.getElem?_append_right (by omega), hbx, show 16 + j - 16 = j from by omega, List.getElem?_append_left hj]; exact hv
  · rw [h.cell]
    unfold pcs
    rw [List.getElem?_append_right (by rw [List.length_append]; omega), List.length_append, hbx, hby]; rfl
/-- 'build' of a whole struct of three parts, or of none -/
theorem wpList_build3 {w : World} {ops : Array Oper} {rest : List Oper} {o : Oper} {a : Act} {Q : Exit → Act → World → Prop} (hg : o.guard = none) (t : TypeId) (x y z : Operand) (ho : o.op = .build t #[(0, x), (1, y), (2, z)]) (u v s : Value) (hx : a.eval x = u) (hy : a.eval y = v) (hz : a.eval z = s) (cells : Array Value)
    (hf : Tryd.prog.built t [(0, u), (1, v), (2, s)] = some cells) (h : wpList Tryd.prog ops Q rest (a.put o.dst (.agg cells)) w) : wpList Tryd.prog ops Q (o :: rest) a w := by
  subst hx hy hz
  exact wpList_build hg t _ ho (by simp only [List.map_toArray, List.map_cons, List.map_nil]; rw [hf]; rfl) (by simp only [List.map_toArray, List.map_cons, List.map_nil]; rw [hf]; exact h)
theorem wpList_build0 {w : World} {ops : Array Oper} {rest : List Oper} {o : Oper} {a : Act} {Q : Exit → Act → World → Prop} (hg : o.guard = none) (t : TypeId) (ho : o.op = .build t #[]) (cells : Array Value)
    (hf : Tryd.prog.built t [] = some cells) (h : wpList Tryd.prog ops Q rest (a.put o.dst (.agg cells)) w) : wpList Tryd.prog ops Q (o :: rest) a w :=
  wpList_build hg t _ ho (by simp only [List.map_toArray, List.map_nil]; rw [hf]; rfl) (by simp only [List.map_toArray, List.map_nil]; rw [hf]; exact h)
theorem y_build3 {ops : Array Oper} {S : World → Prop} {o : Oper} {a : Act} (hw : Region.wanted o (yielded ops a.tmps) = true) (t : TypeId) (x y z : Operand) (ho : o.op = .build t #[(0, x), (1, y), (2, z)]) (u v s : Value) (hx : a.eval x = u) (hy : a.eval y = v) (hz : a.eval z = s) (cells : Array Value)
    (hf : Tryd.prog.built t [(0, u), (1, v), (2, s)] = some cells) : YieldsIf Tryd.prog ops S o (.agg cells) a := by
  subst hx hy hz
  refine .inl ⟨hw, fun W _ => ?_⟩
  have hr := run_build (P := Tryd.prog) W t #[(0, a.eval x), (1, a.eval y), (2, a.eval z)] cells hf
  unfold execOp
  simp only [ho, List.map_toArray, List.map_cons, List.map_nil, Sem.run_bind, Sem.run_pure, Result.andThen_ok, hr]
theorem resultRowS {P : Program} {fn : Func} {p : Tmp} {ty : TypeId} (h : fn.results = #[.cell p ty]) (tmps : Array Value) (w : World) {b t : Nat} {fs : Array Field} {l : List Value} (hr : IsRow w b t l)
    (hp : tmps.getD p undef = .pointer (some ⟨b, 0, none⟩)) (hu : P.underlying ty = some (.struct fs)) (hi : (P.info? ty).map (·.size) = some l.length) :
    (results fn tmps).run P w = .ok (.agg l.toArray) w := results_cell_row h tmps w b t l.toArray (0, 0) _ hp hr hu rfl (by simpa using hi)
def PairRes (p : (List UInt8 × List UInt8) × Bool) (w : World) (e : Ending) (w' : World) : Prop := e = .returned (.agg (pcs p.1.1 p.1.2 p.2).toArray) ∧ Below w.heap.size w w'
theorem PairRes.of {x y : List UInt8} {ok : Bool} {w w' : World} (h : Below w.heap.size w w') : PairRes ((x, y), ok) w (.returned (.agg (pcs x y ok).toArray)) w' := ⟨rfl, h⟩
set_option maxRecDepth 100000 in
set_option maxHeartbeats 1000000 in
theorem pair_whole (old : List UInt8) (ho : old.length = 16) (n : Nat) (A : Option Addr) (pl c : Nat) (w : World) :
    Calls Tryd.prog 53 #[dv old, .int .i64 (n : Int), .int .i64 (n : Int), .bool true, .slice A pl c] w (PairRes ((old, old), decide (pl = 0)) w) := by
  have r0 := IsRow.new w 30 (bvs old)
  have hb0 : Below w.heap.size w (w.alloc (.cells (bvs old).toArray 30)) := (Below.refl _ w).alloc (Nat.le_refl _) _
  have hz0 := alloc_size1 w (.cells (bvs old).toArray 30)
  obtain ⟨w0, hw0⟩ : ∃ w0, w.alloc (.cells (bvs old).toArray 30) = w0 := ⟨_, rfl⟩
  rw [hw0] at r0 hb0 hz0
  have HZ0 := Lib.hid hz0
  have HW0 := Lib.hid hw0
  have HO := Lib.hid ho
  clear hw0 hz0 ho
  by_cases h0 : pl = 0
  · subst h0
    rw [decide_eq_true (Eq.refl 0)]
    go_enter Tryd.func53, Tryd.ntmps53
    go_wp2_with (first
      | (refine wpList_allocRow rfl _ rfl _ info33 ?_; rw [HW0.out]; intro w1 r1 b1 z1; have r01 := r0.below' b1; have q1 := hb0.trans (b1.mono hb0.size); clear z1)
      | (refine wpList_loadRow rfl _ (.tmp 5) rfl r01 rfl Tryd.underlying30 (by rw [bvs_len, HO.out]; exact size16) ?_)
      | (refine wpList_build3 rfl 88 (.tmp 22) (.tmp 23) (.tmp 26) rfl (dv old) (dv old) (.bool true) rfl rfl rfl _ (built_pair old old true HO.out HO.out) ?_)
      | (refine wpList_storeRow rfl _ (.tmp 10) (.tmp 27) rfl r1 rfl rfl (by rw [pcs_len _ _ _ HO.out HO.out]; exact size33) (by rw [pcs_len _ _ _ HO.out HO.out]; rfl) (pcs_all _ _ _) ?_; intro w5 r5 g5 z5; clear z5)
      | fail)
    exact bodyPost_ret (resultRowS rfl _ _ r5 rfl Tryd.underlying88 (by rw [pcs_len _ _ _ HO.out HO.out]; exact size33)) rfl (PairRes.of (q1.grown g5 q1.size (by intro j hj; have hj := Option.some.inj hj; have := HZ0.out; omega)))
  · have hne : ((pl : Int) == 0) = false := by simp; omega
    have hdf : decide (pl = 0) = false := decide_eq_false h0
    rw [hdf]
    clear hdf
    go_enter Tryd.func53, Tryd.ntmps53
    go_wp2_with (first
      | (refine wpList_allocRow rfl _ rfl _ info33 ?_; rw [HW0.out]; intro w1 r1 b1 z1; have r01 := r0.below' b1; have q1 := hb0.trans (b1.mono hb0.size); clear z1)
      | (refine wpList_loadRow rfl _ (.tmp 5) rfl r01 rfl Tryd.underlying30 (by rw [bvs_len, HO.out]; exact size16) ?_)
      | (refine wpList_build3 rfl 88 (.tmp 22) (.tmp 23) (.tmp 26) rfl (dv old) (dv old) (.bool false) rfl rfl rfl _ (built_pair old old false HO.out HO.out) ?_)
      | (refine wpList_storeRow rfl _ (.tmp 10) (.tmp 27) rfl r1 rfl rfl (by rw [pcs_len _ _ _ HO.out HO.out]; exact size33) (by rw [pcs_len _ _ _ HO.out HO.out]; rfl) (pcs_all _ _ _) ?_; intro w5 r5 g5 z5; clear z5)
      | fail)
    exact bodyPost_ret (resultRowS rfl _ _ r5 rfl Tryd.underlying88 (by rw [pcs_len _ _ _ HO.out HO.out]; exact size33)) rfl (PairRes.of (q1.grown g5 q1.size (by intro j hj; have hj := Option.some.inj hj; have := HZ0.out; omega)))
set_option maxRecDepth 100000 in
set_option maxHeartbeats 1000000 in
theorem pair_none (old : List UInt8) (ho : old.length = 16) (m n : Nat) (b : Bool) (hb : ¬ (m = n ∧ b = true)) (A : Option Addr) (c : Nat) (w : World) :
    Calls Tryd.prog 53 #[dv old, .int .i64 (m : Int), .int .i64 (n : Int), .bool b, .slice A 0 c] w (PairRes ((Mk.z16, Mk.z16), false) w) := by
  have r0 := IsRow.new w 30 (bvs old)
  have hb0 : Below w.heap.size w (w.alloc (.cells (bvs old).toArray 30)) := (Below.refl _ w).alloc (Nat.le_refl _) _
  have hz0 := alloc_size1 w (.cells (bvs old).toArray 30)
  obtain ⟨w0, hw0⟩ : ∃ w0, w.alloc (.cells (bvs old).toArray 30) = w0 := ⟨_, rfl⟩
  rw [hw0] at r0 hb0 hz0
  have HZ0 := Lib.hid hz0
  have HW0 := Lib.hid hw0
  have HO := Lib.hid ho
  clear hw0 hz0 ho
  by_cases hmn : m = n
  · subst hmn
    have hbf : b = false := by simpa using hb
    subst hbf
    go_enter Tryd.func53, Tryd.ntmps53
    go_wp2_with (first
      | (refine wpList_allocRow rfl _ rfl _ info33 ?_; rw [HW0.out]; intro w1 r1 b1 z1; have r01 := r0.below' b1; have q1 := hb0.trans (b1.mono hb0.size); clear z1)
      | (refine wpList_build0 rfl 88 rfl _ built_none ?_)
      | (refine wpList_storeRow rfl _ (.tmp 10) (.tmp 31) rfl r1 rfl rfl (by rw [pcs_len _ _ _ rfl rfl]; exact size33) rfl (pcs_all _ _ _) ?_; intro w5 r5 g5 z5; clear z5)
      | fail)
    exact bodyPost_ret (resultRowS rfl _ _ r5 rfl Tryd.underlying88 (by rw [pcs_len _ _ _ rfl rfl]; exact size33)) rfl (PairRes.of (q1.grown g5 q1.size (by intro j hj; have hj := Option.some.inj hj; have := HZ0.out; omega)))
  · have hne : ((m : Int) == (n : Int)) = false := by simp; omega
    go_enter Tryd.func53, Tryd.ntmps53
    go_wp2_with (first
      | (refine wpList_allocRow rfl _ rfl _ info33 ?_; rw [HW0.out]; intro w1 r1 b1 z1; have r01 := r0.below' b1; have q1 := hb0.trans (b1.mono hb0.size); clear z1)
      | (refine wpList_build0 rfl 88 rfl _ built_none ?_)
      | (refine wpList_storeRow rfl _ (.tmp 10) (.tmp 31) rfl r1 rfl rfl (by rw [pcs_len _ _ _ rfl rfl]; exact size33) rfl (pcs_all _ _ _) ?_; intro w5 r5 g5 z5; clear z5)
      | fail)
    exact bodyPost_ret (resultRowS rfl _ _ r5 rfl Tryd.underlying88 (by rw [pcs_len _ _ _ rfl rfl]; exact size33)) rfl (PairRes.of (q1.grown g5 q1.size (by intro j hj; have hj := Option.some.inj hj; have := HZ0.out; omega)))
set_option maxRecDepth 100000 in
set_option maxHeartbeats 1000000 in
theorem pair_end (old : List UInt8) (ho : old.length = 16) (n q c bp offp : Nat) (last : List UInt8) (hl : last.length = 16) (hqc : q + 1 ≤ c) (hq : q ≤ 1099511627776) (hcm : c ≤ 9223372036854775807) (w : World) (hrg : w.rangeAt bp (offp + q * 16) (bvs last)) (hbp : bp < w.heap.size) :
    Calls Tryd.prog 53 #[dv old, .int .i64 (n : Int), .int .i64 (n : Int), .bool false, .slice (some ⟨bp, offp, none⟩) (q + 1) c] w (PairRes ((last, last), decide (q = 0)) w) := by
  have r0 := IsRow.new w 30 (bvs old)
  have hb0 : Below w.heap.size w (w.alloc (.cells (bvs old).toArray 30)) := (Below.refl _ w).alloc (Nat.le_refl _) _
  have hz0 := alloc_size1 w (.cells (bvs old).toArray 30)
  obtain ⟨w0, hw0⟩ : ∃ w0, w.alloc (.cells (bvs old).toArray 30) = w0 := ⟨_, rfl⟩
  rw [hw0] at r0 hb0 hz0
  have HZ0 := Lib.hid hz0
  have HW0 := Lib.hid hw0
  have HO := Lib.hid ho
  clear hw0 hz0 ho
  have HX := Lib.hid hl
  clear hl
  by_cases h0 : q = 0
  · subst h0
    rw [decide_eq_true (Eq.refl 0)]
    go_enter Tryd.func53, Tryd.ntmps53
    go_wp2_with (first
      | (refine wpList_allocRow rfl _ rfl _ info33 ?_; rw [HW0.out]; intro w1 r1 b1 z1; have r01 := r0.below' b1; have q1 := hb0.trans (b1.mono hb0.size); clear z1)
      | (refine wpList_load_mid rfl _ (.tmp 36) rfl bp (offp + 0 * 16) rfl (bvs last) _ (fun j v hv => (q1.cell (p := ⟨bp, _, none⟩) hbp).trans (hrg j v hv)) Tryd.underlying30 rfl (by rw [bvs_len, HX.out]; exact size16) ?_)
      | (refine wpList_load_mid rfl _ (.tmp 36) rfl bp offp rfl (bvs last) _ (fun j v hv => (q1.cell (p := ⟨bp, _, none⟩) hbp).trans (by have := hrg j v hv; simpa using this)) Tryd.underlying30 rfl (by rw [bvs_len, HX.out]; exact size16) ?_)
      | (have tok := r1; refine wpList_allocRow rfl _ rfl _ info16 ?_; intro w2 r2 b2 z2; have q2 := q1.trans (b2.mono q1.size); have r12 := r1.below' b2; clear z2 tok)
      | (refine wpList_storeRow rfl _ (.tmp 11) (.tmp 37) rfl r2 rfl rfl (by rw [bvs_len, HX.out]; exact size16) (by rw [bvs_len, HX.out, List.length_replicate]) (bvs_all _) ?_; intro w3 r3 g3 z3; have r13 := r12.grown g3 (fun e => by have e := Option.some.inj e; have := r1.lt; omega); have q3 := q2.grown g3 q2.size (fun j hj => by have hj := Option.some.inj hj; have := q1.size; omega); clear z3)
      | (refine wpList_loadRow rfl _ (.tmp 11) rfl r3 rfl Tryd.underlying30 (by rw [bvs_len, HX.out]; exact size16) ?_)
      | (refine wpList_build3 rfl 88 (.tmp 46) (.tmp 47) (.tmp 50) rfl (dv last) (dv last) (.bool true) rfl rfl rfl _ (built_pair last last true HX.out HX.out) ?_)
      | (refine wpList_storeRow rfl _ (.tmp 10) (.tmp 51) rfl r13 rfl rfl (by rw [pcs_len _ _ _ HX.out HX.out]; exact size33) (by rw [pcs_len _ _ _ HX.out HX.out]; rfl) (pcs_all _ _ _) ?_; intro w5 r5 g5 z5; clear z5)
      | fail)
    exact bodyPost_ret (resultRowS rfl _ _ r5 rfl Tryd.underlying88 (by rw [pcs_len _ _ _ HX.out HX.out]; exact size33)) rfl (PairRes.of (q3.grown g5 q3.size (by intro j hj; have hj := Option.some.inj hj; have := HZ0.out; omega)))
  · have hne : ((q : Int) == 0) = false := by simp; omega
    have hne2 : (((q : Int) + 1) == 0) = false := by simp; omega
    have hdf : decide (q = 0) = false := decide_eq_false h0
    rw [hdf]
    clear hdf
    go_enter Tryd.func53, Tryd.ntmps53
    go_wp2_with (first
      | (refine wpList_allocRow rfl _ rfl _ info33 ?_; rw [HW0.out]; intro w1 r1 b1 z1; have r01 := r0.below' b1; have q1 := hb0.trans (b1.mono hb0.size); clear z1)
      | (refine wpList_load_mid rfl _ (.tmp 36) rfl bp (offp + q * 16) rfl (bvs last) _ (fun j v hv => (q1.cell (p := ⟨bp, _, none⟩) hbp).trans (hrg j v hv)) Tryd.underlying30 rfl (by rw [bvs_len, HX.out]; exact size16) ?_)
      | (have tok := r1; refine wpList_allocRow rfl _ rfl _ info16 ?_; intro w2 r2 b2 z2; have q2 := q1.trans (b2.mono q1.size); have r12 := r1.below' b2; clear z2 tok)
      | (refine wpList_storeRow rfl _ (.tmp 11) (.tmp 37) rfl r2 rfl rfl (by rw [bvs_len, HX.out]; exact size16) (by rw [bvs_len, HX.out, List.length_replicate]) (bvs_all _) ?_; intro w3 r3 g3 z3; have r13 := r12.grown g3 (fun e => by have e := Option.some.inj e; have := r1.lt; omega); have q3 := q2.grown g3 q2.size (fun j hj => by have hj := Option.some.inj hj; have := q1.size; omega); clear z3)
      | (refine wpList_loadRow rfl _ (.tmp 11) rfl r3 rfl Tryd.underlying30 (by rw [bvs_len, HX.out]; exact size16) ?_)
      | (refine wpList_build3 rfl 88 (.tmp 46) (.tmp 47) (.tmp 50) rfl (dv last) (dv last) (.bool false) rfl rfl rfl _ (built_pair last last false HX.out HX.out) ?_)
      | (refine wpList_storeRow rfl _ (.tmp 10) (.tmp 51) rfl r13 rfl rfl (by rw [pcs_len _ _ _ HX.out HX.out]; exact size33) (by rw [pcs_len _ _ _ HX.out HX.out]; rfl) (pcs_all _ _ _) ?_; intro w5 r5 g5 z5; clear z5)
      | fail)
    exact bodyPost_ret (resultRowS rfl _ _ r5 rfl Tryd.underlying88 (by rw [pcs_len _ _ _ HX.out HX.out]; exact size33)) rfl (PairRes.of (q3.grown g5 q3.size (by intro j hj; have hj := Option.some.inj hj; have := HZ0.out; omega)))
set_option maxRecDepth 100000 in
set_option maxHeartbeats 2000000 in
theorem pair_lo (old : List UInt8) (ho : old.length = 16) (m n q c bp offp : Nat) (b : Bool) (hm1 : 1 ≤ m) (hmn : m < n) (hn : n ≤ 9223372036854775807) (hi : m ≤ Mk.split n) (last : List UInt8) (hl : last.length = 16) (hqc : q + 1 ≤ c) (hq : q ≤ 1099511627776) (hcm : c ≤ 9223372036854775807) (w : World) (hrg : w.rangeAt bp (offp + q * 16) (bvs last)) (hbp : bp < w.heap.size) (hT : RTab w)
    (x y : List UInt8) (ok : Bool) (hx : x.length = 16) (hy : y.length = 16)
    (H1 : ∀ W, Below w.heap.size w W → Calls Tryd.prog 53 #[dv old, .int .i64 (m : Int), .int .i64 (Mk.split n : Int), .bool b, .slice (some ⟨bp, offp, none⟩) q c] W (PairRes ((x, y), ok) W)) :
    Calls Tryd.prog 53 #[dv old, .int .i64 (m : Int), .int .i64 (n : Int), .bool b, .slice (some ⟨bp, offp, none⟩) (q + 1) c] w (PairRes ((x, Mk.short (Mk.node y last)), ok) w) := by
  have r0 := IsRow.new w 30 (bvs old)
  have hb0 : Below w.heap.size w (w.alloc (.cells (bvs old).toArray 30)) := (Below.refl _ w).alloc (Nat.le_refl _) _
  have hz0 := alloc_size1 w (.cells (bvs old).toArray 30)
  obtain ⟨w0, hw0⟩ : ∃ w0, w.alloc (.cells (bvs old).toArray 30) = w0 := ⟨_, rfl⟩
  rw [hw0] at r0 hb0 hz0
  have HZ0 := Lib.hid hz0
  have HW0 := Lib.hid hw0
  have HO := Lib.hid ho
  clear hw0 hz0 ho
  have HX := Lib.hid hx
  have HY := Lib.hid hy
  have HLA := Lib.hid hl
  have HN2 := Lib.hid (fun (W : World) (h : Below w.heap.size w W) => refNode_any y last HY.out HLA.out W (hT.below h))
  have hs2 := Mk.short_len (Mk.node y last)
  generalize Mk.short (Mk.node y last) = s2 at *
  have HR1 := HX
  have HS2 := Lib.hid hs2
  have HR2 := HS2
  have hsp := refSplit_any n (by omega) (by omega)
  have hp1 := Mk.split_pos n
  have hp2 := Mk.split_lt (n := n) (by omega)
  generalize Mk.split n = sp at *
  have HSP := Lib.hid hsp
  have HH1 := Lib.hid H1
  have hne : ((m : Int) == (n : Int)) = false := by simp; omega
  have hne2 : (((q : Int) + 1) == 0) = false := by simp; omega
  have hmi : (m : Int) < (n : Int) := by omega
  have hbp0 := hbp
  clear hx hy hl hsp H1 hs2
  go_enter Tryd.func53, Tryd.ntmps53
  go_wp2_with (first
    | (refine wpList_allocRow rfl _ rfl _ info33 ?_; rw [HW0.out]; intro w1 r1 b1 z1; have r01 := r0.below' b1; have q1 := hb0.trans (b1.mono hb0.size); clear z1)
    | (refine wpList_load_mid rfl _ (.tmp 36) rfl bp (offp + q * 16) rfl (bvs last) _ (fun j v hv => (q1.cell (p := ⟨bp, _, none⟩) hbp).trans (hrg j v hv)) Tryd.underlying30 rfl (by rw [bvs_len, HLA.out]; exact size16) ?_)
    | (have tok := b4; refine wpList_allocRow rfl _ rfl _ info33 ?_; intro w5 r5 b5 z5; have q5 := q4.trans (b5.mono q4.size); obtain ⟨bq, hbqe⟩ : ∃ bq, w4.heap.size = bq := ⟨_, rfl⟩; rw [hbqe] at r5; rw [hbqe]; have HBQ := Lib.hid hbqe; have r15 := r14.below' b5; have rl5 := rl4.below' b5; clear z5 tok hbqe)
    | (have tok := r1; refine wpList_allocRow rfl _ rfl _ info16 ?_; intro w2 r2 b2 z2; have q2 := q1.trans (b2.mono q1.size); have r12 := r1.below' b2; have r02 := r01.below' b2; clear z2 tok)
    | (refine wpList_storeRow rfl _ (.tmp 11) (.tmp 37) rfl r2 rfl rfl (by rw [bvs_len, HLA.out]; exact size16) (by rw [bvs_len, HLA.out, List.length_replicate]) (bvs_all _) ?_; intro w3 rl3 g3 z3; have r13 := r12.grown g3 (fun e => by have e := Option.some.inj e; have := r1.lt; omega); have r03 := r02.grown g3 (fun e => by have e := Option.some.inj e; have := r01.lt; omega); have q3 := q2.grown g3 q2.size (fun j hj => by have hj := Option.some.inj hj; have := q1.size; omega); clear z3)
    | (go_at_call 42; refine (HSP.out _).mono ?_; rintro e w' ⟨rfl, rfl⟩)
    | (refine wpList_loadRow rfl _ (.tmp 5) rfl r03 rfl Tryd.underlying30 (by rw [bvs_len, HO.out]; exact size16) ?_)
    | (go_at_call 53; refine (HH1.out _ q3).mono ?_; rintro e w4 ⟨rfl, b4⟩; have q4 := q3.trans (b4.mono q3.size); have r14 := r13.below' b4; have rl4 := rl3.below' b4)
    | (refine wpList_storeRow rfl _ (.tmp 14) (.tmp 62) rfl r5 rfl rfl (by rw [pcs_len _ _ _ HX.out HY.out]; exact size33) (by rw [pcs_len _ _ _ HX.out HY.out]; rfl) (pcs_all _ _ _) ?_; intro wq rq gq zq; clear zq)
    | fail)
  have qq := q5.grown gq q5.size (fun j hj => by have hj := Option.some.inj hj; have := HBQ.out; have := q4.size; omega)
  have r1q := r15.grown gq (fun e => by have e := Option.some.inj e; have := HBQ.out; have := r14.lt; omega)
  have rlq := rl5.grown gq (fun e => by have e := Option.some.inj e; have := HBQ.out; have := rl4.lt; omega)
  obtain ⟨hx0, hy0, hok⟩ := pair_rows rq HX.out HY.out
  have hbq := rq.lt
  have hv0 : Below wq.heap.size wq wq.drew := (Below.refl _ _).drew
  refine wp_region_late (fun W => Below wq.heap.size wq W) [9] (by kernel_rfl) (hv0) (fun hHeld => ?_)
  refine wpAnyL_take (i := 0) (oi := { dst := some 63, op := Op.fieldAddr 88 (Operand.tmp 14) 0, type := 0, pos := "ref.go:229", after := #[], guard := none }) (v := ?v0_1) rfl (by kernel_rfl) (by kernel_rfl) (by kernel_rfl) (by kernel_rfl) (fun _ _ _ h => h) (Or.inl ⟨by rfl, ?h0_1⟩) (by assumption) ?r0_1
  case h0_1 =>
    intro W hSW
    try dsimp only at hSW
    go_simp
    try with_reducible rfl
  try simp only [Act.put, List.setIfInBounds_toArray, List.set_cons_zero, List.set_cons_succ]
  refine wpAnyL_take (i := 1) (oi := { dst := some 64, op := Op.load 30 (Operand.tmp 63), type := 30, pos := "ref.go:229", after := #[{ on := 0, ground := Ground.data }], guard := none }) (v := _) rfl (by kernel_rfl) (by kernel_rfl) (by kernel_rfl) (by kernel_rfl) (fun _ _ _ h => h) (yieldsIf_load_mid rfl _ (.tmp 63) rfl bq 0 rfl (bvs x) _ (fun W hW => fun j v hv => (hW.cell (p := ⟨bq, _, none⟩) hbq).trans (hx0 j v hv)) Tryd.underlying30 rfl (by rw [bvs_len, HX.out]; exact size16)) (by assumption) ?_
  try simp only [Act.put, List.setIfInBounds_toArray, List.set_cons_zero, List.set_cons_succ]
  refine wpAnyL_take (i := 2) (oi := { dst := some 65, op := Op.fieldAddr 88 (Operand.tmp 14) 1, type := 0, pos := "ref.go:229", after := #[], guard := none }) (v := ?v2_3) rfl (by kernel_rfl) (by kernel_rfl) (by kernel_rfl) (by kernel_rfl) (fun _ _ _ h => h) (Or.inl ⟨by rfl, ?h2_3⟩) (by assumption) ?r2_3
  case h2_3 =>
    intro W hSW
    try dsimp only at hSW
    go_simp
    try with_reducible rfl
  try simp only [Act.put, List.setIfInBounds_toArray, List.set_cons_zero, List.set_cons_succ]
  refine wpAnyL_take (i := 3) (oi := { dst := some 66, op := Op.load 30 (Operand.tmp 65), type := 30, pos := "ref.go:229", after := #[{ on := 2, ground := Ground.data }], guard := none }) (v := _) rfl (by kernel_rfl) (by kernel_rfl) (by kernel_rfl) (by kernel_rfl) (fun _ _ _ h => h) (yieldsIf_load_mid rfl _ (.tmp 65) rfl bq 16 rfl (bvs y) _ (fun W hW => fun j v hv => (hW.cell (p := ⟨bq, _, none⟩) hbq).trans (hy0 j v hv)) Tryd.underlying30 rfl (by rw [bvs_len, HY.out]; exact size16)) (by assumption) ?_
  try simp only [Act.put, List.setIfInBounds_toArray, List.set_cons_zero, List.set_cons_succ]
  refine wpAnyL_take (i := 4) (oi := { dst := some 67, op := Op.load 30 (Operand.tmp 11), type := 30, pos := "ref.go:229", after := #[], guard := none }) (v := _) rfl (by kernel_rfl) (by kernel_rfl) (by kernel_rfl) (by kernel_rfl) (fun _ _ _ h => h) (yi_row rfl _ (.tmp 11) rfl rfl (fun W hW => rlq.below' hW) Tryd.underlying30 (by rw [bvs_len, HLA.out]; exact size16)) (by assumption) ?_
  try simp only [Act.put, List.setIfInBounds_toArray, List.set_cons_zero, List.set_cons_succ]
  refine wpAnyL_take (i := 6) (oi := { dst := some 69, op := Op.fieldAddr 88 (Operand.tmp 14) 2, type := 0, pos := "ref.go:229", after := #[], guard := none }) (v := ?v6_6) rfl (by kernel_rfl) (by kernel_rfl) (by kernel_rfl) (by kernel_rfl) (fun _ _ _ h => h) (Or.inl ⟨by rfl, ?h6_6⟩) (by assumption) ?r6_6
  case h6_6 =>
    intro W hSW
    try dsimp only at hSW
    go_simp
    try with_reducible rfl
  try simp only [Act.put, List.setIfInBounds_toArray, List.set_cons_zero, List.set_cons_succ]
  refine wpAnyL_take (i := 7) (oi := { dst := some 70, op := Op.load 4 (Operand.tmp 69), type := 4, pos := "ref.go:229", after := #[{ on := 6, ground := Ground.data }], guard := none }) (v := ?v7_7) rfl (by kernel_rfl) (by kernel_rfl) (by kernel_rfl) (by kernel_rfl) (fun _ _ _ h => h) (Or.inl ⟨by rfl, ?h7_7⟩) (by assumption) ?r7_7
  case h7_7 =>
    intro W hSW
    try dsimp only at hSW
    have hcc := (hSW.cell (p := ⟨bq, 32, none⟩) hbq).trans hok
    go_simp
    try with_reducible rfl
  try simp only [Act.put, List.setIfInBounds_toArray, List.set_cons_zero, List.set_cons_succ]
  refine wpAnyL_ready (rs := [5]) (by kernel_rfl) (by simp) ?_
  refine AllReadyL.cons (o := { dst := some 68, op := Op.call { callee := Callee.value (Operand.func 48), args := #[Operand.tmp 66, Operand.tmp 67], argTypes := #[30, 30] }, type := 30, pos := "ref.go:229", after := #[{ on := 3, ground := Ground.data }, { on := 4, ground := Ground.data }], guard := none }) rfl (fun K hK => ?_) AllReadyL.nil
  go_simp
  refine (HN2.out _ (qq.trans (hv0.mono qq.size))).mono ?_
  rintro e w4 ⟨rfl, b4⟩
  have hv4 : Below wq.heap.size wq w4 := hv0.trans (b4.mono hv0.size)
  go_wp2_with fail
  refine hK.out _ _ (hv4) (fun hHeld => ?_)
  clear hK K
  try simp only [Act.put, List.setIfInBounds_toArray, List.set_cons_zero, List.set_cons_succ]
  refine wpAnyL_take (i := 8) (oi := { dst := some 71, op := Op.build 88 #[(0, Operand.tmp 64), (1, Operand.tmp 68), (2, Operand.tmp 70)], type := 88, pos := "ref.go:229", after := #[{ on := 1, ground := Ground.data }, { on := 5, ground := Ground.data }, { on := 7, ground := Ground.data }], guard := none }) (v := _) rfl (by kernel_rfl) (by kernel_rfl) (by kernel_rfl) (by kernel_rfl) (fun _ _ _ h => h) (y_build3 rfl 88 (.tmp 64) (.tmp 68) (.tmp 70) rfl (dv x) (dv s2) (.bool ok) rfl rfl rfl _ (built_pair x s2 ok HX.out HS2.out)) (by assumption) ?_
  try simp only [Act.put, List.setIfInBounds_toArray, List.set_cons_zero, List.set_cons_succ]
  refine wpAnyL_ready (rs := [9]) (by kernel_rfl) (by simp) ?_
  refine AllReadyL.late (o := { dst := none, op := Op.store 88 (Operand.tmp 10) (Operand.tmp 71), type := 0, pos := "ref.go:229", after := #[{ on := 8, ground := Ground.data }, { on := 5, ground := Ground.chain }, { on := 0, ground := Ground.phase }, { on := 1, ground := Ground.phase }, { on := 2, ground := Ground.phase }, { on := 3, ground := Ground.phase }, { on := 4, ground := Ground.phase }, { on := 5, ground := Ground.phase }, { on := 6, ground := Ground.phase }, { on := 7, ground := Ground.phase }, { on := 8, ground := Ground.phase }], guard := none }) rfl (by rfl) (fun K hK => ?_) AllReadyL.nil
  rw [if_pos (by rfl)]
  refine wp_storeRow _ (.tmp 10) (.tmp 71) rfl (r1q.below' hv4) rfl rfl (by rw [pcs_len _ _ _ HR1.out HR2.out]; exact size33) (by rw [pcs_len _ _ _ HR1.out HR2.out]; rfl) (pcs_all _ _ _) ?_
  intro w5 r5 g5 z5
  have hv5 := qq.trans (hv4.mono qq.size)
  clear z5
  refine hK.out _ _ ?_
  clear hK K
  try simp only [Act.put, List.setIfInBounds_toArray, List.set_cons_zero, List.set_cons_succ]
  refine wpAnyL_done (by kernel_rfl) ?_ _
  go_wp2_with fail
  exact bodyPost_ret (resultRowS rfl _ _ r5 rfl Tryd.underlying88 (by rw [pcs_len _ _ _ HX.out HS2.out]; exact size33)) rfl (PairRes.of (hv5.grown g5 hv5.size (by intro j hj; have hj := Option.some.inj hj; have := HZ0.out; omega)))
set_option maxRecDepth 100000 in
set_option maxHeartbeats 2000000 in
theorem pair_hi (old : List UInt8) (ho : old.length = 16) (m n q c bp offp : Nat) (b : Bool) (hm1 : 1 ≤ m) (hmn : m < n) (hn : n ≤ 9223372036854775807) (hi : ¬ m ≤ Mk.split n) (last : List UInt8) (hl : last.length = 16) (hqc : q + 1 ≤ c) (hq : q ≤ 1099511627776) (hcm : c ≤ 9223372036854775807) (w : World) (hrg : w.rangeAt bp (offp + q * 16) (bvs last)) (hbp : bp < w.heap.size) (hT : RTab w)
    (x y : List UInt8) (ok : Bool) (hx : x.length = 16) (hy : y.length = 16)
    (H1 : ∀ W, Below w.heap.size w W → Calls Tryd.prog 53 #[dv old, .int .i64 ((m : Int) - (Mk.split n : Int)), .int .i64 ((n : Int) - (Mk.split n : Int)), .bool false, .slice (some ⟨bp, offp, none⟩) q c] W (PairRes ((x, y), ok) W)) :
    Calls Tryd.prog 53 #[dv old, .int .i64 (m : Int), .int .i64 (n : Int), .bool b, .slice (some ⟨bp, offp, none⟩) (q + 1) c] w (PairRes ((Mk.short (Mk.node last x), Mk.short (Mk.node last y)), ok) w) := by
  have r0 := IsRow.new w 30 (bvs old)
  have hb0 : Below w.heap.size w (w.alloc (.cells (bvs old).toArray 30)) := (Below.refl _ w).alloc (Nat.le_refl _) _
  have hz0 := alloc_size1 w (.cells (bvs old).toArray 30)
  obtain ⟨w0, hw0⟩ : ∃ w0, w.alloc (.cells (bvs old).toArray 30) = w0 := ⟨_, rfl⟩
  rw [hw0] at r0 hb0 hz0
  have HZ0 := Lib.hid hz0
  have HW0 := Lib.hid hw0
  have HO := Lib.hid ho
  clear hw0 hz0 ho
  have HX := Lib.hid hx
  have HY := Lib.hid hy
  have HLA := Lib.hid hl
  have HN1 := Lib.hid (fun (W : World) (h : Below w.heap.size w W) => refNode_any last x HLA.out HX.out W (hT.below h))
  have HN2 := Lib.hid (fun (W : World) (h : Below w.heap.size w W) => refNode_any last y HLA.out HY.out W (hT.below h))
  have hs1 := Mk.short_len (Mk.node last x)
  have hs2 := Mk.short_len (Mk.node last y)
  generalize Mk.short (Mk.node last x) = s1 at *
  generalize Mk.short (Mk.node last y) = s2 at *
  have HS1 := Lib.hid hs1
  have HR1 := HS1
  have HS2 := Lib.hid hs2
  have HR2 := HS2
  have hsp := refSplit_any n (by omega) (by omega)
  have hp1 := Mk.split_pos n
  have hp2 := Mk.split_lt (n := n) (by omega)
  generalize Mk.split n = sp at *
  have HSP := Lib.hid hsp
  have HH1 := Lib.hid H1
  have hne : ((m : Int) == (n : Int)) = false := by simp; omega
  have hne2 : (((q : Int) + 1) == 0) = false := by simp; omega
  have hmi : (m : Int) < (n : Int) := by omega
  have hbp0 := hbp
  clear hx hy hl hsp H1 hs2 hs1
  go_enter Tryd.func53, Tryd.ntmps53
  go_wp2_with (first
    | (refine wpList_allocRow rfl _ rfl _ info33 ?_; rw [HW0.out]; intro w1 r1 b1 z1; have r01 := r0.below' b1; have q1 := hb0.trans (b1.mono hb0.size); clear z1)
    | (refine wpList_load_mid rfl _ (.tmp 36) rfl bp (offp + q * 16) rfl (bvs last) _ (fun j v hv => (q1.cell (p := ⟨bp, _, none⟩) hbp).trans (hrg j v hv)) Tryd.underlying30 rfl (by rw [bvs_len, HLA.out]; exact size16) ?_)
    | (have tok := b4; refine wpList_allocRow rfl _ rfl _ info33 ?_; intro w5 r5 b5 z5; have q5 := q4.trans (b5.mono q4.size); obtain ⟨bq, hbqe⟩ : ∃ bq, w4.heap.size = bq := ⟨_, rfl⟩; rw [hbqe] at r5; rw [hbqe]; have HBQ := Lib.hid hbqe; have r15 := r14.below' b5; have rl5 := rl4.below' b5; clear z5 tok hbqe)
    | (have tok := r1; refine wpList_allocRow rfl _ rfl _ info16 ?_; intro w2 r2 b2 z2; have q2 := q1.trans (b2.mono q1.size); have r12 := r1.below' b2; have r02 := r01.below' b2; clear z2 tok)
    | (refine wpList_storeRow rfl _ (.tmp 11) (.tmp 37) rfl r2 rfl rfl (by rw [bvs_len, HLA.out]; exact size16) (by rw [bvs_len, HLA.out, List.length_replicate]) (bvs_all _) ?_; intro w3 rl3 g3 z3; have r13 := r12.grown g3 (fun e => by have e := Option.some.inj e; have := r1.lt; omega); have r03 := r02.grown g3 (fun e => by have e := Option.some.inj e; have := r01.lt; omega); have q3 := q2.grown g3 q2.size (fun j hj => by have hj := Option.some.inj hj; have := q1.size; omega); clear z3)
    | (go_at_call 42; refine (HSP.out _).mono ?_; rintro e w' ⟨rfl, rfl⟩)
    | (refine wpList_loadRow rfl _ (.tmp 5) rfl r03 rfl Tryd.underlying30 (by rw [bvs_len, HO.out]; exact size16) ?_)
    | (go_at_call 53; refine (HH1.out _ q3).mono ?_; rintro e w4 ⟨rfl, b4⟩; have q4 := q3.trans (b4.mono q3.size); have r14 := r13.below' b4; have rl4 := rl3.below' b4)
    | (refine wpList_storeRow rfl _ (.tmp 15) (.tmp 80) rfl r5 rfl rfl (by rw [pcs_len _ _ _ HX.out HY.out]; exact size33) (by rw [pcs_len _ _ _ HX.out HY.out]; rfl) (pcs_all _ _ _) ?_; intro wq rq gq zq; clear zq)
    | fail)
  have qq := q5.grown gq q5.size (fun j hj => by have hj := Option.some.inj hj; have := HBQ.out; have := q4.size; omega)
  have r1q := r15.grown gq (fun e => by have e := Option.some.inj e; have := HBQ.out; have := r14.lt; omega)
  have rlq := rl5.grown gq (fun e => by have e := Option.some.inj e; have := HBQ.out; have := rl4.lt; omega)
  obtain ⟨hx0, hy0, hok⟩ := pair_rows rq HX.out HY.out
  have hbq := rq.lt
  have hv0 : Below wq.heap.size wq wq.drew := (Below.refl _ _).drew
  refine wp_region_late (fun W => Below wq.heap.size wq W) [11] (by kernel_rfl) (hv0) (fun hHeld => ?_)
  refine wpAnyL_take (i := 0) (oi := { dst := some 81, op := Op.load 30 (Operand.tmp 11), type := 30, pos := "ref.go:232", after := #[], guard := none }) (v := _) rfl (by kernel_rfl) (by kernel_rfl) (by kernel_rfl) (by kernel_rfl) (fun _ _ _ h => h) (yi_row rfl _ (.tmp 11) rfl rfl (fun W hW => rlq.below' hW) Tryd.underlying30 (by rw [bvs_len, HLA.out]; exact size16)) (by assumption) ?_
  try simp only [Act.put, List.setIfInBounds_toArray, List.set_cons_zero, List.set_cons_succ]
  refine wpAnyL_take (i := 1) (oi := { dst := some 82, op := Op.fieldAddr 88 (Operand.tmp 15) 0, type := 0, pos := "ref.go:232", after := #[], guard := none }) (v := ?v1_2) rfl (by kernel_rfl) (by kernel_rfl) (by kernel_rfl) (by kernel_rfl) (fun _ _ _ h => h) (Or.inl ⟨by rfl, ?h1_2⟩) (by assumption) ?r1_2
  case h1_2 =>
    intro W hSW
    try dsimp only at hSW
    go_simp
    try with_reducible rfl
  try simp only [Act.put, List.setIfInBounds_toArray, List.set_cons_zero, List.set_cons_succ]
  refine wpAnyL_take (i := 2) (oi := { dst := some 83, op := Op.load 30 (Operand.tmp 82), type := 30, pos := "ref.go:232", after := #[{ on := 1, ground := Ground.data }], guard := none }) (v := _) rfl (by kernel_rfl) (by kernel_rfl) (by kernel_rfl) (by kernel_rfl) (fun _ _ _ h => h) (yieldsIf_load_mid rfl _ (.tmp 82) rfl bq 0 rfl (bvs x) _ (fun W hW => fun j v hv => (hW.cell (p := ⟨bq, _, none⟩) hbq).trans (hx0 j v hv)) Tryd.underlying30 rfl (by rw [bvs_len, HX.out]; exact size16)) (by assumption) ?_
  try simp only [Act.put, List.setIfInBounds_toArray, List.set_cons_zero, List.set_cons_succ]
  refine wpAnyL_take (i := 4) (oi := { dst := some 85, op := Op.load 30 (Operand.tmp 11), type := 30, pos := "ref.go:232", after := #[], guard := none }) (v := _) rfl (by kernel_rfl) (by kernel_rfl) (by kernel_rfl) (by kernel_rfl) (fun _ _ _ h => h) (yi_row rfl _ (.tmp 11) rfl rfl (fun W hW => rlq.below' hW) Tryd.underlying30 (by rw [bvs_len, HLA.out]; exact size16)) (by assumption) ?_
  try simp only [Act.put, List.setIfInBounds_toArray, List.set_cons_zero, List.set_cons_succ]
  refine wpAnyL_take (i := 5) (oi := { dst := some 86, op := Op.fieldAddr 88 (Operand.tmp 15) 1, type := 0, pos := "ref.go:232", after := #[], guard := none }) (v := ?v5_5) rfl (by kernel_rfl) (by kernel_rfl) (by kernel_rfl) (by kernel_rfl) (fun _ _ _ h => h) (Or.inl ⟨by rfl, ?h5_5⟩) (by assumption) ?r5_5
  case h5_5 =>
    intro W hSW
    try dsimp only at hSW
    go_simp
    try with_reducible rfl
  try simp only [Act.put, List.setIfInBounds_toArray, List.set_cons_zero, List.set_cons_succ]
  refine wpAnyL_take (i := 6) (oi := { dst := some 87, op := Op.load 30 (Operand.tmp 86), type := 30, pos := "ref.go:232", after := #[{ on := 5, ground := Ground.data }], guard := none }) (v := _) rfl (by kernel_rfl) (by kernel_rfl) (by kernel_rfl) (by kernel_rfl) (fun _ _ _ h => h) (yieldsIf_load_mid rfl _ (.tmp 86) rfl bq 16 rfl (bvs y) _ (fun W hW => fun j v hv => (hW.cell (p := ⟨bq, _, none⟩) hbq).trans (hy0 j v hv)) Tryd.underlying30 rfl (by rw [bvs_len, HY.out]; exact size16)) (by assumption) ?_
  try simp only [Act.put, List.setIfInBounds_toArray, List.set_cons_zero, List.set_cons_succ]
  refine wpAnyL_take (i := 8) (oi := { dst := some 89, op := Op.fieldAddr 88 (Operand.tmp 15) 2, type := 0, pos := "ref.go:232", after := #[], guard := none }) (v := ?v8_7) rfl (by kernel_rfl) (by kernel_rfl) (by kernel_rfl) (by kernel_rfl) (fun _ _ _ h => h) (Or.inl ⟨by rfl, ?h8_7⟩) (by assumption) ?r8_7
  case h8_7 =>
    intro W hSW
    try dsimp only at hSW
    go_simp
    try with_reducible rfl
  try simp only [Act.put, List.setIfInBounds_toArray, List.set_cons_zero, List.set_cons_succ]
  refine wpAnyL_take (i := 9) (oi := { dst := some 90, op := Op.load 4 (Operand.tmp 89), type := 4, pos := "ref.go:232", after := #[{ on := 8, ground := Ground.data }], guard := none }) (v := ?v9_8) rfl (by kernel_rfl) (by kernel_rfl) (by kernel_rfl) (by kernel_rfl) (fun _ _ _ h => h) (Or.inl ⟨by rfl, ?h9_8⟩) (by assumption) ?r9_8
  case h9_8 =>
    intro W hSW
    try dsimp only at hSW
    have hcc := (hSW.cell (p := ⟨bq, 32, none⟩) hbq).trans hok
    go_simp
    try with_reducible rfl
  try simp only [Act.put, List.setIfInBounds_toArray, List.set_cons_zero, List.set_cons_succ]
  refine wpAnyL_ready (rs := [3]) (by kernel_rfl) (by simp) ?_
  refine AllReadyL.cons (o := { dst := some 84, op := Op.call { callee := Callee.value (Operand.func 48), args := #[Operand.tmp 81, Operand.tmp 83], argTypes := #[30, 30] }, type := 30, pos := "ref.go:232", after := #[{ on := 0, ground := Ground.data }, { on := 2, ground := Ground.data }], guard := none }) rfl (fun K hK => ?_) AllReadyL.nil
  go_simp
  refine (HN1.out _ (qq.trans (hv0.mono qq.size))).mono ?_
  rintro e w4 ⟨rfl, b4⟩
  have hv4 : Below wq.heap.size wq w4 := hv0.trans (b4.mono hv0.size)
  go_wp2_with fail
  refine hK.out _ _ (hv4) (fun hHeld => ?_)
  clear hK K
  try simp only [Act.put, List.setIfInBounds_toArray, List.set_cons_zero, List.set_cons_succ]
  refine wpAnyL_ready (rs := [7]) (by kernel_rfl) (by simp) ?_
  refine AllReadyL.cons (o := { dst := some 88, op := Op.call { callee := Callee.value (Operand.func 48), args := #[Operand.tmp 85, Operand.tmp 87], argTypes := #[30, 30] }, type := 30, pos := "ref.go:232", after := #[{ on := 4, ground := Ground.data }, { on := 6, ground := Ground.data }, { on := 3, ground := Ground.chain }], guard := none }) rfl (fun K hK => ?_) AllReadyL.nil
  go_simp
  refine (HN2.out _ (qq.trans (hv4.mono qq.size))).mono ?_
  rintro e w5 ⟨rfl, b5⟩
  have hv5 : Below wq.heap.size wq w5 := hv4.trans (b5.mono hv4.size)
  go_wp2_with fail
  refine hK.out _ _ (hv5) (fun hHeld => ?_)
  clear hK K
  try simp only [Act.put, List.setIfInBounds_toArray, List.set_cons_zero, List.set_cons_succ]
  refine wpAnyL_take (i := 10) (oi := { dst := some 91, op := Op.build 88 #[(0, Operand.tmp 84), (1, Operand.tmp 88), (2, Operand.tmp 90)], type := 88, pos := "ref.go:232", after := #[{ on := 3, ground := Ground.data }, { on := 7, ground := Ground.data }, { on := 9, ground := Ground.data }], guard := none }) (v := _) rfl (by kernel_rfl) (by kernel_rfl) (by kernel_rfl) (by kernel_rfl) (fun _ _ _ h => h) (y_build3 rfl 88 (.tmp 84) (.tmp 88) (.tmp 90) rfl (dv s1) (dv s2) (.bool ok) rfl rfl rfl _ (built_pair s1 s2 ok HS1.out HS2.out)) (by assumption) ?_
  try simp only [Act.put, List.setIfInBounds_toArray, List.set_cons_zero, List.set_cons_succ]
  refine wpAnyL_ready (rs := [11]) (by kernel_rfl) (by simp) ?_
  refine AllReadyL.late (o := { dst := none, op := Op.store 88 (Operand.tmp 10) (Operand.tmp 91), type := 0, pos := "ref.go:232", after := #[{ on := 10, ground := Ground.data }, { on := 7, ground := Ground.chain }, { on := 0, ground := Ground.phase }, { on := 1, ground := Ground.phase }, { on := 2, ground := Ground.phase }, { on := 3, ground := Ground.phase }, { on := 4, ground := Ground.phase }, { on := 5, ground := Ground.phase }, { on := 6, ground := Ground.phase }, { on := 7, ground := Ground.phase }, { on := 8, ground := Ground.phase }, { on := 9, ground := Ground.phase }, { on := 10, ground := Ground.phase }], guard := none }) rfl (by rfl) (fun K hK => ?_) AllReadyL.nil
  rw [if_pos (by rfl)]
  refine wp_storeRow _ (.tmp 10) (.tmp 91) rfl (r1q.below' hv5) rfl rfl (by rw [pcs_len _ _ _ HR1.out HR2.out]; exact size33) (by rw [pcs_len _ _ _ HR1.out HR2.out]; rfl) (pcs_all _ _ _) ?_
  intro w6 r6 g6 z6
  have hv6 := qq.trans (hv5.mono qq.size)
  clear z6
  refine hK.out _ _ ?_
  clear hK K
  try simp only [Act.put, List.setIfInBounds_toArray, List.set_cons_zero, List.set_cons_succ]
  refine wpAnyL_done (by kernel_rfl) ?_ _
  go_wp2_with fail
  exact bodyPost_ret (resultRowS rfl _ _ r6 rfl Tryd.underlying88 (by rw [pcs_len _ _ _ HS1.out HS2.out]; exact size33)) rfl (PairRes.of (hv6.grown g6 hv6.size (by intro j hj; have hj := Option.some.inj hj; have := HZ0.out; omega)))
end Go.Proofs.YtfnbcchmembomaaDoor
