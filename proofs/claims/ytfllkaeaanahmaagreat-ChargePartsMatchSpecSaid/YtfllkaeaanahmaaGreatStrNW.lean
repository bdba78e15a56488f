/- Joined texts: StrIns, StrK, StrZ, StrNW. Conditions: as each part says. -/
import Derived.Test.YtfllkaeaanahmaaGreatStrD
import Derived.Laws.CopyRow
import Derived.Lib.AppendZerosOnto
import Derived.Lib.Overlaps
import Derived.Shelf.Spec.SlicesInsert
import Derived.Deep.RegionLaw
import Derived.Test.YtfllkaeaanahmaaGreatHeld2
import Derived.Shelf.Bits.Mul64
namespace Go.Proofs.YtfllkaeaanahmaaGreat
set_option linter.unusedVariables false
set_option linter.unusedSimpArgs false
section
namespace S
open Go.RowKit
section
open Go.RowKit
theorem run_copy_rowK {P : Program} (w : World) (dT sT ty elem : TypeId) (g o dLen dCap : Nat) (a : Addr) (sLen sCap : Nat) (cur : Array Value) (t : TypeId) (cs : List Value) (sz n : Nat)
  (hu : P.underlying dT = some (.slice elem)) (hs : (P.info? elem).map (·.size) = some sz) (hn : n = Nat.min sLen dLen) (hl : cs.length = n * sz)
  (hg : w.heap[g]? = some (.cells cur t (0, 0)))
  (hsrc : ∀ j v, cs[j]? = some v → w.cell? (a.add j) = some v) (hfit : o + cs.length ≤ cur.size) (h1 : ∀ v ∈ cs, v.oneCell' = true) :
  (Builtin.copy_ #[dT, sT] ty #[.slice (some ⟨g, o, none⟩) dLen dCap, .slice (some a) sLen sCap]).run P w =
   .ok (goInt n) (w.setRow g (cur.toList.take o ++ cs ++ cur.toList.drop (o + cs.length)).toArray) := by
 have hf := run_firstCells_some (P := P) w sz n a sLen sCap cs hl hsrc
 have hst := run_storeCells_at P g o t cs 0 cur w hg (by simpa using hfit) h1
 cases hq : P.info? elem with
 | none => simp [hq] at hs
 | some i =>
  have hi : i.size = sz := by simpa [hq] using hs
  have hf2 : (Builtin.firstCells sz n (.slice (some a) sLen sCap)).run P w = .ok cs.toArray w := hf
  simp [Builtin.copy_, run_underlying hu, Builtin.lenOf, sizeOf, typeInfo, hq, hi, ← hn, hf2, hst]
def putAt (sz : Nat) (xs vs : List Value) (i : Nat) : List Value := xs.take (i * sz) ++ vs ++ xs.drop (i * sz)
theorem putAt_len {sz n i : Nat} {xs vs : List Value} (hx : xs.length = n * sz) (hv : vs.length = sz) (hi : i ≤ n) : (putAt sz xs vs i).length = (n + 1) * sz := by
 unfold putAt
 have := Nat.mul_le_mul_right sz hi
 rw [List.length_append, List.length_append, List.length_take, List.length_drop, hv, hx, Nat.add_mul]
 omega
theorem shift_list {X xs vs : List Value} {a s N : Nat} (hx : X.take N = xs) (hN : N + s ≤ X.length) (ha : a ≤ N) (hv : vs.length = s) :
  let Y := X.take (a + s) ++ xs.drop a ++ X.drop (a + s + (xs.drop a).length)
  (Y.take a ++ vs ++ Y.drop (a + vs.length)).take (N + s) = xs.take a ++ vs ++ xs.drop a ∧ Y.length = X.length ∧ (Y.take a ++ vs ++ Y.drop (a + vs.length)).length = X.length := by
 have hxl : xs.length = N := by rw [← hx, List.length_take]; omega
 have hd : (xs.drop a).length = N - a := by rw [List.length_drop, hxl]
 intro Y
 have h1 : (X.take (a + s)).length = a + s := by rw [List.length_take]; omega
 have hY1 : Y.take a = xs.take a := by
  show (X.take (a + s) ++ xs.drop a ++ _).take a = _
  rw [List.append_assoc, List.take_append_of_le_length (by omega), List.take_take, Nat.min_eq_left (by omega), ← hx, List.take_take, Nat.min_eq_left ha]
 have hY2 : Y.drop (a + vs.length) = xs.drop a ++ X.drop (a + s + (xs.drop a).length) := by
  show (X.take (a + s) ++ xs.drop a ++ _).drop _ = _
  rw [hv, List.append_assoc, List.drop_append_of_le_length (by omega), List.drop_of_length_le (by omega), List.nil_append]
 have hYl : Y.length = X.length := by
  show (X.take (a + s) ++ xs.drop a ++ X.drop (a + s + (xs.drop a).length)).length = _
  simp only [List.length_append, h1, hd, List.length_drop]; omega
 have ht : (xs.take a).length = a := by rw [List.length_take, hxl]; omega
 refine ⟨?_, hYl, ?_⟩
 ·
  rw [hY1, hY2, ← List.append_assoc]
  rw [List.take_append_of_le_length (by simp only [List.length_append, ht, hv, hd]; omega), List.take_of_length_le (by simp only [List.length_append, ht, hv, hd]; omega)]
 ·
  rw [hY1, hY2]
  simp only [List.length_append, ht, hv, hd, List.length_drop]; omega
theorem grow_list {R xs vs Z : List Value} {a s N : Nat} (hR : R = xs.take a ++ Z) (hxl : xs.length = N) (ha : a ≤ N) (hv : vs.length = s) (hl : N + s ≤ R.length) :
  let Y := R.take a ++ vs ++ R.drop (a + vs.length)
  (Y.take (a + s) ++ xs.drop a ++ Y.drop (a + s + (xs.drop a).length)).take (N + s) = xs.take a ++ vs ++ xs.drop a ∧ Y.length = R.length ∧ (Y.take (a + s) ++ xs.drop a ++ Y.drop (a + s + (xs.drop a).length)).length = R.length := by
 have hd : (xs.drop a).length = N - a := by rw [List.length_drop, hxl]
 have ht : (xs.take a).length = a := by rw [List.length_take, hxl]; omega
 intro Y
 have hYl : Y.length = R.length := by
  show (R.take a ++ vs ++ R.drop (a + vs.length)).length = _
  simp only [List.length_append, List.length_take, List.length_drop, hv]; omega
 have hY1 : Y.take (a + s) = xs.take a ++ vs := by
  show (R.take a ++ vs ++ R.drop (a + vs.length)).take (a + s) = _
  have h1 : (R.take a ++ vs).length = a + s := by simp only [List.length_append, List.length_take, hv]; omega
  rw [List.take_append_of_le_length (by omega), List.take_of_length_le (by omega), hR, List.take_append_of_le_length (by omega), List.take_of_length_le (by omega)]
 refine ⟨?_, hYl, ?_⟩
 ·
  rw [hY1, List.take_append_of_le_length (by simp only [List.length_append, ht, hv, hd]; omega), List.take_of_length_le (by simp only [List.length_append, ht, hv, hd]; omega)]
 ·
  rw [hY1]
  simp only [List.length_append, ht, hv, hd, List.length_drop, hYl]; omega
theorem run_cutHi {P : Program} (w : World) {t e : TypeId} {z : Value} {size bytes : Nat} (E : ElemT P t e z size bytes) (g n c h : Nat) (kh : IntKind) (hh : h ≤ c) (hc : 0 < c) :
  (Instr.sliceAt t (.slice (some ⟨g, 0, none⟩) n c) none (some (.int kh h)) none).run P w = .ok (.slice (some ⟨g, 0, none⟩) h c) w := by
 obtain ⟨i, hi, hz, hsize, hby⟩ := info_parts E.info
 simp [Instr.sliceAt, run_underlying E.sl, Instr.slice, Instr.sliceBounds, run_sliceBound, hh, sizeOf, typeInfo, hi, hsize, Addr.add_lit]
def InsResUs (A : Option Addr) (n : Nat) (xs : List Value) (w : World) (e : Ending) (w' : World) : Prop :=
 ∃ A' c', e = .returned (.slice A' (n + 1) c') ∧ w'.ownsRow 0 72 3 (.slice A' (n + 1) c') (n + 1) xs ∧ w.grownBy w' (Value.slice A 0 0).ownBlock ∧ (A' = A ∨ ∃ a, A' = some a ∧ w.heap.size ≤ a.block)
end
end S
end
section
namespace S
open Go.RowKit
theorem rowsT : ElemT Tryz.prog 25 102 (.agg #[.int .i64 0, .int .i64 0, .slice none 0 0]) 3 40 := ⟨Tryz.underlying25, by kernel_rfl, by kernel_rfl, by decide, by decide⟩
theorem own_set {w : World} {base n c size g j : Nat} {e : TypeId} {xs : List Value} (h : w.ownsRow base e size (.slice (some ⟨g, 0, none⟩) n c) n xs) (hj : j < xs.length) (v : Value) :
  (w.setCell ⟨g, j, none⟩ v).ownsRow base e size (.slice (some ⟨g, 0, none⟩) n c) n (xs.set j v) := by
 refine ⟨by rw [List.length_set]; exact h.1, ?_⟩
 rcases h.2 with ⟨h0, _⟩ | ⟨g', cap, cur, he, hb, hh, h1, h2, h3, h4⟩
 ·
  cases h0
 ·
  injection he with he1 _ he3
  obtain rfl : g = g' := congrArg Addr.block (Option.some.inj he1)
  subst he3
  refine .inr ⟨g, c, cur.setIfInBounds j v, rfl, hb, ?_, h1, h2, by simpa using h3, ?_⟩
  ·
   unfold World.setCell
   simp only [Array.getElem?_modify, if_true, hh, Option.map_some]
   simp
  ·
   rw [Array.toList_setIfInBounds, ← h4, List.take_set]
theorem flat_set {α : Type} {f : α → List Value} {sz : Nat} : ∀ {D : List α}, (∀ d ∈ D, (f d).length = sz) → ∀ {k j : Nat} {x y : α} {v : Value}, D[k]? = some x → j < sz → f y = (f x).set j v → (D.flatMap f).set (k * sz + j) v = (D.set k y).flatMap f
 | [], _, k, j, x, y, v, hk, _, _ => by simp at hk
 | d :: D, hf, 0, j, x, y, v, hk, hj, hy => by
  have : d = x := by simpa using hk
  subst this
  have hd := hf d (List.mem_cons_self ..)
  rw [Nat.zero_mul, Nat.zero_add, List.flatMap_cons, List.set_cons_zero, List.flatMap_cons, hy, List.set_append_left _ _ (by omega)]
 | d :: D, hf, k + 1, j, x, y, v, hk, hj, hy => by
  have hd := hf d (List.mem_cons_self ..)
  have ih := flat_set (fun e he => hf e (List.mem_cons_of_mem _ he)) (by simpa using hk) hj hy
  rw [List.flatMap_cons, List.set_cons_succ, List.flatMap_cons, Nat.succ_mul, List.set_append_right _ _ (by omega), hd, show k * sz + sz + j - sz = k * sz + j by omega, ih]
theorem own_apart {w : World} {b1 b2 s1 s2 n1 n2 : Nat} {e1 e2 : TypeId} {v1 v2 : Value} {x1 x2 : List Value} (h1 : w.ownsRow b1 e1 s1 v1 n1 x1) (h2 : w.ownsRow b2 e2 s2 v2 n2 x2) (he : e1 ≠ e2) {g : Nat} (hg : v1.ownBlock = some g) : v2.ownBlock ≠ some g := by
 intro h
 rcases h1.2 with ⟨rfl, _⟩ | ⟨g1, _, c1, rfl, _, hh1, _⟩
 ·
  cases hg
 ·
  rcases h2.2 with ⟨rfl, _⟩ | ⟨g2, _, c2, rfl, _, hh2, _⟩
  ·
   cases h
  ·
   obtain rfl : g1 = g := by simpa [Value.ownBlock] using hg
   obtain rfl : g2 = g1 := by simpa [Value.ownBlock] using h
   rw [hh1] at hh2
   have := Option.some.inj hh2
   injection this with _ ht
   exact he ht
theorem own_setOther {w : World} {base size n : Nat} {e : TypeId} {v : Value} {xs : List Value} (h : w.ownsRow base e size v n xs) {g : Nat} (hg : v.ownBlock ≠ some g) (o : Nat) (u : Value) : (w.setCell ⟨g, o, none⟩ u).ownsRow base e size v n xs := by
 refine ⟨h.1, ?_⟩
 rcases h.2 with h0 | ⟨g1, cap, cur, rfl, hb, hh, r⟩
 ·
  exact .inl h0
 ·
  exact .inr ⟨g1, cap, cur, rfl, hb, (Below.heap_setCell _ _ _ g1 (fun e => hg (congrArg some e))).trans hh, r⟩
def RR.Apart (x y : RR) : Prop := ∀ a b, x.A = some a → y.A = some b → a.block ≠ b.block
def UsOwn (w : World) (base : Nat) (x : RR) : Prop := w.ownsRow base 72 3 x.v x.r.used.length (x.r.used.flatMap usL)
structure OwnRows (w : World) (base : Nat) (A : Option Addr) (n c : Nat) (D : List RR) (l : List Str.Rw) : Prop where
 own : w.ownsRow base 102 3 (.slice A n c) n (D.flatMap rwL)
 rs : D.map RR.r = l
 us : ∀ x ∈ D, UsOwn w base x
 sep : D.Pairwise RR.Apart
 mx : n ≤ 65536
 mu : ∀ x ∈ D, x.r.used.length ≤ 65536
theorem OwnRows.rows {w : World} {base n c : Nat} {A : Option Addr} {D : List RR} {l : List Str.Rw} (h : OwnRows w base A n c D l) : RowsAt w w.heap.size A n D l :=
 ⟨Rd.of_own h.own, h.rs, fun x hx => ⟨Rd.of_own (h.us x hx), (own_cap (h.us x hx)).1, h.mu x hx⟩, h.mx⟩
structure CpSt (w0 : World) (A : Option Addr) (n c : Nat) (D : List RR) (j : Nat) (E : List RR) (w : World) : Prop where
 len : E.length = j
 rs : E.map RR.r = (D.take j).map RR.r
 own : w.ownsRow w0.heap.size 102 3 (.slice A n c) n ((E ++ D.drop j).flatMap rwL)
 us : ∀ x ∈ E, UsOwn w w0.heap.size x
 sep : E.Pairwise RR.Apart
 bel : Below w0.heap.size w0 w
section
variable {w0 w w1 : World} {A : Option Addr} {n c j : Nat} {D E : List RR} {x : RR}
theorem CpSt.at (h : CpSt w0 A n c D j E w) (hx : D[j]? = some x) (hj : j < n) : ∃ g, A = some ⟨g, 0, none⟩ ∧ (E ++ D.drop j)[j]? = some x ∧ (∀ W : World, Below w.heap.size w W → W.cell? ⟨g, j * 3 + 2, none⟩ = some x.v ∧ W.frozen? ⟨g, j * 3 + 2, none⟩ = false) := by
 have hxE : (E ++ D.drop j)[j]? = some x := by
  rw [List.getElem?_append_right (by rw [h.len]; exact Nat.le_refl _), h.len, Nat.sub_self, List.getElem?_drop, Nat.add_zero]; exact hx
 obtain ⟨g, cap, hv, hg, hlt⟩ := h.own.form (by omega)
 have hA : A = some ⟨g, 0, none⟩ := by injection hv
 refine ⟨g, hA, hxE, fun W hW => ?_⟩
 have ho := own_below h.own hW
 subst hA
 have hc := ho.cells (g := g) rfl (j * 3 + 2) x.v (by
  rw [flatMap_get? (f := rwL) (fun x _ => rwL_len x) (by have := (List.getElem?_eq_some_iff.1 hxE).1; exact this) (by decide : 2 < 3)]
  obtain ⟨h1, h2⟩ := List.getElem?_eq_some_iff.1 hxE
  rw [h2]; rfl)
 rw [Addr.add_lit, Nat.zero_add] at hc
 refine ⟨hc, ?_⟩
 rcases ho.2 with ⟨h0, _⟩ | ⟨g', cap', cur, he, _, hh, _⟩
 ·
  cases h0
 ·
  injection he with he1
  obtain rfl : g = g' := congrArg Addr.block (Option.some.inj he1)
  simp [World.frozen?, hh]
theorem CpSt.step (h : CpSt w0 A n c D j E w) (hx : D[j]? = some x) (hj : j < n) (hxE : (E ++ D.drop j)[j]? = some x) {A2 : Option Addr} {c2 : Nat} (hw1 : Below w.heap.size w w1) (ho : w1.ownsRow w.heap.size 72 3 (.slice A2 x.r.used.length c2) x.r.used.length (x.r.used.flatMap usL)) {g : Nat} (hA : A = some ⟨g, 0, none⟩) :
  CpSt w0 A n c D (j + 1) (E ++ [⟨x.r, A2, c2⟩]) (w1.setCell ⟨g, j * 3 + 2, none⟩ (.slice A2 x.r.used.length c2)) := by
 subst hA
 have hjD := (List.getElem?_eq_some_iff.1 hx).1
 have hown := own_below h.own hw1
 have hgb := own_block_lt h.own ⟨g, 0, none⟩ rfl
 have hobR : (Value.slice (some (⟨g, 0, none⟩ : Addr)) n c).ownBlock = some g := rfl
 refine ⟨by rw [List.length_append, h.len]; rfl, ?_, ?_, ?_, ?_, ?_⟩
 ·
  rw [List.map_append, h.rs, List.take_add_one, hx, List.map_append]; rfl
 ·
  have hlen : ((E ++ D.drop j).flatMap rwL).length = (E ++ D.drop j).length * 3 := flatMap_len fun x _ => rwL_len x
  have hjE := (List.getElem?_eq_some_iff.1 hxE).1
  have h1 := own_set hown (j := j * 3 + 2) (by rw [hlen]; omega) (.slice A2 x.r.used.length c2)
  rw [flat_set (y := ⟨x.r, A2, c2⟩) (fun x _ => rwL_len x) hxE (by decide) rfl] at h1
  have e : (E ++ D.drop j).set j ⟨x.r, A2, c2⟩ = E ++ [⟨x.r, A2, c2⟩] ++ D.drop (j + 1) := by
   rw [List.set_append_right _ _ (by rw [h.len]; exact Nat.le_refl _), h.len, Nat.sub_self, List.drop_eq_getElem_cons hjD, List.set_cons_zero, List.append_assoc]; rfl
  rwa [e] at h1
 ·
  intro y hy
  rcases List.mem_append.1 hy with hy | hy
  ·
   have hu := own_below (h.us y hy) hw1
   exact own_setOther hu (own_apart hown hu (by decide) hobR) _ _
  ·
   obtain rfl := List.mem_singleton.1 hy
   have hu : w1.ownsRow w0.heap.size 72 3 (.slice A2 x.r.used.length c2) x.r.used.length (x.r.used.flatMap usL) := own_base ho h.bel.size
   exact own_setOther hu (own_apart hown hu (by decide) hobR) _ _
 ·
  rw [List.pairwise_append]
  refine ⟨h.sep, List.pairwise_singleton _ _, fun y hy z hz a b ha hb => ?_⟩
  obtain rfl := List.mem_singleton.1 hz
  have h1 := own_block_lt (A := y.A) (h.us y hy) a ha
  have h2 := own_block_lt ho b hb
  omega
 ·
  exact (h.bel.trans (hw1.mono h.bel.size)).setCell (p := ⟨g, j * 3 + 2, none⟩) hgb.1 _
end
end S
end
section
namespace S
open Go.RowKit
theorem mul64_r (n : Nat) (hn : n ≤ 4096) (w : World) : Calls Tryz.prog 124 #[.int .u64 1, .int .u64 (n : Int)] w fun e w' => e = .returned (.tuple #[.int .u64 0, .int .u64 (n : Int)]) ∧ w' = w := by
 have b1 : bits .and .u64 1 4294967295 = 1 := by have := Mul64.maskN 1 (by decide); simpa using this
 have b2 : bits .and .u64 (n : Int) 4294967295 = (n : Int) := by have := Mul64.maskN n (by omega); rw [Nat.mod_eq_of_lt (by omega)] at this; exact this
 have b0 : bits .and .u64 0 4294967295 = 0 := by have := Mul64.maskN 0 (by decide); simpa using this
 have q0 : (n : Int) / 4294967296 = 0 := by omega
 have w1 : IntKind.u64.wrap (n : Int) = (n : Int) := by rw [IntKind.wrap_u64]; omega
 have w0 : IntKind.u64.wrap 0 = 0 := by decide
 go_enter Tryz.func124, Tryz.ntmps124
 go_wp2
 go_ret2
 exact ⟨rfl, rfl⟩
theorem mul_r (n : Nat) (hn : n ≤ 4096) (w : World) : Calls Tryz.prog 111 #[.int .u64 1, .int .u64 (n : Int)] w fun e w' => e = .returned (.tuple #[.int .u64 0, .int .u64 (n : Int)]) ∧ w' = w := by
 go_enter Tryz.func111, Tryz.ntmps111
 go_wp2_with (go_at_call 124; refine (mul64_r n hn _).mono ?_; rintro e w1 ⟨rfl, hw1⟩; rw [hw1]; clear hw1 w1)
 go_ret2
 exact ⟨rfl, rfl⟩
def frL : List Value := [.int .i64 (-1), .int .i64 0, .slice none 0 0]
def frs (m : Nat) : List Value := (List.replicate m frL).flatten
theorem frs_len (m : Nat) : (frs m).length = m * 3 := by
 induction m with
 | zero => rfl
 | succ m ih => unfold frs at ih ⊢; rw [List.replicate_succ, List.flatten_cons, List.length_append, ih]; show 3 + m * 3 = _; omega
theorem frs_add (a b : Nat) : frs (a + b) = frs a ++ frs b := by unfold frs; rw [← List.flatten_append, List.replicate_append_replicate]
theorem frs_one (m : Nat) : ∀ v ∈ frs m, v.oneCell' = true := by
 intro v hv
 unfold frs at hv
 obtain ⟨l, hl, hv⟩ := List.mem_flatten.1 hv
 rw [List.eq_of_mem_replicate hl] at hv
 simp only [frL, List.mem_cons, List.not_mem_nil, or_false] at hv
 rcases hv with rfl | rfl | rfl <;> rfl
theorem frs_eq (m : Nat) : frs m = (List.replicate m (⟨Str.free, none, 0⟩ : RR)).flatMap rwL := by
 induction m with
 | zero => rfl
 | succ m ih => rw [List.replicate_succ, List.flatMap_cons, ← ih]; rfl
theorem grown_setRow {w : World} {g : Nat} {cs : Array Value} : w.grownBy (w.setRow g cs) (some g) := ⟨rfl, rfl, rfl, by simp [World.setRow], fun k _ hk => setRow_other w g k _ (fun e => hk (by rw [e]))⟩
set_option maxRecDepth 100000 in
theorem copy_rows (W : World) {g n m k : Nat} {T : List Value} (h : IsRow W g 102 (frs m ++ T)) (hT : T.length = (n - m) * 3) (hk : m + k ≤ n) (a : Addr) (dLen dCap sLen sCap : Nat) (hn : k = Nat.min sLen dLen) (hsrc : ∀ j v, (frs k)[j]? = some v → W.cell? (a.add j) = some v) :
  (Builtin.copy_ #[25, 25] 3 #[.slice (some ⟨g, m * 3, none⟩) dLen dCap, .slice (some a) sLen sCap]).run Tryz.prog W = .ok (.int .i64 (k : Int)) (W.setRow g (frs (m + k) ++ T.drop (k * 3)).toArray) := by
 have hs : (Tryz.prog.info? 102).map (·.size) = some 3 := sizeRw
 have := run_copy_rowK (P := Tryz.prog) W 25 25 3 102 g (m * 3) dLen dCap a sLen sCap (frs m ++ T).toArray 102 (frs k) 3 k Tryz.underlying25 hs hn (frs_len k) h hsrc
  (by rw [frs_len, List.size_toArray, List.length_append, frs_len, hT]; omega) (frs_one k)
 rw [this]
 congr 2
 rw [frs_len, List.take_left' (frs_len m), frs_add, List.append_assoc, ← List.append_assoc (frs m)]
 congr 1
 have : m * 3 + k * 3 = (frs m).length + k * 3 := by rw [frs_len]
 rw [this, List.drop_append, List.append_assoc]
 simp [frs_len]
theorem mkRows (n : Nat) (hn : n ≤ 4096) : ∃ M : List Value, M.length = n * 3 ∧ ∀ W : World, (Instr.makeSlice 25 (.int .i64 (n : Int)) (.int .i64 (n : Int))).run Tryz.prog W = .ok (.slice (some ⟨W.heap.size, 0, none⟩) n n) (W.alloc (.cells M.toArray 102)) := by
 have hi := rowsT.info
 cases h : Tryz.prog.info? 102 with
 | none => rw [h] at hi; simp at hi
 | some i =>
  rw [h] at hi
  simp only [Option.map_some, Option.some.injEq, Prod.mk.injEq] at hi
  obtain ⟨hz, hs, hb⟩ := hi
  refine ⟨(madeCells (Value.agg #[.int .i64 0, .int .i64 0, .slice none 0 0]).cells ((n : Int).toNat * i.size)).toList, by rw [Array.length_toList, size_madeCells, hs]; rfl, fun W => ?_⟩
  have := run_make (P := Tryz.prog) W 25 102 i _ Tryz.underlying25 h hz .i64 .i64 n n (by omega) (Int.le_refl _) (by rw [hb]; omega) (by omega)
  simpa using this
set_option maxRecDepth 100000 in
set_option maxHeartbeats 4000000 in
theorem repeat_rows (bx n : Nat) (h0 : 0 < n) (hn : n ≤ 4096) (w : World) (hb : bx < w.heap.size) (hx : IsRow w bx 102 frL) :
  Calls Tryz.prog 82 #[.slice (some ⟨bx, 0, none⟩) 1 1, .int .i64 (n : Int)] w fun e w' => ∃ g, e = .returned (.slice (some ⟨g, 0, none⟩) n n) ∧ IsRow w' g 102 (frs n) ∧ w.heap.size ≤ g ∧ Below w.heap.size w w' := by
 have w1 : IntKind.u64.wrap (n : Int) = (n : Int) := by rw [IntKind.wrap_u64]; omega
 have w2 : IntKind.i64.wrap (n : Int) = (n : Int) := IntWalk.i64_in _ (by omega)
 have n1 : ¬ ((n : Int) < 0) := by omega
 have n2 : ¬ ((9223372036854775807 : Int) < (n : Int)) := by omega
 obtain ⟨M, hM, hmk⟩ := mkRows n hn
 have HM := Lib.hid hM
 have HX := Lib.hid hx
 have HMU := Lib.hid (fun W => mul_r n hn W)
 have HB := Lib.hid hb
 have H0 := Lib.hid h0
 clear hM hx hb h0
 go_enter Tryz.func82, Tryz.ntmps82
 go_upto_region 7 with (go_at_call 111; refine (HMU.out _).mono ?_; rintro e w1 ⟨rfl, hw1⟩; rw [hw1]; clear hw1 w1)
 have F3 := IsRow.new w 102 M
 have b3 : Below w.heap.size w (w.alloc (.cells M.toArray 102)) := (Below.refl _ _).alloc (Nat.le_refl _) _
 obtain ⟨w3, hw3⟩ : ∃ x, w.alloc (.cells M.toArray 102) = x := ⟨_, rfl⟩
 rw [hw3] at F3 b3 ⊢
 have x3 := HX.out.below' b3
 obtain ⟨g, hg⟩ : ∃ x, w.heap.size = x := ⟨_, rfl⟩
 have HGE := Lib.hid (Nat.le_of_eq hg)
 rw [hg] at F3 ⊢
 have hcp := copy_rows w3 (m := 0) (k := 1) (n := n) (T := M) (by exact F3) (by rw [HM.out]; rfl) (by have := H0.out; omega) ⟨bx, 0, none⟩ n n 1 1 (by have := H0.out; show 1 = min 1 n; omega) (fun j v hv => by rw [Addr.add_lit, Nat.zero_add, x3.cell]; simpa [frs] using hv)
 have F4 := setRow_heap w3 g _ (frs (0 + 1) ++ M.drop (1 * 3)).toArray 102 _ F3
 have HCP := Lib.hid hcp
 have HBE := Lib.hid (b3.grown (grown_setRow (w := w3) (g := g) (cs := (frs (0 + 1) ++ M.drop (1 * 3)).toArray)) b3.size (fun i hi => by have := Option.some.inj hi; omega))
 obtain ⟨w4, hw4⟩ : ∃ x, w3.setRow g (frs (0 + 1) ++ M.drop (1 * 3)).toArray = x := ⟨_, rfl⟩
 rw [hw4] at HCP F4 HBE
 have HF4 : Hid (IsRow w4 g 102 (frs 1 ++ M.drop (1 * 3))) := Lib.hid F4
 have HML : Hid ((M.drop (1 * 3)).length = (n - 1) * 3) := Lib.hid (by rw [List.length_drop, HM.out]; omega)
 clear hw3 F3 b3 x3 hg hcp F4 hw4 hmk
 go_wp2_with (refine Go.Proofs.wpList_copy_runI _ rfl (.tmp 31) (.tmp 32) 25 25 rfl _ _ rfl rfl HCP.out ?_)
 go_loopw [8] (fun u8 wr => ∃ (m : Nat) (T : List Value), 0 < m ∧ m ≤ n ∧ u8 = .int .i64 m ∧ Hid (T.length = (n - m) * 3) ∧ Hid (IsRow wr g 102 (frs m ++ T)) ∧ Hid (Below w.heap.size w wr)) (fun u8 _ => n - (intOf u8).toNat)
 case atStart => exact ⟨1, _, by decide, H0.out, rfl, HML, HF4, HBE⟩
 case round =>
  obtain ⟨m, T, hm0, hmn, rfl, HTL, HF, HBR⟩ := hrel
  by_cases hlt : m < n
  ·
   have m1 : (m : Int) < (n : Int) := by omega
   have m2 : (0 : Int) ≤ (m : Int) := by omega
   have m3 : (m : Int) ≤ (n : Int) := by omega
   obtain ⟨k, hk⟩ : ∃ k, Nat.min m (n - m) = k := ⟨_, rfl⟩
   have hkb : m + k ≤ n ∧ 0 < k ∧ k ≤ m := by have h1 : min m (n - m) = k := hk; omega
   obtain ⟨m', hm'⟩ : ∃ x, m + k = x := ⟨_, rfl⟩
   have qm : (m : Int) + (k : Int) = (m' : Int) := by omega
   have wm : IntKind.i64.wrap (m' : Int) = (m' : Int) := IntWalk.i64_in _ (by omega)
   have hCP := fun (W : World) (F : IsRow W g 102 (frs m ++ T)) => copy_rows W F HTL.out hkb.1 ⟨g, 0, none⟩ (n - m) (n - m) m n hk.symm (fun j v hv => by
    rw [Addr.add_lit, Nat.zero_add, F.cell]
    have hj := (List.getElem?_eq_some_iff.1 hv).1
    rw [frs_len] at hj
    rw [List.getElem?_append_left (by rw [frs_len]; omega)]
    rw [show m = k + (m - k) by omega, frs_add, List.getElem?_append_left (by rw [frs_len]; omega)]
    exact hv)
   rw [hm'] at hCP
   have HCP2 := Lib.hid hCP
   have HF2 : Hid (IsRow wr.drew g 102 (frs m ++ T)) := Lib.hid HF.out
   have HKB := Lib.hid (And.intro hkb hm')
   have hcut1 : ∀ W, _ := fun W => run_cutFrom (P := Tryz.prog) W rowsT (some ⟨g, 0, none⟩) n n m .i64 hmn
   have hne : ¬ (n = m) := by omega
   clear hk hkb hm' hCP
   go_wp2_with fail
   have hv0 : Below wr.heap.size wr wr.drew := (Below.refl _ _).drew
   refine wp_region_late (fun W => Below wr.heap.size wr W) [0, 7, 8, 9] (by kernel_rfl) (hv0) (fun hHeld => ?_)
   refine wpAnyL_takeE (i := 0) (oi := { dst := some 38, op := Op.move (Operand.tmp 8), type := 3, pos := "slices.go:528", after := #[], guard := none }) (v := ?v0_91) rfl (by kernel_rfl) (by kernel_rfl) (by kernel_rfl) (by kernel_rfl) (fun _ _ _ h => h) (Or.inl ⟨by rfl, ?h0_91⟩) ?r0_91
   case h0_91 =>
    intro W
    go_simp
    try with_reducible rfl
   try simp only [PT]
   refine wpAnyL_take (i := 1) (oi := { dst := some 39, op := Op.move (Operand.tmp 7), type := 25, pos := "slices.go:528", after := #[], guard := none }) (v := ?v1_92) rfl (by kernel_rfl) (by kernel_rfl) (by kernel_rfl) (by kernel_rfl) (fun _ _ _ h => h) (Or.inl ⟨by rfl, ?h1_92⟩) (by assumption) ?r1_92
   case h1_92 =>
    intro W hSW
    try dsimp only at hSW
    go_simp
    try with_reducible rfl
   try simp only [PT]
   refine wpAnyL_take (i := 2) (oi := { dst := some 40, op := Op.move (Operand.tmp 8), type := 3, pos := "slices.go:528", after := #[], guard := none }) (v := ?v2_93) rfl (by kernel_rfl) (by kernel_rfl) (by kernel_rfl) (by kernel_rfl) (fun _ _ _ h => h) (Or.inl ⟨by rfl, ?h2_93⟩) (by assumption) ?r2_93
   case h2_93 =>
    intro W hSW
    try dsimp only at hSW
    go_simp
    try with_reducible rfl
   try simp only [PT]
   refine wpAnyL_take (i := 3) (oi := { dst := some 41, op := Op.slice 25 (Operand.tmp 39) (some (Operand.tmp 40)) none none, type := 25, pos := "slices.go:528", after := #[{ on := 1, ground := Ground.data }, { on := 2, ground := Ground.data }], guard := none }) (v := ?v3_94) rfl (by kernel_rfl) (by kernel_rfl) (by kernel_rfl) (by kernel_rfl) (fun _ _ _ h => h) (Or.inl ⟨by rfl, ?h3_94⟩) (by assumption) ?r3_94
   case h3_94 =>
    intro W hSW
    try dsimp only at hSW
    have hcc := hcut1 W
    rw [if_neg hne] at hcc
    go_simp
    try with_reducible rfl
   try simp only [PT]
   refine wpAnyL_take (i := 4) (oi := { dst := some 42, op := Op.move (Operand.tmp 7), type := 25, pos := "slices.go:528", after := #[], guard := none }) (v := ?v4_95) rfl (by kernel_rfl) (by kernel_rfl) (by kernel_rfl) (by kernel_rfl) (fun _ _ _ h => h) (Or.inl ⟨by rfl, ?h4_95⟩) (by assumption) ?r4_95
   case h4_95 =>
    intro W hSW
    try dsimp only at hSW
    go_simp
    try with_reducible rfl
   try simp only [PT]
   refine wpAnyL_take (i := 5) (oi := { dst := some 43, op := Op.move (Operand.tmp 8), type := 3, pos := "slices.go:528", after := #[], guard := none }) (v := ?v5_96) rfl (by kernel_rfl) (by kernel_rfl) (by kernel_rfl) (by kernel_rfl) (fun _ _ _ h => h) (Or.inl ⟨by rfl, ?h5_96⟩) (by assumption) ?r5_96
   case h5_96 =>
    intro W hSW
    try dsimp only at hSW
    go_simp
    try with_reducible rfl
   try simp only [PT]
   refine wpAnyL_take (i := 6) (oi := { dst := some 44, op := Op.slice 25 (Operand.tmp 42) none (some (Operand.tmp 43)) none, type := 25, pos := "slices.go:528", after := #[{ on := 4, ground := Ground.data }, { on := 5, ground := Ground.data }], guard := none }) (v := ?v6_97) rfl (by kernel_rfl) (by kernel_rfl) (by kernel_rfl) (by kernel_rfl) (fun _ _ _ h => h) (Or.inl ⟨by rfl, ?h6_97⟩) (by assumption) ?r6_97
   case h6_97 =>
    intro W hSW
    try dsimp only at hSW
    go_simp
    try with_reducible rfl
   try simp only [PT]
   refine wpAnyL_ready (rs := [7]) (by kernel_rfl) (by simp) ?_
   refine AllReadyL.late (o := { dst := some 45, op := Op.call { callee := Callee.builtin Builtin.copy, args := #[Operand.tmp 41, Operand.tmp 44], argTypes := #[25, 25] }, type := 3, pos := "slices.go:528", after := #[{ on := 3, ground := Ground.data }, { on := 6, ground := Ground.data }], guard := none }) rfl (by rfl) (fun K hK => ?_) AllReadyL.nil
   rw [if_pos (by rfl)]
   refine Go.Proofs.wp_copy_runI wr.drew (.tmp 41) (.tmp 44) 25 25 rfl (.slice (some ⟨g, m * 3, none⟩) (n - m) (n - m)) (.slice (some ⟨g, 0, none⟩) m n) ?hd7 rfl (HCP2.out wr.drew HF2.out) ?_
   case hd7 => first | rfl | simp
   have F9 := setRow_heap wr.drew g _ (frs m' ++ T.drop (k * 3)).toArray 102 _ HF2.out
   obtain ⟨w50, hw50⟩ : ∃ x, wr.drew.setRow g (frs m' ++ T.drop (k * 3)).toArray = x := ⟨_, rfl⟩
   have G9 := grown_setRow (w := wr.drew) (g := g) (cs := (frs m' ++ T.drop (k * 3)).toArray)
   rw [hw50] at F9 G9 ⊢
   have B9 := (HBR.out.trans (hv0.mono HBR.out.size)).grown G9 (Nat.le_trans HBR.out.size hv0.size) (fun i hi => by have := Option.some.inj hi; have := HGE.out; omega)
   clear hw50
   have hv50 := hv0
   refine hK.out _ _ ?_
   clear hK K
   try simp only [PT]
   refine wpAnyL_takeE (i := 8) (oi := { dst := some 46, op := Op.binOp BinOp.add 3 (Operand.tmp 38) (Operand.tmp 45) 3, type := 3, pos := "slices.go:528", after := #[{ on := 0, ground := Ground.data }, { on := 7, ground := Ground.data }], guard := none }) (v := ?v8_98) rfl (by kernel_rfl) (by kernel_rfl) (by kernel_rfl) (by kernel_rfl) (fun _ _ _ h => h) (Or.inl ⟨by rfl, ?h8_98⟩) ?r8_98
   case h8_98 =>
    intro W
    go_simp
    try with_reducible rfl
   try simp only [PT]
   refine wpAnyL_takeE (i := 9) (oi := { dst := some 8, op := Op.assign (Operand.tmp 46), type := 3, pos := "slices.go:528", after := #[{ on := 8, ground := Ground.data }, { on := 7, ground := Ground.chain }, { on := 0, ground := Ground.phase }, { on := 1, ground := Ground.phase }, { on := 2, ground := Ground.phase }, { on := 3, ground := Ground.phase }, { on := 4, ground := Ground.phase }, { on := 5, ground := Ground.phase }, { on := 6, ground := Ground.phase }, { on := 7, ground := Ground.phase }, { on := 8, ground := Ground.phase }], guard := none }) (v := ?v9_99) rfl (by kernel_rfl) (by kernel_rfl) (by kernel_rfl) (by kernel_rfl) (fun _ _ _ h => h) (Or.inl ⟨by rfl, ?h9_99⟩) ?r9_99
   case h9_99 =>
    intro W
    go_simp
    try with_reducible rfl
   try simp only [PT]
   refine wpAnyL_done (by kernel_rfl) ?_ _
   go_wp2_with fail
   go_roundw
   case rel => exact ⟨m', T.drop (k * 3), by have := HKB.out; omega, by have := HKB.out; omega, by go_num, Lib.hid (by rw [List.length_drop, HTL.out]; have := HKB.out; omega), Lib.hid F9, Lib.hid B9⟩
   case measure => have := HKB.out; simp [intOf]; omega
  ·
   obtain rfl : m = n := by omega
   have HFF : Hid (IsRow wr g 102 (frs m)) := Lib.hid (by
    have h1 := HF.out
    have h2 := HTL.out
    rw [Nat.sub_self, Nat.zero_mul] at h2
    rw [List.eq_nil_of_length_eq_zero h2, List.append_nil] at h1
    exact h1)
   go_wp2_with fail
   go_ret
   exact ⟨g, rfl, HFF.out, HGE.out, HBR.out⟩
end S
end
section
namespace S
open Go.RowKit
def NewIs (w : World) (cf : Str.Cfg) (e : Ending) (w' : World) : Prop :=
 if cf.ok = true then ∃ A c E, e = .returned (.tuple #[.slice A cf.rows.toNat c, .int .i64 0]) ∧ OwnRows w' w.heap.size A cf.rows.toNat c E (List.replicate cf.rows.toNat Str.free) ∧ Below w.heap.size w w'
 else e = .returned (.tuple #[.slice none 0 0, .int .i64 1]) ∧ Below w.heap.size w w'
set_option maxRecDepth 100000 in
set_option maxHeartbeats 3200000 in
theorem new_no (cf : Str.Cfg) (w : World) (h : cf.ok = false) : Calls Tryz.prog 50 #[cfV cf] w fun e w' => e = .returned (.tuple #[.slice none 0 0, .int .i64 1]) ∧ Below w.heap.size w w' := by
 have HCK := Lib.hid (fun W => check_any cf W)
 rw [h] at HCK
 have HCV : Hid (cfV cf = .agg (cfL cf).toArray) := Lib.hid rfl
 have HCL : Hid ((cfL cf).length = 6) := Lib.hid rfl
 rw [HCV.out] at HCK ⊢
 obtain ⟨cl, hcl⟩ : ∃ y, cfL cf = y := ⟨_, rfl⟩
 rw [hcl] at HCK HCL ⊢
 clear hcl h
 go_enter Tryz.func50, Tryz.ntmps50
 go_wp2_with (first
  | (refine wpList_boxRow rfl _ (.tmp 0) rfl cl rfl rfl ?_; intro w1 r1 b1 z1; clear z1; simp only [put_some, List.setIfInBounds_toArray, List.set_cons_succ, List.set_cons_zero])
  | (refine wpList_load_rg rfl _ (.tmp 1) rfl w.heap.size 0 rfl cl _ (fun j v hv => by rw [Nat.zero_add, r1.cell]; exact hv) Tryz.underlying23 rfl (by rw [HCL.out]; exact sizeCf) ?_)
  | (go_at_call 75; refine (HCK.out _).mono ?_; rintro e w2 ⟨rfl, b2⟩))
 go_ret2
 exact ⟨rfl, b1.trans (b2.mono b1.size)⟩
set_option maxRecDepth 100000 in
set_option maxHeartbeats 3200000 in
theorem new_yes (cf : Str.Cfg) (w : World) (h : cf.ok = true) : Calls Tryz.prog 50 #[cfV cf] w fun e w' => ∃ g, e = .returned (.tuple #[.slice (some ⟨g, 0, none⟩) cf.rows.toNat cf.rows.toNat, .int .i64 0]) ∧ IsRow w' g 102 (frs cf.rows.toNat) ∧ w.heap.size ≤ g ∧ Below w.heap.size w w' := by
 have HCK := Lib.hid (fun W => check_any cf W)
 rw [h] at HCK
 have HCV : Hid (cfV cf = .agg (cfL cf).toArray) := Lib.hid rfl
 have hd := (Str.Cfg.ok_d h).2.2
 obtain ⟨n, hn⟩ : ∃ n, cf.rows.toNat = n := ⟨_, rfl⟩
 have hnr : cf.rows = (n : Int) := by omega
 have HCL : Hid ((cfL cf).length = 6 ∧ (cfL cf)[2]? = some (.int .i64 (n : Int))) := Lib.hid ⟨rfl, by rw [← hnr]; rfl⟩
 rw [HCV.out] at HCK ⊢
 obtain ⟨cl, hcl⟩ : ∃ y, cfL cf = y := ⟨_, rfl⟩
 rw [hcl] at HCK HCL ⊢
 rw [hn]
 have h0 : 0 < n := by omega
 have hn4 : n ≤ 4096 := by omega
 have HRP := Lib.hid (fun (W : World) => repeat_rows W.heap.size n h0 hn4 (W.alloc (.cells frL.toArray 102)) (by simp) (IsRow.new W 102 frL))
 have HFR : Hid (frL.toArray = #[.int .i64 (-1), .int .i64 0, .slice none 0 0]) := Lib.hid rfl
 rw [HFR.out] at HRP
 clear hcl h hd hn hnr
 go_enter Tryz.func50, Tryz.ntmps50
 go_wp2_with (first
  | (refine wpList_boxRow rfl _ (.tmp 0) rfl cl rfl rfl ?_; intro w1 r1 b1 z1; clear z1; simp only [put_some, List.setIfInBounds_toArray, List.set_cons_succ, List.set_cons_zero])
  | (refine wpList_load_rg rfl _ (.tmp 1) rfl w.heap.size 0 rfl cl _ (fun j v hv => by rw [Nat.zero_add, r1.cell]; exact hv) Tryz.underlying23 rfl (by rw [HCL.out.1]; exact sizeCf) ?_)
  | (go_at_call 75; refine (HCK.out _).mono ?_; rintro e w2 ⟨rfl, b2⟩; have k2 : w2.cell? ⟨w.heap.size, 2, none⟩ = some (.int .i64 (n : Int)) := ((r1.below' b2).cell 2).trans HCL.out.2; have hw : w.heap.size < w2.heap.size := Nat.lt_of_lt_of_le r1.lt b2.size)
  | (go_at_call 82; refine (HRP.out w2).mono ?_; rintro e w3 ⟨g, rfl, hg, hgl, b3⟩))
 go_ret2
 have hb := b1.trans (b2.mono b1.size)
 have hb2 : Below w2.heap.size w2 (w2.alloc (.cells #[.int .i64 (-1), .int .i64 0, .slice none 0 0] 102)) := (Below.refl _ _).alloc (Nat.le_refl _) _
 have hb3 := hb.trans (hb2.mono hb.size)
 exact ⟨g, rfl, hg, Nat.le_trans hb3.size hgl, hb3.trans (b3.mono hb3.size)⟩
theorem own_free {w : World} {g n base : Nat} (h : IsRow w g 102 (frs n)) (hb : base ≤ g) (hn : n ≤ 4096) : OwnRows w base (some ⟨g, 0, none⟩) n n (List.replicate n ⟨Str.free, none, 0⟩) (List.replicate n Str.free) := by
 refine ⟨⟨?_, .inr ⟨g, n, (frs n).toArray, rfl, hb, h, Nat.le_refl _, by unfold maxLen; omega, by rw [List.size_toArray, frs_len], ?_⟩⟩, ?_, ?_, ?_, by omega, ?_⟩
 ·
  rw [← frs_eq, frs_len]
 ·
  rw [← frs_eq, List.take_of_length_le (by rw [frs_len]; exact Nat.le_refl _)]
 ·
  rw [List.map_replicate]
 ·
  intro x hx
  rw [List.eq_of_mem_replicate hx]
  exact World.ownsRow_nil _ _ _ _
 ·
  rw [List.pairwise_replicate]
  right
  intro a b ha
  cases ha
 ·
  intro x hx
  rw [List.eq_of_mem_replicate hx]
  exact Nat.zero_le _
theorem new_any (cf : Str.Cfg) (w : World) : Calls Tryz.prog 50 #[cfV cf] w (NewIs w cf) := by
 by_cases h : cf.ok = true
 ·
  have hd := (Str.Cfg.ok_d h).2.2
  refine (new_yes cf w h).mono fun e w' ⟨g, he, hr, hg, hb⟩ => ?_
  unfold NewIs
  rw [if_pos h]
  exact ⟨_, _, _, he, own_free hr hg (by omega), hb⟩
 ·
  refine (new_no cf w (by simpa using h)).mono fun e w' h' => ?_
  unfold NewIs
  rw [if_neg h]
  exact h'
end S
end
end Go.Proofs.YtfllkaeaanahmaaGreat
