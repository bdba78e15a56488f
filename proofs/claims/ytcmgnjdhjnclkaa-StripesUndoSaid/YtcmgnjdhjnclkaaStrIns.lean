/- slices.Insert and slices.Clone of used stripes. Conditions: the row is the call's own to write; at most 65536 elements. -/
import Derived.Test.YtcmgnjdhjnclkaaStrC
import Derived.Laws.CopyRow
import Derived.Lib.AppendZerosOnto
import Derived.Lib.Overlaps
import Derived.Shelf.Spec.SlicesInsert
import Derived.Deep.RegionLaw
namespace Go.Proofs.Ytcmgnjdhjnclkaa.S
set_option linter.unusedVariables false
set_option linter.unusedSimpArgs false
open Go.RowKit
theorem usT : ElemT Try.prog 57 37 (.agg #[.int .i64 0, .int .i64 0, .int .i64 0]) 3 24 := ⟨Try.underlying57, by kernel_rfl, by kernel_rfl, by decide, by decide⟩
/-! slices.Insert of one element of several cells. Conditions: the row is the call's own to write; at most 65536 elements. -/
section
open Go.RowKit
/-- copy of n elements of sz cells into a block that is known whole -/
theorem run_copy_rowK {P : Program} (w : World) (dT sT ty elem : TypeId) (g o dLen dCap : Nat) (a : Addr) (sLen sCap : Nat) (cur : Array Value) (t : TypeId) (cs : List Value) (sz n : Nat)
    (hu : P.underlying dT = some (.slice elem)) (hs : (P.info? elem).map (·.size) = some sz) (hn : n = Nat.min sLen dLen) (hl : cs.length = n * sz)
    (hg : w.heap[g]? = some (.cells cur t (0, 0)))
    (hsrc : ∀ j v, cs[j]? = some v → w.cell? (a.add j) = some v) (hfit : o + cs.length ≤ cur.size) (h1 : ∀ v ∈ cs, v.oneCell' = true) :
    (Builtin.copy_ #[dT, sT] ty #[.slice (some ⟨g, o, none⟩) dLen dCap, .slice (some a) sLen sCap]).run P w =
      .ok (goInt n) (w.setRow g (cur.toList.take o ++ cs ++ cur.toList.drop (o + cs.length)).toArray) := by
  have hf := run_firstCells_some (P := P) w sz n a sLen sCap cs hl hsrc
  have hst := run_storeCells_at P g o t cs 0 cur w hg (by simpa using hfit) h1
  cases hq : P.info? elem with
  | none => simp [hq] at hs
  | some i =>
    have hi : i.size = sz := by simpa [hq] using hs
    have hf2 : (Builtin.firstCells sz n (.slice (some a) sLen sCap)).run P w = .ok cs.toArray w := hf
    simp [Builtin.copy_, run_underlying hu, Builtin.lenOf, sizeOf, typeInfo, hq, hi, ← hn, hf2, hst]
/-- the row xs with vs put in at element i -/
def putAt (sz : Nat) (xs vs : List Value) (i : Nat) : List Value := xs.take (i * sz) ++ vs ++ xs.drop (i * sz)
theorem putAt_len {sz n i : Nat} {xs vs : List Value} (hx : xs.length = n * sz) (hv : vs.length = sz) (hi : i ≤ n) : (putAt sz xs vs i).length = (n + 1) * sz := by
  unfold putAt
  have := Nat.mul_le_mul_right sz hi
  rw [List.length_append, List.length_append, List.length_take, List.length_drop, hv, hx, Nat.add_mul]
  omega
/-- what the two copies leave of the row -/
theorem shift_list {X xs vs : List Value} {a s N : Nat} (hx : X.take N = xs) (hN : N + s ≤ X.length) (ha : a ≤ N) (hv : vs.length = s) :
    let Y := X.take (a + s) ++ xs.drop a ++ X.drop (a + s + (xs.drop a).length)
    (Y.take a ++ vs ++ Y.drop (a + vs.length)).take (N + s) = xs.take a ++ vs ++ xs.drop a ∧ Y.length = X.length ∧ (Y.take a ++ vs ++ Y.drop (a + vs.length)).length = X.length := by
  have hxl : xs.length = N := by rw [← hx, List.length_take]; omega
  have hd : (xs.drop a).length = N - a := by rw [List.length_drop, hxl]
  intro Y
  have h1 : (X.take (a + s)).length = a + s := by rw [List.length_take]; omega
  have hY1 : Y.take a = xs.take a := by
    show (X.take (a + s) ++ xs.drop a ++ _).take a = _
    rw [List.append_assoc, List.take_append_of_le_length (by omega), List.take_take, Nat.min_eq_left (by omega), ← hx, List.take_take, Nat.min_eq_left ha]
  have hY2 : Y.drop (a + vs.length) = xs.drop a ++ X.drop (a + s + (xs.drop a).length) := by
    show (X.take (a + s) ++ xs.drop a ++ _).drop _ = _
    rw [hv, List.append_assoc, List.drop_append_of_le_length (by omega), List.drop_of_length_le (by omega), List.nil_append]
  have hYl : Y.length = X.length := by
    show (X.take (a + s) ++ xs.drop a ++ X.drop (a + s + (xs.drop a).length)).length = _
    simp only [List.length_append, h1, hd, List.length_drop]; omega
  have ht : (xs.take a).length = a := by rw [List.length_take, hxl]; omega
  refine ⟨?_, hYl, ?_⟩
  · rw [hY1, hY2, ← List.append_assoc]
    rw [List.take_append_of_le_length (by simp only [List.length_append, ht, hv, hd]; omega), List.take_of_length_le (by simp only [List.length_append, ht, hv, hd]; omega)]
  · rw [hY1, hY2]
    simp only [List.length_append, ht, hv, hd, List.length_drop]; omega
theorem grow_list {R xs vs Z : List Value} {a s N : Nat} (hR : R = xs.take a ++ Z) (hxl : xs.length = N) (ha : a ≤ N) (hv : vs.length = s) (hl : N + s ≤ R.length) :
    let Y := R.take a ++ vs ++ R.drop (a + vs.length)
    (Y.take (a + s) ++ xs.drop a ++ Y.drop (a + s + (xs.drop a).length)).take (N + s) = xs.take a ++ vs ++ xs.drop a ∧ Y.length = R.length ∧ (Y.take (a + s) ++ xs.drop a ++ Y.drop (a + s + (xs.drop a).length)).length = R.length := by
  have hd : (xs.drop a).length = N - a := by rw [List.length_drop, hxl]
  have ht : (xs.take a).length = a := by rw [List.length_take, hxl]; omega
  intro Y
  have hYl : Y.length = R.length := by
    show (R.take a ++ vs ++ R.drop (a + vs.length)).length = _
    simp only [List.length_append, List.length_take, List.length_drop, hv]; omega
  have hY1 : Y.take (a + s) = xs.take a ++ vs := by
    show (R.take a ++ vs ++ R.drop (a + vs.length)).take (a + s) = _
    have h1 : (R.take a ++ vs).length = a + s := by simp only [List.length_append, List.length_take, hv]; omega
    rw [List.take_append_of_le_length (by omega), List.take_of_length_le (by omega), hR, List.take_append_of_le_length (by omega), List.take_of_length_le (by omega)]
  refine ⟨?_, hYl, ?_⟩
  · rw [hY1, List.take_append_of_le_length (by simp only [List.length_append, ht, hv, hd]; omega), List.take_of_length_le (by simp only [List.length_append, ht, hv, hd]; omega)]
  · rw [hY1]
    simp only [List.length_append, ht, hv, hd, List.length_drop, hYl]; omega
theorem run_cutHi {P : Program} (w : World) {t e : TypeId} {z : Value} {size bytes : Nat} (E : ElemT P t e z size bytes) (g n c h : Nat) (kh : IntKind) (hh : h ≤ c) (hc : 0 < c) :
    (Instr.sliceAt t (.slice (some ⟨g, 0, none⟩) n c) none (some (.int kh h)) none).run P w = .ok (.slice (some ⟨g, 0, none⟩) h c) w := by
  obtain ⟨i, hi, hz, hsize, hby⟩ := info_parts E.info
  simp [Instr.sliceAt, run_underlying E.sl, Instr.slice, Instr.sliceBounds, run_sliceBound, hh, sizeOf, typeInfo, hi, hsize, Addr.add_lit]
/-- what an insertion leaves: some row of its own that holds the new list; only that row's block has turned -/
def InsResUs (A : Option Addr) (n : Nat) (xs : List Value) (w : World) (e : Ending) (w' : World) : Prop :=
  ∃ A' c', e = .returned (.slice A' (n + 1) c') ∧ w'.ownsRow 0 37 3 (.slice A' (n + 1) c') (n + 1) xs ∧ w.grownBy w' (Value.slice A 0 0).ownBlock ∧ (A' = A ∨ ∃ a, A' = some a ∧ w.heap.size ≤ a.block)
theorem sliceObUs (A : Option Addr) (n c : Nat) : (Value.slice A n c).ownBlock = (Value.slice A 0 0).ownBlock := by cases A <;> rfl
set_option maxRecDepth 100000 in
set_option maxHeartbeats 1600000 in
theorem ins_endUs (A : Option Addr) (n c : Nat) (xs vs : List Value) (w : World) (hn : n ≤ 65536) (ho : w.ownsRow 0 37 3 (.slice A n c) n xs) (vb : Nat) (hv : vs.length = 3) (hvs : ∀ j v, vs[j]? = some v → w.cell? ⟨vb, j, none⟩ = some v) (hvb : vb < w.heap.size) (h1 : ∀ u ∈ vs, u.oneCell' = true) :
    Calls Try.prog 25 #[.slice A n c, .int .i64 (n : Int), .slice (some ⟨vb, 0, none⟩) 1 1] w (InsResUs A n (putAt 3 xs vs n) w) := by
  have hcap := own_cap ho
  have hcm : c ≤ 9223372036854775807 := hcap.2
  have hcut := fun W => run_cutFrom (P := Try.prog) W usT A n c n .i64 (Nat.le_refl _)
  obtain ⟨A2, hA2⟩ : ∃ B, (if c = n then A else A.map (·.add (n * 3))) = B := ⟨_, rfl⟩
  simp only [hA2] at hcut
  clear hA2
  have hrd : Rd w w.heap.size 3 (some ⟨vb, 0, none⟩) 1 vs := ⟨by omega, fun _ => ⟨vb, 0, rfl, hvb, fun j u hu => by rw [Nat.zero_add]; exact hvs j u hu⟩⟩
  have hp : putAt 3 xs vs n = xs ++ vs := by
    unfold putAt; rw [List.take_of_length_le (by rw [ho.1]; exact Nat.le_refl _), List.drop_eq_nil_of_le (by rw [ho.1]; exact Nat.le_refl _), List.append_nil]
  have HP := Lib.hid hp
  have HO := Lib.hid ho
  have HR := Lib.hid hrd
  have H1 := Lib.hid h1
  clear hp ho hrd h1 hvs hv hvb
  go_enter Try.func25, Try.ntmps25
  go_wp2_with (at_builtin; refine wpList_app _ rfl (.tmp 23) (.tmp 24) 57 rfl 0 37 _ 3 24 usT A n c xs rfl HO.out _ _ 1 1 vs rfl HR.out H1.out (by omega) (by unfold maxLen; omega) (Nat.zero_le _) ?_; intro A' c' w' h2 h3 h4)
  go_ret
  rw [HP.out]
  refine ⟨A', c', rfl, h2, by rw [← sliceObUs A n c]; exact h3, ?_⟩
  rcases h4 with h4 | ⟨a, ha, hb⟩
  · exact .inl h4
  · exact .inr ⟨a, ha, by omega⟩
set_option maxRecDepth 100000 in
set_option maxHeartbeats 3200000 in
theorem ins_shiftUs (g n c i : Nat) (xs vs : List Value) (w : World) (hn : n ≤ 65536) (hi : i < n) (hroom : n + 1 ≤ c) (ho : w.ownsRow 0 37 3 (.slice (some ⟨g, 0, none⟩) n c) n xs) (h1x : ∀ u ∈ xs, u.oneCell' = true) (vb : Nat) (hv : vs.length = 3) (hvr : IsRow w vb 37 vs) (hvg : vb ≠ g) (h1 : ∀ u ∈ vs, u.oneCell' = true) :
    Calls Try.prog 25 #[.slice (some ⟨g, 0, none⟩) n c, .int .i64 (i : Int), .slice (some ⟨vb, 0, none⟩) 1 1] w (InsResUs (some ⟨g, 0, none⟩) n (putAt 3 xs vs i) w) := by
  have hcap := own_cap ho
  have hcm : c ≤ 9223372036854775807 := hcap.2
  obtain ⟨hxl, hrow⟩ := ho
  rcases hrow with ⟨hrow, _⟩ | ⟨g', cap, cur, he, _, hh, _, _, hcs, htk⟩
  · cases hrow
  injection he with he1 _ he3
  obtain rfl : g = g' := by have := Option.some.inj he1; exact congrArg Addr.block this
  subst he3
  have hsz : (Try.prog.info? 37).map (·.size) = some 3 := sizeUs
  have hsl := shift_list (X := cur.toList) (xs := xs) (vs := vs) (a := i * 3) (s := 3) (N := n * 3) htk (by rw [Array.length_toList, hcs]; have := Nat.mul_le_mul_right 3 hroom; omega) (Nat.mul_le_mul_right _ (by omega)) hv
  have hdl : (xs.drop (i * 3)).length = (n - i) * 3 := by rw [List.length_drop, hxl, Nat.sub_mul]
  have hxc : ∀ (j : Nat) (u : Value), xs[j]? = some u → w.cell? ⟨g, j, none⟩ = some u := fun j u hu => by
    rw [cell_of_row w g j cur _ (0, 0) hh, ← htk] at *
    rw [← htk, List.getElem?_take] at hu
    split at hu
    · simpa using hu
    · cases hu
  have hcut1 := fun W => run_cutFrom (P := Try.prog) W usT (some ⟨g, 0, none⟩) n c i .i64 (by omega)
  have hcut2 := fun W => run_cutHi (P := Try.prog) W usT g n c (n + 1) .i64 hroom (by omega)
  have hcut3 := fun W => run_cutFrom (P := Try.prog) W usT (some ⟨g, 0, none⟩) (n + 1) c (i + 1) .i64 (by omega)
  have hcut4 := fun W => run_cutFrom (P := Try.prog) W usT (some ⟨g, 0, none⟩) (n + 1) c i .i64 (by omega)
  have n1 : ¬ c = i := by omega
  have n2 : ¬ c = i + 1 := by omega
  simp only [if_neg n1, if_neg n2, Option.map_some, Addr.add_lit, Nat.zero_add, Int.natCast_add, Int.cast_ofNat_Int, Nat.add_sub_add_right] at hcut1 hcut2 hcut3 hcut4
  have hmul : (i + 1) * 3 = i * 3 + 3 := by omega
  have hgl : g < w.heap.size := (Array.getElem?_eq_some_iff.1 hh).1
  have hle1 : i * 3 + 3 + (n - i) * 3 ≤ c * 3 := by have := Nat.mul_le_mul_right 3 hroom; have e : (n - i) * 3 = n * 3 - i * 3 := Nat.sub_mul _ _ _; have := Nat.mul_le_mul_right 3 (Nat.le_of_lt hi); omega
  obtain ⟨cur1, hc1⟩ : ∃ c1 : Array Value, (cur.toList.take (i * 3 + 3) ++ xs.drop (i * 3) ++ cur.toList.drop (i * 3 + 3 + (xs.drop (i * 3)).length)).toArray = c1 := ⟨_, rfl⟩
  obtain ⟨cur2, hc2⟩ : ∃ c2 : Array Value, (cur1.toList.take (i * 3) ++ vs ++ cur1.toList.drop (i * 3 + vs.length)).toArray = c2 := ⟨_, rfl⟩
  have hs1 : cur1.size = cur.size := by have := hsl.2.1; rw [← hc1, List.size_toArray, this, Array.length_toList]
  have hs2 : cur2.size = cur.size ∧ cur2.toList.take ((n + 1) * 3) = putAt 3 xs vs i := by
    rw [← hc2, ← hc1, List.size_toArray, List.toList_toArray, hsl.2.2, Array.length_toList]
    refine ⟨rfl, ?_⟩
    rw [show (n + 1) * 3 = n * 3 + 3 from by omega]
    exact hsl.1
  obtain ⟨W1, hW1⟩ : ∃ W1, w.drew.setRow g cur1 = W1 := ⟨_, rfl⟩
  obtain ⟨W2, hW2⟩ : ∃ W2, W1.setRow g cur2 = W2 := ⟨_, rfl⟩
  have hg1 : W1.heap[g]? = some (.cells cur1 37 (0, 0)) := by rw [← hW1]; exact setRow_heap w.drew g cur _ _ _ hh
  have hg2 : W2.heap[g]? = some (.cells cur2 37 (0, 0)) := by rw [← hW2]; exact setRow_heap W1 g cur1 _ _ _ hg1
  have hgr : w.grownBy W2 (some g) := by
    rw [← hW2, ← hW1]
    exact ⟨rfl, rfl, rfl, by simp [World.setRow], fun k _ hk => (setRow_other _ g k _ (fun e => hk (by rw [e]))).trans (setRow_other _ g k _ (fun e => hk (by rw [e])))⟩
  have hvr1 : IsRow W1 vb 37 vs := by rw [← hW1]; exact (setRow_other w.drew g vb _ hvg).trans hvr
  have hcp1 : ∀ ty dc sc, (Builtin.copy_ #[57, 57] ty #[.slice (some ⟨g, (i + 1) * 3, none⟩) (n - i) dc, .slice (some ⟨g, i * 3, none⟩) (n + 1 - i) sc]).run Try.prog w.drew = .ok (goInt (n - i : Nat)) W1 := fun ty dc sc => by
    rw [run_copy_rowK (P := Try.prog) w.drew 57 57 ty 37 g ((i + 1) * 3) (n - i) dc ⟨g, i * 3, none⟩ (n + 1 - i) sc cur 37 (xs.drop (i * 3)) 3 (n - i) usT.sl hsz (by show n - i = min _ _; omega) hdl hh (fun j u hu => by rw [Addr.add_lit]; exact hxc _ _ (by rwa [List.getElem?_drop] at hu)) (by rw [hdl, hmul, hcs]; exact hle1) (fun u hu => h1x u (List.mem_of_mem_drop hu)), hmul, hc1, hW1]
  have hcp2 : ∀ ty dc, (Builtin.copy_ #[57, 57] ty #[.slice (some ⟨g, i * 3, none⟩) (n + 1 - i) dc, .slice (some ⟨vb, 0, none⟩) 1 1]).run Try.prog W1 = .ok (goInt (1 : Nat)) W2 := fun ty dc => by
    rw [run_copy_rowK (P := Try.prog) W1 57 57 ty 37 g (i * 3) (n + 1 - i) dc ⟨vb, 0, none⟩ 1 1 cur1 37 vs 3 1 usT.sl hsz (by show 1 = min _ _; omega) (by omega) hg1 (fun j u hu => by rw [Addr.add_lit, Nat.zero_add, hvr1.cell]; exact hu) (by rw [hv, hs1, hcs]; omega) h1, hc2, hW2]
  have hov : ∀ lb cb, (callFunc 37 #[.slice (some ⟨vb, 0, none⟩) 1 1, .slice (some ⟨g, (i + 1) * 3, none⟩) lb cb]).run Try.prog w = .ok (.value (.bool false)) w := fun lb cb => by
    rw [run_callFunc_extern Try.func37 (by kernel_rfl) (by kernel_rfl) (by kernel_rfl) (e := Extern.SlicesOverlaps.overlaps #[57, 57] #[4]) (by kernel_rfl),
      Lib.run_overlaps_apart w 57 4 37 usT.sl 3 (fun w => by cases hq : Try.prog.info? 37 with
        | none => rw [hq] at hsz; cases hsz
        | some q => rw [hq] at hsz; simp only [Option.map_some, Option.some.injEq] at hsz; simp [sizeOf, typeInfo, hq, hsz]) ⟨vb, 0, none⟩ ⟨g, (i + 1) * 3, none⟩ 1 1 lb cb hvg 37 37 vs.length cur.size (by have h : w.heap[vb]? = some (.cells vs.toArray 37 (0, 0)) := hvr; simp [World.shape?, h]) (by simp [World.shape?, hh]) (by rw [hcs]; omega) (hvr.frozen 0) (hvr.frozen _)]
    rfl
  have HG := Lib.hid (And.intro hg2 (And.intro hgr (And.intro hs2 (And.intro hcs hcap))))
  have HXL := Lib.hid (putAt_len (i := i) hxl hv (by omega))
  have hz2 : ¬ ((i : Int) = (n : Int)) := by omega
  have hz3 : ¬ ((c : Int) < (n : Int) + 1) := by omega
  have hw1 : IntKind.i64.wrap ((i : Int) + 1) = (i : Int) + 1 := IntWalk.i64_in _ (by omega)
  have hb1 : (0 : Int) ≤ (i : Int) + 1 := by omega
  clear hh htk hsl hdl hxc hxl hmul hgl hle1 hc1 hc2 hs1 hs2 hW1 hW2 hg1 hg2 hgr hvr hvr1 hsz hv h1 h1x hcs n1 n2 hcap
  go_enter Try.func25, Try.ntmps25
  go_wp2_with (simp only [hov])
  go_region_law (refine step_copy_runI rfl _ _ 57 57 rfl _ _ (by simp [Act.eval, Act.put]) (by simp [Act.eval, Act.put]) (hcp1 _ _ _) ?_)
  go_wp2_with (at_builtin; refine Go.Proofs.wpList_copy_runI _ rfl _ _ 57 57 rfl _ _ rfl rfl (hcp2 _ _) ?_)
  go_ret
  exact ⟨some ⟨g, 0, none⟩, c, rfl, ⟨HXL.out, .inr ⟨g, c, cur2, rfl, Nat.zero_le _, HG.out.1, hroom, HG.out.2.2.2.2.2, by rw [HG.out.2.2.1.1]; exact HG.out.2.2.2.1, HG.out.2.2.1.2⟩⟩, HG.out.2.1, .inl rfl⟩
set_option maxRecDepth 100000 in
set_option maxHeartbeats 3200000 in
theorem ins_growUs (g n c i : Nat) (xs vs : List Value) (w : World) (hn : n ≤ 65536) (hi : i < n) (hroom : c < n + 1) (ho : w.ownsRow 0 37 3 (.slice (some ⟨g, 0, none⟩) n c) n xs) (h1x : ∀ u ∈ xs, u.oneCell' = true) (vb : Nat) (hv : vs.length = 3) (hvr : IsRow w vb 37 vs) (h1 : ∀ u ∈ vs, u.oneCell' = true) :
    Calls Try.prog 25 #[.slice (some ⟨g, 0, none⟩) n c, .int .i64 (i : Int), .slice (some ⟨vb, 0, none⟩) 1 1] w (InsResUs (some ⟨g, 0, none⟩) n (putAt 3 xs vs i) w) := by
  have hcap := own_cap ho
  have hcm : c ≤ 9223372036854775807 := hcap.2
  have hxl := ho.1
  obtain ⟨g', cap, he, _, hgl⟩ := ho.form (by omega)
  obtain rfl : g = g' := by injection he with he1 _ _; have := Option.some.inj he1; exact congrArg Addr.block this
  have hxc : ∀ (j : Nat) (u : Value), xs[j]? = some u → w.cell? ⟨g, j, none⟩ = some u := fun j u hu => by
    have := ho.cells (g := g) rfl j u hu
    rwa [Addr.add_lit, Nat.zero_add] at this
  have hsz : (Try.prog.info? 37).map (·.size) = some 3 := sizeUs
  obtain ⟨i0, hi0, hz0, hzs, hzb⟩ := info_parts usT.info
  have hdl : (xs.drop (i * 3)).length = (n - i) * 3 := by rw [List.length_drop, hxl, Nat.sub_mul]
  have hold : (Builtin.firstCells i0.size i (.slice (some ⟨g, 0, none⟩) i c)).run Try.prog w.drew = .ok (xs.take (i * 3)).toArray w.drew := by
    rw [hzs]
    exact run_firstCells_some w.drew 3 i ⟨g, 0, none⟩ i c (xs.take (i * 3)) (by rw [List.length_take, hxl]; have := Nat.mul_le_mul_right 3 (Nat.le_of_lt hi); omega) (fun j u hu => by
      rw [Addr.add_lit, Nat.zero_add]
      rw [List.getElem?_take] at hu
      split at hu
      · exact hxc j u hu
      · cases hu)
  have hkk : (n : Int) + 1 - (i : Int) = ((n + 1 - i : Nat) : Int) := by omega
  have hik : i + (n + 1 - i) = n + 1 := by omega
  obtain ⟨G, hG⟩ : ∃ G, grownCap w (n + 1) c 37 = G := ⟨_, rfl⟩
  have hGn : n + 1 ≤ G := by rw [← hG]; exact grownCap_ge w _ _ _
  have hGm : G ≤ maxLen := by rw [← hG]; exact grownCap_le_maxLen w (n + 1) c _ (by unfold maxLen; omega)
  have hG63 : G ≤ 9223372036854775807 := hGm
  obtain ⟨H, hH⟩ : ∃ H, w.heap.size = H := ⟨_, rfl⟩
  obtain ⟨zc, hzc⟩ : ∃ zc, Builtin.zeroCells (Value.agg #[.int .i64 0, .int .i64 0, .int .i64 0]).cells (n + 1 - i) ++ Builtin.zeroCells (Value.agg #[.int .i64 0, .int .i64 0, .int .i64 0]).cells (G - (n + 1)) = zc := ⟨_, rfl⟩
  obtain ⟨R, hR⟩ : ∃ R : Array Value, (xs.take (i * 3)).toArray ++ zc = R := ⟨_, rfl⟩
  have hRl : R.toList = xs.take (i * 3) ++ zc.toList := by rw [← hR]; simp
  have hRs : R.size = G * 3 := by
    rw [← hR, ← hzc]
    simp only [Array.size_append, List.size_toArray, List.length_take, size_zeroCells, usT.zs, hxl]
    have h1 := Nat.mul_le_mul_right 3 (Nat.le_of_lt hi)
    rw [Nat.min_eq_left h1, ← Nat.add_mul, ← Nat.add_mul]
    congr 1; omega
  obtain ⟨W1, hW1⟩ : ∃ W1, w.drew.alloc (.cells R 37) = W1 := ⟨_, rfl⟩
  have hrz : ∀ ty, (Builtin.append_ #[57, 3] ty #[.slice (some ⟨g, 0, none⟩) i c, .int .i64 ((n : Int) + 1 - (i : Int))]).run Try.prog w = .ok (.slice (some ⟨H, 0, none⟩) (n + 1) G) W1 := fun ty => by
    have h := Lib.run_append_grow_zeros w 57 3 ty 37 i0 _ .i64 .i64 usT.sl Try.underlying3 hi0 hz0 (some ⟨g, 0, none⟩) i c (xs.take (i * 3)) hold (n + 1 - i) (by omega) (by omega) (by omega) (by omega) (by rw [hzb]; omega) (by rw [hzb, hik]; exact growslice_fits hroom (by omega))
    rw [hik, hG, hH, Array.append_assoc, hzc, hR, hW1] at h
    rw [hkk]
    exact h
  have hg1 : W1.heap[H]? = some (.cells R 37 (0, 0)) := by rw [← hW1, ← hH]; exact heap_alloc_new w.drew _
  have hold1 : ∀ k, k < H → W1.heap[k]? = w.heap[k]? := fun k hk => by rw [← hW1]; exact Below.heap_alloc w.drew _ k (by rw [← hH] at hk; exact hk)
  have hgl' : g < H := by rw [← hH]; exact hgl
  have hvl' : vb < H := by rw [← hH]; exact hvr.lt
  have hmul : (i + 1) * 3 = i * 3 + 3 := by omega
  have hmG := Nat.mul_le_mul_right 3 hGn
  have hmi := Nat.mul_le_mul_right 3 hi
  have e1 : (n - i) * 3 = n * 3 - i * 3 := Nat.sub_mul _ _ _
  have e2 : (n + 1) * 3 = n * 3 + 3 := by omega
  have hgl2 := grow_list (R := R.toList) (xs := xs) (vs := vs) (a := i * 3) (s := 3) (N := n * 3) hRl hxl (by omega) hv (by rw [Array.length_toList, hRs]; omega)
  obtain ⟨R2, hR2⟩ : ∃ R2 : Array Value, (R.toList.take (i * 3) ++ vs ++ R.toList.drop (i * 3 + vs.length)).toArray = R2 := ⟨_, rfl⟩
  obtain ⟨R3, hR3⟩ : ∃ R3 : Array Value, (R2.toList.take (i * 3 + 3) ++ xs.drop (i * 3) ++ R2.toList.drop (i * 3 + 3 + (xs.drop (i * 3)).length)).toArray = R3 := ⟨_, rfl⟩
  have hs2 : R2.size = R.size := by have := hgl2.2.1; rw [← hR2, List.size_toArray, this, Array.length_toList]
  have hs3 : R3.size = R.size ∧ R3.toList.take ((n + 1) * 3) = putAt 3 xs vs i := by
    rw [← hR3, ← hR2, List.size_toArray, List.toList_toArray, hgl2.2.2, Array.length_toList, e2]
    exact ⟨rfl, hgl2.1⟩
  obtain ⟨W2, hW2⟩ : ∃ W2, W1.setRow H R2 = W2 := ⟨_, rfl⟩
  obtain ⟨W3, hW3⟩ : ∃ W3, W2.drew.setRow H R3 = W3 := ⟨_, rfl⟩
  have hg2 : W2.heap[H]? = some (.cells R2 37 (0, 0)) := by rw [← hW2]; exact setRow_heap W1 H R _ _ _ hg1
  have hg3 : W3.heap[H]? = some (.cells R3 37 (0, 0)) := by rw [← hW3]; exact setRow_heap W2.drew H R2 _ _ _ hg2
  have hold2 : ∀ k, k < H → W2.heap[k]? = w.heap[k]? := fun k hk => by rw [← hW2]; exact (setRow_other W1 H k _ (by omega)).trans (hold1 k hk)
  have hgr : w.grownBy W3 (some g) := by
    refine ⟨by rw [← hW3, ← hW2, ← hW1]; rfl, by rw [← hW3, ← hW2, ← hW1]; rfl, by rw [← hW3, ← hW2, ← hW1]; rfl, by rw [← hW3, ← hW2, ← hW1]; simp [World.setRow], fun k hk _ => ?_⟩
    rw [hH] at hk
    rw [← hW3]
    exact (setRow_other W2.drew H k _ (by omega)).trans (hold2 k hk)
  have hcpA : ∀ ty dc, (Builtin.copy_ #[57, 57] ty #[.slice (some ⟨H, i * 3, none⟩) (n + 1 - i) dc, .slice (some ⟨vb, 0, none⟩) 1 1]).run Try.prog W1 = .ok (goInt (1 : Nat)) W2 := fun ty dc => by
    rw [run_copy_rowK (P := Try.prog) W1 57 57 ty 37 H (i * 3) (n + 1 - i) dc ⟨vb, 0, none⟩ 1 1 R 37 vs 3 1 usT.sl hsz (by show 1 = min _ _; omega) (by omega) hg1 (fun j u hu => by rw [Addr.add_lit, Nat.zero_add, (hvr.keep (hold1 vb hvl')).cell]; exact hu) (by rw [hv, hRs]; omega) h1, hR2, hW2]
  have hcpB : ∀ ty dc sc, (Builtin.copy_ #[57, 57] ty #[.slice (some ⟨H, (i + 1) * 3, none⟩) (n - i) dc, .slice (some ⟨g, i * 3, none⟩) (n - i) sc]).run Try.prog W2.drew = .ok (goInt (n - i : Nat)) W3 := fun ty dc sc => by
    rw [run_copy_rowK (P := Try.prog) W2.drew 57 57 ty 37 H ((i + 1) * 3) (n - i) dc ⟨g, i * 3, none⟩ (n - i) sc R2 37 (xs.drop (i * 3)) 3 (n - i) usT.sl hsz (by show n - i = min _ _; omega) hdl hg2 (fun j u hu => by rw [Addr.add_lit]; exact (World.cell?_of_block (a := ⟨g, i * 3 + j, none⟩) (hold2 g hgl')).trans (hxc _ _ (by rwa [List.getElem?_drop] at hu))) (by rw [hdl, hmul, hs2, hRs]; omega) (fun u hu => h1x u (List.mem_of_mem_drop hu)), hmul, hR3, hW3]
  have hcut0 := fun W => run_cutFrom (P := Try.prog) W usT (some ⟨g, 0, none⟩) n c i .i64 (by omega)
  have hcut1 := fun W => run_cutHi (P := Try.prog) W usT g n c i .i64 (by omega) (by omega)
  have hcut2 := fun W => run_cutFrom (P := Try.prog) W usT (some ⟨H, 0, none⟩) (n + 1) G i .i64 (by omega)
  have hcut3 := fun W => run_cutFrom (P := Try.prog) W usT (some ⟨H, 0, none⟩) (n + 1) G (i + 1) .i64 (by omega)
  have n1 : ¬ c = i := by omega
  have n2 : ¬ G = i := by omega
  have n3 : ¬ G = i + 1 := by omega
  simp only [if_neg n1, if_neg n2, if_neg n3, Option.map_some, Addr.add_lit, Nat.zero_add, Int.natCast_add, Int.cast_ofNat_Int, Nat.add_sub_add_right] at hcut0 hcut1 hcut2 hcut3
  have HG := Lib.hid (And.intro hg3 (And.intro hgr (And.intro hs3 (And.intro hRs (And.intro hGn hGm)))))
  have HHH := Lib.hid hH
  have HXL := Lib.hid (putAt_len (i := i) hxl hv (by omega))
  have hz2 : ¬ ((i : Int) = (n : Int)) := by omega
  have hz3 : (c : Int) < (n : Int) + 1 := by omega
  have hw1 : IntKind.i64.wrap ((i : Int) + 1) = (i : Int) + 1 := IntWalk.i64_in _ (by omega)
  have hb1 : (0 : Int) ≤ (i : Int) + 1 := by omega
  clear hH hzc hR hRl hRs hW1 hg1 hold1 hgl' hvl' hmul hmG hmi e1 e2 hgl2 hR2 hR3 hs2 hs3 hW2 hW3 hg2 hg3 hold2 hgr hdl hold hkk hik hG hGn hGm hxc hxl hsz hv h1 h1x n1 n2 n3 hcap hvr ho hgl he hi0 hz0 hzs hzb
  go_enter Try.func25, Try.ntmps25
  go_wp2_with (first
    | (at_builtin; refine Lib.wpList_append_run _ rfl _ _ _ _ rfl _ _ rfl rfl _ _ (hrz _) ?_)
    | (at_builtin; refine Go.Proofs.wpList_copy_runI _ rfl _ _ 57 57 rfl _ _ rfl rfl (hcpA _ _) ?_))
  go_region_law (refine step_copy_runI rfl _ _ 57 57 rfl _ _ (by simp [Act.eval, Act.put]) (by simp [Act.eval, Act.put]) (hcpB _ _ _) ?_)
  go_wp2
  go_ret
  exact ⟨some ⟨H, 0, none⟩, G, rfl, ⟨HXL.out, .inr ⟨H, G, R3, rfl, Nat.zero_le _, HG.out.1, HG.out.2.2.2.2.1, HG.out.2.2.2.2.2, by rw [HG.out.2.2.1.1]; exact HG.out.2.2.2.1, HG.out.2.2.1.2⟩⟩, HG.out.2.1, .inr ⟨_, rfl, Nat.le_of_eq HHH.out⟩⟩
/-- slices.Insert of one element into a row of its own, wherever -/
theorem ins_anyUs (A : Option Addr) (n c i : Nat) (xs vs : List Value) (w : World) (hn : n ≤ 65536) (hi : i ≤ n) (ho : w.ownsRow 0 37 3 (.slice A n c) n xs) (h1x : ∀ u ∈ xs, u.oneCell' = true) (vb : Nat) (hv : vs.length = 3) (hvr : IsRow w vb 37 vs) (hvA : ∀ a, A = some a → vb ≠ a.block) (h1 : ∀ u ∈ vs, u.oneCell' = true) :
    Calls Try.prog 25 #[.slice A n c, .int .i64 (i : Int), .slice (some ⟨vb, 0, none⟩) 1 1] w (InsResUs A n (putAt 3 xs vs i) w) := by
  by_cases hin : i = n
  · subst hin
    exact ins_endUs A i c xs vs w hn ho vb hv (fun j u hu => by rw [hvr.cell]; exact hu) hvr.lt h1
  · obtain ⟨g, cap, he, _, _⟩ := ho.form (by omega)
    have hA : A = some ⟨g, 0, none⟩ := by injection he
    subst hA
    by_cases hr : n + 1 ≤ c
    · exact ins_shiftUs g n c i xs vs w hn (by omega) hr ho h1x vb hv hvr (hvA _ rfl) h1
    · exact ins_growUs g n c i xs vs w hn (by omega) (by omega) ho h1x vb hv hvr h1
end
end Go.Proofs.Ytcmgnjdhjnclkaa.S
