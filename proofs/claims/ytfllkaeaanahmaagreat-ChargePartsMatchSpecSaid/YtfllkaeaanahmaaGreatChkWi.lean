/- Joined texts: ChkV2, ChkV3. Conditions: as each part says. -/
import Derived.Test.YtfllkaeaanahmaaGreatChkV
namespace Go.Proofs.YtfllkaeaanahmaaGreat
set_option linter.unusedVariables false
set_option linter.unusedSimpArgs false
section
open Go.RowKit
theorem run_cutHiA {P : Program} (w : World) {t e : TypeId} {z : Value} {size bytes : Nat} (E : ElemT P t e z size bytes) (b off n c h : Nat) (kh : IntKind) (hh : h ≤ c) (hc : 0 < c) :
  (Instr.sliceAt t (.slice (some ⟨b, off, none⟩) n c) none (some (.int kh h)) none).run P w = .ok (.slice (some ⟨b, off, none⟩) h c) w := by
 obtain ⟨i, hi, hz, hsize, hby⟩ := info_parts E.info
 simp [Instr.sliceAt, run_underlying E.sl, Instr.slice, Instr.sliceBounds, run_sliceBound, hh, sizeOf, typeInfo, hi, hsize, Addr.add_lit]
def InsResRf (n : Nat) (xs : List Value) (w : World) (e : Ending) (w' : World) : Prop :=
 ∃ A' c', e = .returned (.slice A' (n + 1) c') ∧ w'.ownsRow w.heap.size 76 2 (.slice A' (n + 1) c') (n + 1) xs ∧ Below w.heap.size w w'
theorem wpList_appArg {P : Program} {w : World} {t e : TypeId} {z : Value} {size bytes : Nat} {ops : Array Oper} {rest : List Oper} {o : Oper} {a : Act} {Q : Exit → Act → World → Prop} (hgd : o.guard = none) (s x : Operand)
  (ho : o.op = .call { callee := .builtin .append, args := #[s, x], argTypes := #[t, t] }) (E : ElemT P t e z size bytes)
  (b : Addr) (n : Nat) (xs : List Value) (p : Addr) (m c : Nat) (news : List Value) (hs : a.eval s = .slice (some b) n n) (hx : a.eval x = .slice (some p) m c) (hl : xs.length = n * size) (hr0 : ∀ j u, xs[j]? = some u → w.cell? (b.add j) = some u) (hm : 0 < m) (hnl : news.length = m * size)
  (hr : ∀ j u, news[j]? = some u → w.cell? (p.add j) = some u) (hb : (n + m) * bytes ≤ 140737488355328)
  (h : ∀ A' c' w', w'.ownsRow w.heap.size e size (.slice A' (n + m) c') (n + m) (xs ++ news) → Below w.heap.size w w' → wpList P ops Q rest (a.put o.dst (.slice A' (n + m) c')) w') : wpList P ops Q (o :: rest) a w := by
 refine wpList_plain hgd fun K hK => ?_
 obtain ⟨i, hi, hz, hsize, hby⟩ := info_parts E.info
 obtain ⟨v', w', hrun, r1, r2⟩ := run_append_arg_grows (P := P) w t o.type e i z size bytes E.sl hi hz hsize hby E.zs E.pos b n n xs hl hr0 p m c news hnl hr (by omega) (le_maxLen hb E.bpos) hb
 obtain ⟨A', c', rfl⟩ : ∃ A' c', v' = .slice A' (n + m) c' := by
  obtain ⟨A', c', rfl⟩ := own_slice r1
  rcases r1.2 with ⟨_, h5⟩ | ⟨g, cap, cur, h4, _⟩
  ·
   omega
  ·
   injection h4 with h4a h4b h4c; exact ⟨_, _, rfl⟩
 unfold Oper.wp execOp
 simp only [ho, resolve, invoke, builtin, Sem.run_bind, Sem.run_pure, Result.andThen_ok, List.map_toArray, List.map_cons, List.map_nil, hs, hx, hrun]
 exact hK _ _ (h A' c' w' r1 ((Below.refl _ _).grown r2 (Nat.le_refl _) (by intro k hk; cases hk)))
set_option maxRecDepth 100000 in
set_option maxHeartbeats 1600000 in
theorem ins_endRf (b off n : Nat) (xs vs : List Value) (w : World) (hn : n ≤ 65536) (h0 : 0 < n) (hr : Rd w w.heap.size 2 (some ⟨b, off, none⟩) n xs) (vb : Nat) (hv : vs.length = 2) (hvr : IsRow w vb 76 vs) :
  Calls Tryz.prog 98 #[.slice (some ⟨b, off, none⟩) n n, .int .i64 (n : Int), .slice (some ⟨vb, 0, none⟩) 1 1] w (InsResRf n (putAt 2 xs vs n) w) := by
 have hcut := fun W => run_cutFrom (P := Tryz.prog) W refT (some ⟨b, off, none⟩) n n n .i64 (Nat.le_refl _)
 simp only [if_true] at hcut
 have hp : putAt 2 xs vs n = xs ++ vs := by
  unfold putAt; rw [List.take_of_length_le (by rw [hr.1]; exact Nat.le_refl _), List.drop_eq_nil_of_le (by rw [hr.1]; exact Nat.le_refl _), List.append_nil]
 have hrc : ∀ j u, xs[j]? = some u → w.cell? ((⟨b, off, none⟩ : Addr).add j) = some u := fun j u hu => by
  obtain ⟨b1, o1, e1, _, hc1⟩ := hr.2 h0
  have e1 := Option.some.inj e1
  obtain rfl : b = b1 := congrArg Addr.block e1
  obtain rfl : off = o1 := congrArg Addr.off e1
  rw [Addr.add_lit]; exact hc1 j u hu
 have hvc : ∀ j u, vs[j]? = some u → w.cell? ((⟨vb, 0, none⟩ : Addr).add j) = some u := fun j u hu => by
  rw [Addr.add_lit, Nat.zero_add, hvr.cell]; exact hu
 have HP := Lib.hid hp
 have HR := Lib.hid (And.intro hr.1 (And.intro hrc (And.intro hvc hv)))
 clear hp hr hrc hvc hv hvr
 go_enter Tryz.func98, Tryz.ntmps98
 go_wp2_with (at_builtin; refine wpList_appArg rfl (.tmp 23) (.tmp 24) rfl refT ⟨b, off, none⟩ n xs ⟨vb, 0, none⟩ 1 1 vs rfl rfl HR.out.1 HR.out.2.1 (by omega) (by rw [HR.out.2.2.2]) HR.out.2.2.1 (by omega) ?_; intro A' c' w' h2 h3)
 go_ret
 rw [HP.out]
 exact ⟨A', c', rfl, h2, h3⟩
set_option maxRecDepth 100000 in
set_option maxHeartbeats 3200000 in
theorem ins_growRf (b off n i : Nat) (xs vs : List Value) (w : World) (hn : n ≤ 65536) (hi : i < n) (hr : Rd w w.heap.size 2 (some ⟨b, off, none⟩) n xs) (h1x : ∀ u ∈ xs, u.oneCell' = true) (vb : Nat) (hv : vs.length = 2) (hvr : IsRow w vb 76 vs) (h1 : ∀ u ∈ vs, u.oneCell' = true) :
  Calls Tryz.prog 98 #[.slice (some ⟨b, off, none⟩) n n, .int .i64 (i : Int), .slice (some ⟨vb, 0, none⟩) 1 1] w (InsResRf n (putAt 2 xs vs i) w) := by
 have hxl := hr.1
 have hroom : n < n + 1 := by omega
 have hcm : n ≤ 9223372036854775807 := by omega
 obtain ⟨hgl, hxc⟩ : b < w.heap.size ∧ ∀ (j : Nat) (u : Value), xs[j]? = some u → w.cell? ⟨b, off + j, none⟩ = some u := by
  obtain ⟨b1, o1, e1, h2, hc1⟩ := hr.2 (by omega)
  have e1 := Option.some.inj e1
  obtain rfl : b = b1 := congrArg Addr.block e1
  obtain rfl : off = o1 := congrArg Addr.off e1
  exact ⟨h2, hc1⟩
 have hsz : (Tryz.prog.info? 76).map (·.size) = some 2 := sizeRf
 obtain ⟨i0, hi0, hz0, hzs, hzb⟩ := info_parts refT.info
 have hdl : (xs.drop (i * 2)).length = (n - i) * 2 := by rw [List.length_drop, hxl, Nat.sub_mul]
 have hold : (Builtin.firstCells i0.size i (.slice (some ⟨b, off, none⟩) i n)).run Tryz.prog w.drew = .ok (xs.take (i * 2)).toArray w.drew := by
  rw [hzs]
  exact run_firstCells_some w.drew 2 i ⟨b, off, none⟩ i n (xs.take (i * 2)) (by rw [List.length_take, hxl]; have := Nat.mul_le_mul_right 2 (Nat.le_of_lt hi); omega) (fun j u hu => by
   rw [Addr.add_lit]
   rw [List.getElem?_take] at hu
   split at hu
   ·
    exact hxc j u hu
   ·
    cases hu)
 have hkk : (n : Int) + 1 - (i : Int) = ((n + 1 - i : Nat) : Int) := by omega
 have hik : i + (n + 1 - i) = n + 1 := by omega
 obtain ⟨G, hG⟩ : ∃ G, grownCap w (n + 1) n 76 = G := ⟨_, rfl⟩
 have hGn : n + 1 ≤ G := by rw [← hG]; exact grownCap_ge w _ _ _
 have hGm : G ≤ maxLen := by rw [← hG]; exact grownCap_le_maxLen w (n + 1) n _ (by unfold maxLen; omega)
 have hG63 : G ≤ 9223372036854775807 := hGm
 obtain ⟨H, hH⟩ : ∃ H, w.heap.size = H := ⟨_, rfl⟩
 obtain ⟨zc, hzc⟩ : ∃ zc, Builtin.zeroCells (Value.agg #[.int .i64 0, .int .i64 0]).cells (n + 1 - i) ++ Builtin.zeroCells (Value.agg #[.int .i64 0, .int .i64 0]).cells (G - (n + 1)) = zc := ⟨_, rfl⟩
 obtain ⟨R, hR⟩ : ∃ R : Array Value, (xs.take (i * 2)).toArray ++ zc = R := ⟨_, rfl⟩
 have hRl : R.toList = xs.take (i * 2) ++ zc.toList := by rw [← hR]; simp
 have hRs : R.size = G * 2 := by
  rw [← hR, ← hzc]
  simp only [Array.size_append, List.size_toArray, List.length_take, size_zeroCells, refT.zs, hxl]
  have h1 := Nat.mul_le_mul_right 2 (Nat.le_of_lt hi)
  rw [Nat.min_eq_left h1, ← Nat.add_mul, ← Nat.add_mul]
  congr 1; omega
 obtain ⟨W1, hW1⟩ : ∃ W1, w.drew.alloc (.cells R 76) = W1 := ⟨_, rfl⟩
 have hrz : ∀ ty, (Builtin.append_ #[66, 3] ty #[.slice (some ⟨b, off, none⟩) i n, .int .i64 ((n : Int) + 1 - (i : Int))]).run Tryz.prog w = .ok (.slice (some ⟨H, 0, none⟩) (n + 1) G) W1 := fun ty => by
  have h := Lib.run_append_grow_zeros w 66 3 ty 76 i0 _ .i64 .i64 refT.sl Tryz.underlying3 hi0 hz0 (some ⟨b, off, none⟩) i n (xs.take (i * 2)) hold (n + 1 - i) (by omega) (by omega) (by omega) (by omega) (by rw [hzb]; omega) (by rw [hzb, hik]; exact growslice_fits hroom (by omega))
  rw [hik, hG, hH, Array.append_assoc, hzc, hR, hW1] at h
  rw [hkk]
  exact h
 have hg1 : W1.heap[H]? = some (.cells R 76 (0, 0)) := by rw [← hW1, ← hH]; exact heap_alloc_new w.drew _
 have hold1 : ∀ k, k < H → W1.heap[k]? = w.heap[k]? := fun k hk => by rw [← hW1]; exact Below.heap_alloc w.drew _ k (by rw [← hH] at hk; exact hk)
 have hgl' : b < H := by rw [← hH]; exact hgl
 have hvl' : vb < H := by rw [← hH]; exact hvr.lt
 have hmul : (i + 1) * 2 = i * 2 + 2 := by omega
 have hmG := Nat.mul_le_mul_right 2 hGn
 have hmi := Nat.mul_le_mul_right 2 hi
 have e1 : (n - i) * 2 = n * 2 - i * 2 := Nat.sub_mul _ _ _
 have e2 : (n + 1) * 2 = n * 2 + 2 := by omega
 have hgl2 := grow_list (R := R.toList) (xs := xs) (vs := vs) (a := i * 2) (s := 2) (N := n * 2) hRl hxl (by omega) hv (by rw [Array.length_toList, hRs]; omega)
 obtain ⟨R2, hR2⟩ : ∃ R2 : Array Value, (R.toList.take (i * 2) ++ vs ++ R.toList.drop (i * 2 + vs.length)).toArray = R2 := ⟨_, rfl⟩
 obtain ⟨R3, hR3⟩ : ∃ R3 : Array Value, (R2.toList.take (i * 2 + 2) ++ xs.drop (i * 2) ++ R2.toList.drop (i * 2 + 2 + (xs.drop (i * 2)).length)).toArray = R3 := ⟨_, rfl⟩
 have hs2 : R2.size = R.size := by have := hgl2.2.1; rw [← hR2, List.size_toArray, this, Array.length_toList]
 have hs3 : R3.size = R.size ∧ R3.toList.take ((n + 1) * 2) = putAt 2 xs vs i := by
  rw [← hR3, ← hR2, List.size_toArray, List.toList_toArray, hgl2.2.2, Array.length_toList, e2]
  exact ⟨rfl, hgl2.1⟩
 obtain ⟨W2, hW2⟩ : ∃ W2, W1.setRow H R2 = W2 := ⟨_, rfl⟩
 obtain ⟨W3, hW3⟩ : ∃ W3, W2.drew.setRow H R3 = W3 := ⟨_, rfl⟩
 have hg2 : W2.heap[H]? = some (.cells R2 76 (0, 0)) := by rw [← hW2]; exact setRow_heap W1 H R _ _ _ hg1
 have hg3 : W3.heap[H]? = some (.cells R3 76 (0, 0)) := by rw [← hW3]; exact setRow_heap W2.drew H R2 _ _ _ hg2
 have hold2 : ∀ k, k < H → W2.heap[k]? = w.heap[k]? := fun k hk => by rw [← hW2]; exact (setRow_other W1 H k _ (by omega)).trans (hold1 k hk)
 have hgr : w.grownBy W3 none := by
  refine ⟨by rw [← hW3, ← hW2, ← hW1]; rfl, by rw [← hW3, ← hW2, ← hW1]; rfl, by rw [← hW3, ← hW2, ← hW1]; rfl, by rw [← hW3, ← hW2, ← hW1]; simp [World.setRow], fun k hk _ => ?_⟩
  rw [hH] at hk
  rw [← hW3]
  exact (setRow_other W2.drew H k _ (by omega)).trans (hold2 k hk)
 have hcpA : ∀ ty dc, (Builtin.copy_ #[66, 66] ty #[.slice (some ⟨H, i * 2, none⟩) (n + 1 - i) dc, .slice (some ⟨vb, 0, none⟩) 1 1]).run Tryz.prog W1 = .ok (goInt (1 : Nat)) W2 := fun ty dc => by
  rw [run_copy_rowK (P := Tryz.prog) W1 66 66 ty 76 H (i * 2) (n + 1 - i) dc ⟨vb, 0, none⟩ 1 1 R 76 vs 2 1 refT.sl hsz (by show 1 = min _ _; omega) (by omega) hg1 (fun j u hu => by rw [Addr.add_lit, Nat.zero_add, (hvr.keep (hold1 vb hvl')).cell]; exact hu) (by rw [hv, hRs]; omega) h1, hR2, hW2]
 have hcpB : ∀ ty dc sc, (Builtin.copy_ #[66, 66] ty #[.slice (some ⟨H, (i + 1) * 2, none⟩) (n - i) dc, .slice (some ⟨b, off + i * 2, none⟩) (n - i) sc]).run Tryz.prog W2.drew = .ok (goInt (n - i : Nat)) W3 := fun ty dc sc => by
  rw [run_copy_rowK (P := Tryz.prog) W2.drew 66 66 ty 76 H ((i + 1) * 2) (n - i) dc ⟨b, off + i * 2, none⟩ (n - i) sc R2 76 (xs.drop (i * 2)) 2 (n - i) refT.sl hsz (by show n - i = min _ _; omega) hdl hg2 (fun j u hu => by rw [Addr.add_lit]; exact (World.cell?_of_block (a := ⟨b, off + i * 2 + j, none⟩) (hold2 b hgl')).trans (by rw [Nat.add_assoc]; exact hxc _ _ (by rwa [List.getElem?_drop] at hu))) (by rw [hdl, hmul, hs2, hRs]; omega) (fun u hu => h1x u (List.mem_of_mem_drop hu)), hmul, hR3, hW3]
 have hcut0 := fun W => run_cutFrom (P := Tryz.prog) W refT (some ⟨b, off, none⟩) n n i .i64 (by omega)
 have hcut1 := fun W => run_cutHiA (P := Tryz.prog) W refT b off n n i .i64 (by omega) (by omega)
 have hcut2 := fun W => run_cutFrom (P := Tryz.prog) W refT (some ⟨H, 0, none⟩) (n + 1) G i .i64 (by omega)
 have hcut3 := fun W => run_cutFrom (P := Tryz.prog) W refT (some ⟨H, 0, none⟩) (n + 1) G (i + 1) .i64 (by omega)
 have n1 : ¬ n = i := by omega
 have n2 : ¬ G = i := by omega
 have n3 : ¬ G = i + 1 := by omega
 simp only [if_neg n1, if_neg n2, if_neg n3, Option.map_some, Addr.add_lit, Nat.zero_add, Int.natCast_add, Int.cast_ofNat_Int, Nat.add_sub_add_right] at hcut0 hcut1 hcut2 hcut3
 have HG := Lib.hid (And.intro hg3 (And.intro hgr (And.intro hs3 (And.intro hRs (And.intro hGn hGm)))))
 have HHH := Lib.hid hH
 have HXL := Lib.hid (putAt_len (i := i) hxl hv (by omega))
 have hz2 : ¬ ((i : Int) = (n : Int)) := by omega
 have hz3 : (n : Int) < (n : Int) + 1 := by omega
 have hw1 : IntKind.i64.wrap ((i : Int) + 1) = (i : Int) + 1 := IntWalk.i64_in _ (by omega)
 have hb1 : (0 : Int) ≤ (i : Int) + 1 := by omega
 clear hH hzc hR hRl hRs hW1 hg1 hold1 hgl' hvl' hmul hmG hmi e1 e2 hgl2 hR2 hR3 hs2 hs3 hW2 hW3 hg2 hg3 hold2 hgr hdl hold hkk hik hG hGn hGm hxc hxl hsz hv h1 h1x n1 n2 n3 hvr hr hgl hi0 hz0 hzs hzb
 go_enter Tryz.func98, Tryz.ntmps98
 go_wp2_with (first
  | (at_builtin; refine Lib.wpList_append_run _ rfl _ _ _ _ rfl _ _ rfl rfl _ _ (hrz _) ?_)
  | (at_builtin; refine Go.Proofs.wpList_copy_runI _ rfl _ _ 66 66 rfl _ _ rfl rfl (hcpA _ _) ?_))
 go_region_law (refine step_copy_runI rfl _ _ 66 66 rfl _ _ (by simp [Act.eval, Act.put]) (by simp [Act.eval, Act.put]) (hcpB _ _ _) ?_)
 go_wp2
 go_ret
 refine ⟨some ⟨H, 0, none⟩, G, rfl, ⟨HXL.out, .inr ⟨H, G, R3, rfl, Nat.le_of_eq HHH.out, HG.out.1, HG.out.2.2.2.2.1, HG.out.2.2.2.2.2, by rw [HG.out.2.2.1.1]; exact HG.out.2.2.2.1, HG.out.2.2.1.2⟩⟩, (Below.refl _ _).grown HG.out.2.1 (Nat.le_refl _) (by intro k hk; cases hk)⟩
end
section
open Go.RowKit
def WithRes (l' : List Chk.Rf) (w : World) (e : Ending) (w' : World) : Prop :=
 ∃ A' c', e = .returned (.slice A' l'.length c') ∧ w'.ownsRow w.heap.size 76 2 (.slice A' l'.length c') l'.length (rfs l') ∧ Below w.heap.size w w'
theorem putAt_rfs (l : List Chk.Rf) (r : Chk.Rf) (k : Nat) : putAt 2 (rfs l) (rfCells r) k = rfs (l.take k ++ r :: l.drop k) := by
 unfold putAt
 rw [flat_take (f := rfCells) (sz := 2) (fun _ _ => rfl), flat_drop (f := rfCells) (sz := 2) (fun _ _ => rfl), rfs_app, List.append_assoc]
 rfl
theorem run_buildS2 (w : World) (A1 A2 : Option Addr) (n1 c1 n2 c2 : Nat) : (Instr.buildSlice 169 2 #[(0, .slice A1 n1 c1), (1, .slice A2 n2 c2)]).run Tryz.prog w = .ok (.slice (some ⟨w.heap.size, 0, none⟩) 2 2) (w.alloc (.cells #[.slice A1 n1 c1, .slice A2 n2 c2] 66)) := by
 kernel_rfl
theorem wp_buildS2 {o : Oper} {a : Act} {w : World} {K : Act → World → Prop} {Q : Exit → Act → World → Prop} (x y : Operand) (ho : o.op = .buildSlice 169 2 #[(0, x), (1, y)]) (A1 : Option Addr) (n1 c1 : Nat) (A2 : Option Addr) (n2 c2 : Nat) (hx : a.eval x = .slice A1 n1 c1) (hy : a.eval y = .slice A2 n2 c2)
  (h : K (a.put o.dst (.slice (some ⟨w.heap.size, 0, none⟩) 2 2)) (w.alloc (.cells #[.slice A1 n1 c1, .slice A2 n2 c2] 66))) : o.wp Tryz.prog a w K Q := by
 unfold Oper.wp execOp
 simp only [ho, List.map_toArray, List.map_cons, List.map_nil, hx, hy, Sem.run_bind, Sem.run_pure, run_buildS2 w, Result.andThen_ok]
 exact h
theorem lb_len (l : List Chk.Rf) (t : Int) : Chk.lb (Chk.keys l) t ≤ l.length := by have := Chk.lb_le (Chk.keys l) t; simpa [Chk.keys] using this
set_option maxRecDepth 100000 in
set_option maxHeartbeats 1600000 in
theorem with_new (b off n c : Nat) (l : List Chk.Rf) (hl : l.length = n) (h0 : 0 < n) (hn : n ≤ 1000) (hnc : n ≤ c) (hcm : c ≤ maxLen) (hup : Chk.Up (Chk.keys l)) (w : World) (hr : Rd w w.heap.size 2 (some ⟨b, off, none⟩) n (rfs l)) (tn m : Int) (hm : 0 < m) (hf : ¬ (Chk.keys l)[Chk.lb (Chk.keys l) tn]? = some tn) :
  Calls Tryz.prog 68 #[.slice (some ⟨b, off, none⟩) n c, .int .i64 tn, .int .i64 m] w (WithRes (Chk.withR l tn m) w) := by
 rw [Chk.withR_new hup hm hf]
 have HP := Lib.hid (place_any (some ⟨b, off, none⟩) n c l hl (by omega) hnc hup w.heap.size w hr (Nat.le_refl _) tn false (decide_eq_false hf))
 have hk := lb_len l tn
 generalize Chk.lb (Chk.keys l) tn = k at HP hk ⊢
 have hcm2 : c ≤ 9223372036854775807 := hcm
 have HI := Lib.hid (fun (W : World) (hW : Below w.heap.size w W) (vb : Nat) (hv : IsRow W vb 76 (rfCells ⟨tn, m⟩)) => show Calls Tryz.prog 98 #[.slice (some ⟨b, off, none⟩) n n, .int .i64 (k : Int), .slice (some ⟨vb, 0, none⟩) 1 1] W (InsResRf n (putAt 2 (rfs l) (rfCells ⟨tn, m⟩) k) W) from by
  have hr' := (hr.below hW).more hW.size
  by_cases e : k = n
  ·
   rw [e]; exact ins_endRf b off n (rfs l) _ W (by omega) h0 hr' vb rfl hv
  ·
   exact ins_growRf b off n k (rfs l) _ W (by omega) (by omega) hr' (rfs_one l) vb rfl hv (by intro u hu; simp only [rfCells, List.mem_cons, List.not_mem_nil, or_false] at hu; rcases hu with rfl | rfl <;> rfl))
 have HPR := Lib.hid (putAt_rfs l ⟨tn, m⟩ k)
 have HLL := Lib.hid (show (l.take k ++ ⟨tn, m⟩ :: l.drop k).length = n + 1 by simp; omega)
 clear hf hup hr hl hm hk hcm
 go_enter Tryz.func68, Tryz.ntmps68
 go_wp2_with (first
  | (go_at_call 97; refine HP.out.mono ?_; rintro e w1 ⟨rfl, b1⟩)
  | (go_at_call 98; refine (HI.out _ (b1.alloc b1.size _) w1.heap.size (IsRow.new w1 76 (rfCells ⟨tn, m⟩))).mono ?_; rintro e w3 ⟨A3, c3, rfl, own3, b3⟩))
 go_ret
 rw [HPR.out] at own3
 have hs := b1.size
 refine ⟨A3, c3, by rw [HLL.out]; rfl, ?_, (b1.alloc b1.size _).trans (b3.mono (by simp; omega))⟩
 rw [HLL.out]
 exact own_base own3 (by simp; omega)
set_option maxRecDepth 100000 in
set_option maxHeartbeats 1600000 in
theorem with_set (b off n c : Nat) (l : List Chk.Rf) (hl : l.length = n) (h0 : 0 < n) (hn : n ≤ 1000) (hnc : n ≤ c) (hcm : c ≤ maxLen) (hup : Chk.Up (Chk.keys l)) (w : World) (hr : Rd w w.heap.size 2 (some ⟨b, off, none⟩) n (rfs l)) (tn m : Int) (hm : 0 < m) (hf : (Chk.keys l)[Chk.lb (Chk.keys l) tn]? = some tn) :
  Calls Tryz.prog 68 #[.slice (some ⟨b, off, none⟩) n c, .int .i64 tn, .int .i64 m] w (WithRes (Chk.withR l tn m) w) := by
 rw [Chk.withR_set hup hm hf]
 have HP := Lib.hid (place_any (some ⟨b, off, none⟩) n c l hl (by omega) hnc hup w.heap.size w hr (Nat.le_refl _) tn true (decide_eq_true hf))
 have hk : Chk.lb (Chk.keys l) tn < n := by have := (List.getElem?_eq_some_iff.1 hf).1; rw [← hl]; simpa [Chk.keys] using this
 have hfr : (l.getD (Chk.lb (Chk.keys l) tn) ⟨0, 0⟩).t = tn := by
  have hk' : Chk.lb (Chk.keys l) tn < l.length := by rw [hl]; exact hk
  have h1 := hf
  unfold Chk.keys at h1
  rw [List.getElem?_map] at h1
  obtain ⟨y, hy, hy2⟩ := Option.map_eq_some_iff.1 h1
  rw [List.getD]
  unfold Chk.keys at hk' ⊢
  rw [hy]; exact hy2
 generalize Chk.lb (Chk.keys l) tn = k at HP hk hfr ⊢
 have HCL := Lib.hid (fun (W : World) (hW : Below w.heap.size w W) => cloneR (some ⟨b, off, none⟩) n c l hl (by omega) w.heap.size W (hr.below hW) hW.size)
 have HS := Lib.hid (show (rfs l).set (k * 2 + 1) (.int .i64 m) = rfs (l.set k ⟨tn, m⟩) from flat_set (f := rfCells) (sz := 2) (D := l) (k := k) (j := 1) (y := ⟨tn, m⟩) (fun _ _ => rfl) (x := l.getD k ⟨0, 0⟩) (by rw [List.getD, List.getElem?_eq_getElem (by omega)]; rfl) (by decide) (by show rfCells _ = _; rw [← hfr]; rfl))
 have HLL := Lib.hid (show (l.set k ⟨tn, m⟩).length = n ∧ (rfs l).length = n * 2 from ⟨by rw [List.length_set, hl], by rw [rfs_len, hl]⟩)
 have HXC := Lib.hid (show (rfs l)[k * 2 + 1]? = some (.int .i64 (l.getD k ⟨0, 0⟩).n) from by
  have hk' : k < l.length := by omega
  have := flatMap_get? (f := rfCells) (D := l) (sz := 2) (fun _ _ => rfl) hk' (show 1 < 2 by omega)
  rw [this, List.getD, List.getElem?_eq_getElem hk']; rfl)
 have e1 : (0 : Int) ≤ (k : Int) := by omega
 have e2 : (k : Int) < (n : Int) := by omega
 have e3 : ¬ m = 0 := by omega
 clear hf hup hr hl hm hcm hfr
 go_enter Tryz.func68, Tryz.ntmps68
 go_upto_region 7 with (first
  | (go_at_call 97; refine HP.out.mono ?_; rintro e w1 ⟨rfl, b1⟩)
  | (go_at_call 100; refine (HCL.out _ b1).mono ?_; rintro e w3 ⟨A3, c3, rfl, own3, b3⟩))
 obtain ⟨g, cap, hv, hg, hlt⟩ := own3.form h0
 obtain rfl : A3 = some ⟨g, 0, none⟩ := by injection hv
 have kc : w3.cell? ⟨g, k * 2 + 1, none⟩ = some (.int .i64 (l.getD k ⟨0, 0⟩).n) := by
  have := own3.cells (g := g) rfl (k * 2 + 1) _ HXC.out
  rwa [Addr.add_lit, Nat.zero_add] at this
 have kf : w3.frozen? ⟨g, k * 2 + 1, none⟩ = false := own3.frozenAt (k * 2 + 1)
 have HB3 := Lib.hid (b1.trans (b3.mono b1.size))
 have HO3 := Lib.hid (own_base own3 b1.size)
 have HG := Lib.hid (show w.heap.size ≤ g by have := b1.size; omega)
 clear hv hg hlt own3 b3 b1
 go_wp2
 go_ret
 have ho := own_set HO3.out (j := k * 2 + 1) (by rw [HLL.out.2]; omega) (.int .i64 m)
 rw [HS.out] at ho
 refine ⟨some ⟨g, 0, none⟩, c3, by rw [HLL.out.1]; rfl, ?_, HB3.out.setCell HG.out _⟩
 rw [HLL.out.1]
 exact ho
set_option maxRecDepth 100000 in
set_option maxHeartbeats 1600000 in
theorem with_none (b off n c : Nat) (l : List Chk.Rf) (hl : l.length = n) (h0 : 0 < n) (hn : n ≤ 1000) (hnc : n ≤ c) (hcm : c ≤ maxLen) (hup : Chk.Up (Chk.keys l)) (w : World) (hr : Rd w w.heap.size 2 (some ⟨b, off, none⟩) n (rfs l)) (tn m : Int) (hm : m = 0) (hf : (Chk.keys l)[Chk.lb (Chk.keys l) tn]? = some tn) :
  Calls Tryz.prog 68 #[.slice (some ⟨b, off, none⟩) n c, .int .i64 tn, .int .i64 m] w (WithRes (Chk.withR l tn m) w) := by
 subst hm
 rw [Chk.withR_none hup hf]
 have HP := Lib.hid (place_any (some ⟨b, off, none⟩) n c l hl (by omega) hnc hup w.heap.size w hr (Nat.le_refl _) tn true (decide_eq_true hf))
 have hk : Chk.lb (Chk.keys l) tn < n := by have := (List.getElem?_eq_some_iff.1 hf).1; rw [← hl]; simpa [Chk.keys] using this
 generalize Chk.lb (Chk.keys l) tn = k at HP hk ⊢
 have hcm2 : c ≤ 9223372036854775807 := hcm
 have hw1 : IntKind.i64.wrap ((k : Int) + 1) = (k : Int) + 1 := IntWalk.i64_in _ (by omega)
 have HC1 := Lib.hid (fun W => run_cutHiA (P := Tryz.prog) W refT b off n c k .i64 (by omega) (by omega))
 obtain ⟨A2, hA2⟩ : ∃ A2, (if c = k + 1 then (some ⟨b, off, none⟩ : Option Addr) else (some ⟨b, off, none⟩ : Option Addr).map (·.add ((k + 1) * 2))) = A2 := ⟨_, rfl⟩
 have HC2 := Lib.hid (fun W => show (Instr.sliceAt 66 (.slice (some ⟨b, off, none⟩) n c) (some (.int .i64 ((k : Int) + 1))) none none).run Tryz.prog W = .ok (.slice A2 (n - (k + 1)) (c - (k + 1))) W from by
  have := run_cutFrom (P := Tryz.prog) W refT (some ⟨b, off, none⟩) n c (k + 1) .i64 (by omega)
  rw [hA2] at this
  exact this)
 have hr1 := hr.take (k := k) (by omega)
 have hr2 := hr.cut (k := k + 1) (cap := c) (by omega) hnc
 rw [hA2] at hr2
 rw [flat_take (f := rfCells) (sz := 2) (fun _ _ => rfl)] at hr1
 rw [flat_drop (f := rfCells) (sz := 2) (fun _ _ => rfl)] at hr2
 have HCC := Lib.hid (fun (W : World) (hW : Below w.heap.size w W) (vb : Nat) (hv : IsRow W vb 66 [.slice (some ⟨b, off, none⟩) k c, .slice A2 (n - (k + 1)) (c - (k + 1))]) => concatR_any (some ⟨vb, 0, none⟩) 2 2 [⟨some ⟨b, off, none⟩, k, c, l.take k⟩, ⟨A2, n - (k + 1), c - (k + 1), l.drop (k + 1)⟩] rfl (by omega) W.heap.size W (hv.rd rfl hv.lt) (fun y hy => by
  simp only [List.mem_cons, List.not_mem_nil, or_false] at hy
  rcases hy with rfl | rfl
  ·
   exact ⟨by simp; omega, (hr1.below hW).more hW.size⟩
  ·
   exact ⟨by simp; omega, (hr2.below hW).more hW.size⟩) (Nat.le_refl _) (by simp [catL]; omega))
 have HCT := Lib.hid (show catL [⟨some ⟨b, off, none⟩, k, c, l.take k⟩, ⟨A2, n - (k + 1), c - (k + 1), l.drop (k + 1)⟩] = l.take k ++ l.drop (k + 1) by simp [catL])
 obtain ⟨L', hL'⟩ : ∃ x, l.take k ++ l.drop (k + 1) = x := ⟨_, rfl⟩
 rw [hL'] at HCT ⊢
 clear hf hup hr hl hcm hr1 hr2 hA2 hL'
 go_enter Tryz.func68, Tryz.ntmps68
 go_upto_region 5 with (go_at_call 97; refine HP.out.mono ?_; rintro e w1 ⟨rfl, b1⟩)
 have hv0 : Below w1.heap.size w1 w1.drew := (Below.refl _ _).drew
 refine wp_region_held_drew (S := fun W => Below w1.heap.size w1 W) (by kernel_rfl) (hv0) (fun hHeld => ?_)
 refine wpAnyH_take (i := 0) (oi := { dst := some 34, op := Op.move (Operand.tmp 0), type := 66, pos := "chunks.go:115", after := #[], guard := none }) (v := ?v0_1) rfl (by kernel_rfl) (by kernel_rfl) (by kernel_rfl) (fun _ _ _ h => h) (Or.inl ⟨by rfl, ?h0_1⟩) (by assumption) ?r0_1
 case h0_1 =>
  intro W hSW
  try dsimp only at hSW
  go_simp
  try with_reducible rfl
 try simp only [PT]
 refine wpAnyH_take (i := 1) (oi := { dst := some 35, op := Op.move (Operand.tmp 7), type := 3, pos := "chunks.go:115", after := #[], guard := none }) (v := ?v1_2) rfl (by kernel_rfl) (by kernel_rfl) (by kernel_rfl) (fun _ _ _ h => h) (Or.inl ⟨by rfl, ?h1_2⟩) (by assumption) ?r1_2
 case h1_2 =>
  intro W hSW
  try dsimp only at hSW
  go_simp
  try with_reducible rfl
 try simp only [PT]
 refine wpAnyH_take (i := 2) (oi := { dst := some 36, op := Op.slice 66 (Operand.tmp 34) none (some (Operand.tmp 35)) none, type := 66, pos := "chunks.go:115", after := #[{ on := 0, ground := Ground.data }, { on := 1, ground := Ground.data }], guard := none }) (v := ?v2_3) rfl (by kernel_rfl) (by kernel_rfl) (by kernel_rfl) (fun _ _ _ h => h) (Or.inl ⟨by rfl, ?h2_3⟩) (by assumption) ?r2_3
 case h2_3 =>
  intro W hSW
  try dsimp only at hSW
  have hcut := HC1.out W
  go_simp
  try with_reducible rfl
 try simp only [PT]
 refine wpAnyH_take (i := 3) (oi := { dst := some 37, op := Op.move (Operand.tmp 0), type := 66, pos := "chunks.go:115", after := #[], guard := none }) (v := ?v3_4) rfl (by kernel_rfl) (by kernel_rfl) (by kernel_rfl) (fun _ _ _ h => h) (Or.inl ⟨by rfl, ?h3_4⟩) (by assumption) ?r3_4
 case h3_4 =>
  intro W hSW
  try dsimp only at hSW
  go_simp
  try with_reducible rfl
 try simp only [PT]
 refine wpAnyH_take (i := 4) (oi := { dst := some 38, op := Op.move (Operand.tmp 7), type := 3, pos := "chunks.go:115", after := #[], guard := none }) (v := ?v4_5) rfl (by kernel_rfl) (by kernel_rfl) (by kernel_rfl) (fun _ _ _ h => h) (Or.inl ⟨by rfl, ?h4_5⟩) (by assumption) ?r4_5
 case h4_5 =>
  intro W hSW
  try dsimp only at hSW
  go_simp
  try with_reducible rfl
 try simp only [PT]
 refine wpAnyH_take (i := 5) (oi := { dst := some 39, op := Op.binOp BinOp.add 3 (Operand.tmp 38) (Operand.const (Value.int IntKind.i64 1)) 3, type := 3, pos := "chunks.go:115", after := #[{ on := 4, ground := Ground.data }], guard := none }) (v := ?v5_6) rfl (by kernel_rfl) (by kernel_rfl) (by kernel_rfl) (fun _ _ _ h => h) (Or.inl ⟨by rfl, ?h5_6⟩) (by assumption) ?r5_6
 case h5_6 =>
  intro W hSW
  try dsimp only at hSW
  go_simp
  try with_reducible rfl
 try simp only [PT]
 refine wpAnyH_take (i := 6) (oi := { dst := some 40, op := Op.slice 66 (Operand.tmp 37) (some (Operand.tmp 39)) none none, type := 66, pos := "chunks.go:115", after := #[{ on := 3, ground := Ground.data }, { on := 5, ground := Ground.data }], guard := none }) (v := ?v6_7) rfl (by kernel_rfl) (by kernel_rfl) (by kernel_rfl) (fun _ _ _ h => h) (Or.inl ⟨by rfl, ?h6_7⟩) (by assumption) ?r6_7
 case h6_7 =>
  intro W hSW
  try dsimp only at hSW
  have hcut := HC2.out W
  go_simp
  try with_reducible rfl
 try simp only [PT]
 refine wpAnyH_ready (rs := [7]) (by kernel_rfl) (by simp) ?_
 refine AllReadyH.cons (o := { dst := some 41, op := Op.buildSlice 169 2 #[(0, Operand.tmp 36), (1, Operand.tmp 40)], type := 169, pos := "chunks.go:115", after := #[{ on := 2, ground := Ground.data }, { on := 6, ground := Ground.data }], guard := none }) rfl (fun K hK => ?_) AllReadyH.nil
 rw [if_pos (by rfl)]
 refine wp_buildS2 (.tmp 36) (.tmp 40) rfl (some ⟨b, off, none⟩) k c A2 (n - (k + 1)) (c - (k + 1)) rfl rfl ?_
 obtain ⟨vb, hvb⟩ : ∃ x, w1.drew.heap.size = x := ⟨_, rfl⟩
 have rv := IsRow.new w1.drew 66 [.slice (some ⟨b, off, none⟩) k c, .slice A2 (n - (k + 1)) (c - (k + 1))]
 obtain ⟨w91, hw91⟩ : ∃ x, w1.drew.alloc (.cells #[.slice (some ⟨b, off, none⟩) k c, .slice A2 (n - (k + 1)) (c - (k + 1))] 66) = x := ⟨_, rfl⟩
 rw [show ([.slice (some ⟨b, off, none⟩) k c, .slice A2 (n - (k + 1)) (c - (k + 1))] : List Value).toArray = #[.slice (some ⟨b, off, none⟩) k c, .slice A2 (n - (k + 1)) (c - (k + 1))] from rfl, hw91, hvb] at rv
 rw [hw91, hvb]
 have hv91 : Below w1.heap.size w1 w91 := by rw [← hw91]; exact (hv0).alloc (hv0).size _
 clear hw91 hvb
 refine hK.out _ _ (hv91) (fun hHeld => ?_)
 clear hK K
 try simp only [PT]
 refine wpAnyH_ready (rs := [8]) (by kernel_rfl) (by simp) ?_
 refine AllReadyH.cons (o := { dst := some 42, op := Op.call { callee := Callee.value (Operand.func 99), args := #[Operand.tmp 41], argTypes := #[169] }, type := 66, pos := "chunks.go:115", after := #[{ on := 7, ground := Ground.data }], guard := none }) rfl (fun K hK => ?_) AllReadyH.nil
 go_simp
 refine (HCC.out _ (b1.trans ((hv91).mono b1.size)) vb rv).mono ?_
 rintro e w92 ⟨A3, c3, rfl, own3, b92⟩
 have hv92 : Below w1.heap.size w1 w92 := (hv91).trans (b92.mono (hv91).size)
 rw [HCT.out] at own3 ⊢
 refine hK.out _ _ (hv92) (fun hHeld => ?_)
 clear hK K
 try simp only [PT]
 refine wpAnyH_take (i := 9) (oi := { dst := some 6, op := Op.assign (Operand.tmp 42), type := 66, pos := "chunks.go:115", after := #[{ on := 8, ground := Ground.data }, { on := 8, ground := Ground.chain }, { on := 0, ground := Ground.phase }, { on := 1, ground := Ground.phase }, { on := 2, ground := Ground.phase }, { on := 3, ground := Ground.phase }, { on := 4, ground := Ground.phase }, { on := 5, ground := Ground.phase }, { on := 6, ground := Ground.phase }, { on := 7, ground := Ground.phase }, { on := 8, ground := Ground.phase }], guard := none }) (v := ?v9_8) rfl (by kernel_rfl) (by kernel_rfl) (by kernel_rfl) (fun _ _ _ h => h) (Or.inl ⟨by rfl, ?h9_8⟩) (by assumption) ?r9_8
 case h9_8 =>
  intro W hSW
  try dsimp only at hSW
  go_simp
  try with_reducible rfl
 try simp only [PT]
 refine wpAnyH_done (by kernel_rfl) ?_ _
 have HO := Lib.hid (own_base own3 (b1.trans (hv91.mono b1.size)).size)
 have HBE := Lib.hid (b1.trans ((hv92).mono b1.size))
 clear own3
 go_wp2
 go_ret
 exact ⟨A3, c3, rfl, HO.out, HBE.out⟩
set_option maxRecDepth 100000 in
set_option maxHeartbeats 1600000 in
theorem with_any (b off n c : Nat) (l : List Chk.Rf) (hl : l.length = n) (h0 : 0 < n) (hn : n ≤ 1000) (hnc : n ≤ c) (hcm : c ≤ maxLen) (hup : Chk.Up (Chk.keys l)) (w : World) (hr : Rd w w.heap.size 2 (some ⟨b, off, none⟩) n (rfs l)) (tn m : Int) (hm : 0 < m ∨ (m = 0 ∧ (Chk.keys l)[Chk.lb (Chk.keys l) tn]? = some tn)) :
  Calls Tryz.prog 68 #[.slice (some ⟨b, off, none⟩) n c, .int .i64 tn, .int .i64 m] w (WithRes (Chk.withR l tn m) w) := by
 by_cases hf : (Chk.keys l)[Chk.lb (Chk.keys l) tn]? = some tn
 ·
  rcases hm with hm | ⟨hm, _⟩
  ·
   exact with_set b off n c l hl h0 hn hnc hcm hup w hr tn m hm hf
  ·
   exact with_none b off n c l hl h0 hn hnc hcm hup w hr tn m hm hf
 ·
  rcases hm with hm | ⟨_, hm⟩
  ·
   exact with_new b off n c l hl h0 hn hnc hcm hup w hr tn m hm hf
  ·
   exact absurd hm hf
end
end Go.Proofs.YtfllkaeaanahmaaGreat
