/- stripes.of as an iterator; Held, Free. Conditions: the rows are kept. -/
import Derived.Test.YtfllkaeaanahmaaGreatStrE
namespace Go.Proofs.YtfllkaeaanahmaaGreat.S
set_option linter.unusedVariables false
set_option linter.unusedSimpArgs false
open Go.RowKit Go.Shelf

attribute [local go_sem] Oper.semAt_some

theorem of_in (F : Fence) (n : Nat) (h5 : F.fn 110) (hro : F.round = none) (A : Option Addr) (m cp : Nat) (c : Int) (w : World) :
  CallsIn F n Tryz.prog 110 #[.slice A m cp, .int .i64 c] w fun e w' => e = .returned (.func (.func 122) #[] #[.pointer (some ⟨w.heap.size, 0, none⟩), .pointer (some ⟨w.heap.size + 1, 0, none⟩)]) ∧ w' = (w.alloc (.cells #[.slice A m cp] 25)).alloc (.cells #[.int .i64 c] 3) := by
 refine callsIn_of_wp Tryz.func110 rfl h5 ?_ hro
 simp only [Tryz.ntmps110, List.size_toArray, List.length_cons, List.length_nil, Nat.reduceAdd, Nat.reduceSub, Array.replicate_succ, Array.replicate_zero, List.push_toArray, List.append_toArray, List.nil_append, List.cons_append]
 gi_wp2
 go_ret
 exact ⟨rfl, rfl⟩
abbrev OfT (c : Int) (D : List RR) := { x : Nat × RR // D[x.1]? = some x.2 ∧ x.2.r.code = c }
theorem ofD_mem {c : Int} {D : List RR} : ∀ (E : List RR) (j : Nat), (∀ i x, E[i]? = some x → D[j + i]? = some x) → ∀ y ∈ ofD c E j, D[y.1]? = some y.2 ∧ y.2.r.code = c
 | [], _, _ => by intro y hy; cases hy
 | x :: E, j, h => by
  intro y hy
  have ih := ofD_mem (c := c) E (j + 1) (fun i x hx => by have := h (i + 1) x (by simpa using hx); rwa [show j + 1 + i = j + (i + 1) by omega])
  unfold ofD at hy
  split at hy
  ·
   rename_i hc
   rcases List.mem_cons.1 hy with rfl | hy
   ·
    exact ⟨h 0 x rfl, hc⟩
   ·
    exact ih y hy
  ·
   exact ih y hy
def ofS (c : Int) (D : List RR) : List (OfT c D) := (ofD c D 0).attachWith _ (ofD_mem D 0 (fun i x hx => by rw [Nat.zero_add]; exact hx))
theorem ofS_val (c : Int) (D : List RR) : (ofS c D).map Subtype.val = ofD c D 0 := by unfold ofS; exact List.attachWith_map_subtype_val _
theorem ofS_len (c : Int) (D : List RR) : (ofS c D).length = (ofD c D 0).length := by rw [← ofS_val c D, List.length_map]
abbrev ofEncs {c : Int} {D : List RR} (x : OfT c D) : Array Value := rowEncs x.1
theorem of_stops (F : Fence) (n : Nat) (h6 : F.fn 122) (hro : F.round = none) (hn : 1 ≤ n) (Br Bc n₀ m cp : Nat) (A : Option Addr) (D : List RR) (c : Int) (w : World) (rs : List Str.Rw) (hR : RowsAt w n₀ A m D rs) (hmc : m ≤ cp) (hw : n₀ ≤ w.heap.size) (hbr : Br < w.heap.size) (hbc : Bc < w.heap.size)
  (hBr : w.cell? ⟨Br, 0, none⟩ = some (.slice A m cp)) (hBc : w.cell? ⟨Bc, 0, none⟩ = some (.int .i64 c)) :
  SeqStopsK F n Tryz.prog 122 #[.pointer (some ⟨Br, 0, none⟩), .pointer (some ⟨Bc, 0, none⟩)] (ofEncs (c := c) (D := D)) (KeepsBox n₀ Bc) (fun ys => ys = ofS c D) (fun pre => pre <+: ofS c D) (ofS c D).length w := fun l J Jx W hW hJ _ hY h0 =>
 of1_in Subtype.val F n h6 hro hn l Br Bc n₀ m cp A D c w rs hR hmc hw hbc (ofS c D) (ofS_val c D) J Jx hY W hJ hW ((hW.cell (p := ⟨Br, 0, none⟩) hbr).trans hBr) ((hW.cell (p := ⟨Bc, 0, none⟩) hbc).trans hBc) h0
theorem ofD_len (c : Int) (D : List RR) (j : Nat) : (ofD c D j).length ≤ D.length := by
 induction D generalizing j with
 | nil => exact Nat.le_refl _
 | cons x D ih =>
  unfold ofD
  split
  ·
   rw [List.length_cons, List.length_cons]; have := ih (j + 1); omega
  ·
   rw [List.length_cons]; have := ih (j + 1); omega
def Str.held (l : List Str.Rw) (c : Int) : Nat := l.countP (fun r => decide (r.code = c))
theorem ofD_held (c : Int) (D : List RR) (j : Nat) : (ofD c D j).length = Str.held (D.map RR.r) c := by
 induction D generalizing j with
 | nil => rfl
 | cons x D ih =>
  unfold ofD Str.held
  rw [List.map_cons, List.countP_cons]
  by_cases h : x.r.code = c
  ·
   rw [if_pos h, List.length_cons, ih]; simp [h, Str.held]
  ·
   rw [if_neg h, ih]; simp [h, Str.held]
set_option maxRecDepth 100000 in
set_option maxHeartbeats 2000000 in
theorem held_any {w : World} {B m cp : Nat} {A : Option Addr} {D : List RR} {rs : List Str.Rw} (h : RowsAt w B A m D rs) (hB : B ≤ w.heap.size) (hmc : m ≤ cp) (c : Int) :
  Calls Tryz.prog 80 #[.slice A m cp, .int .i64 c] w fun e W' => e = .returned (.int .i64 (Str.held rs c : Nat)) ∧ Below w.heap.size w W' := by
 have HR := Lib.hid (h.more hB)
 have HLN : Hid ((ofS c D).length ≤ 65536) := Lib.hid (by have := ofS_len c D; have := ofD_len c D 0; have := h.len.1; have := h.mx; omega)
 have HHD : Hid ((ofS c D).length = Str.held rs c) := Lib.hid (by rw [ofS_len, ofD_held, h.rs])
 clear h hB
 refine (callsIn_wide (n := 6)).1 ?_
 refine callsIn_of_wp_marks Tryz.func80 rfl trivial ?_ rfl
 simp only [Tryz.ntmps80, List.size_toArray, List.length_cons, List.length_nil, Nat.reduceAdd, Nat.reduceSub, Array.replicate_succ, Array.replicate_zero, List.push_toArray, List.append_toArray, List.nil_append, List.cons_append]
 gi_wp2_with (refine ⟨trivial, ?_⟩; gi_at_call 110; refine (of_in Fence.wide _ trivial rfl _ _ _ _ _).mono ?_; rintro e w' ⟨rfl, rfl⟩)
 have bN := Boxed.new w 3 (.int .i64 0)
 have bR := Boxed.new (w.alloc (.cells #[.int .i64 0] 3)) 25 (.slice A m cp)
 have bC := Boxed.new ((w.alloc (.cells #[.int .i64 0] 3)).alloc (.cells #[.slice A m cp] 25)) 3 (.int .i64 c)
 rw [World.size_alloc] at bR
 rw [World.size_alloc, World.size_alloc] at bC
 have hB0 : Below w.heap.size w (((w.alloc (.cells #[.int .i64 0] 3)).alloc (.cells #[.slice A m cp] 25)).alloc (.cells #[.int .i64 c] 3)) := (((Below.refl _ w).alloc (Nat.le_refl _) _).alloc (by simp) _).alloc (by simp; omega) _
 refine wpIn_rangeFunc_ownG rfl (show 1 ≤ 6 by omega) (gf := 122) (lb := #[.pointer (some ⟨w.heap.size + 1, 0, none⟩), .pointer (some ⟨w.heap.size + 1 + 1, 0, none⟩)]) rfl trivial (enters_of Tryz.func122 (by kernel_rfl) rfl)
  (of_stops Fence.wide (6 - 1) trivial rfl (by omega) (w.heap.size + 1) (w.heap.size + 1 + 1) w.heap.size m cp A D c _ rs (HR.out.below hB0) hmc (by simp; omega) (by simp) (by simp) (bR.alloc _).cell bC.cell) keepsBox_t (keepsBox_b (by simp; omega) (by simp)) (Below.refl _ _) ?hps
  (fun pre W => (Boxed W w.heap.size 3 (.int .i64 (pre.length : Nat)) ∧ Boxed W (w.heap.size + 1 + 1) 3 (.int .i64 c)) ∧ Below w.heap.size w W)
  (fun _ _ _ => False)
  (OwnFrom.and (OwnFrom.and (Own.from (boxed_own _ _ (fun pre : List (OfT c D) => .int .i64 (pre.length : Nat))) _) (Own.from (boxed_own _ _ (fun _ => .int .i64 c)) _)) (ownFrom_below (Nat.le_refl _) (by simp; omega)))
  (fun _ _ _ _ _ hs _ _ => hs)
  ⟨⟨(bN.alloc _).alloc _, bC⟩, hB0⟩
  (fun x => { tmps := #[.slice A m cp, .int .i64 c, undef, undef, .int .i64 0, .pointer (some ⟨w.heap.size, 0, none⟩), .slice A m cp, .int .i64 c, .func (.func 122) #[] #[.pointer (some ⟨w.heap.size + 1, 0, none⟩), .pointer (some ⟨w.heap.size + 1 + 1, 0, none⟩)], .int .i64 (x.1.1 : Int), .agg (rwL x.1.2).toArray, undef, undef, undef], defers := [] }) ?assign ?body ?done ?stop
 case hps => intro x; rfl
 case assign =>
  intro l x W K hK
  gi_wp2
  simpa [ofEncs, rowEncs] using hK
 case body =>
  rintro l pre x W ⟨⟨hv, hb⟩, hB⟩ hlt
  have hc := hv.cell
  have hf := hv.frozen
  have e1 : IntKind.i64.wrap ((pre.length : Int) + 1) = ((pre.length + 1 : Nat) : Int) := by rw [IntWalk.i64_in _ (by have := HLN.out; omega)]; rfl
  gi_wp2
  have e2 : Value.int .i64 ((pre.length : Int) + 1) = .int .i64 ((pre ++ [x]).length : Nat) := by rw [List.length_append]; rfl
  rw [e2]
  have hB2 : Below w.heap.size W (W.setCell ⟨w.heap.size, 0, none⟩ (.int .i64 ((pre ++ [x]).length : Nat))) := (Below.refl _ W).setCell (p := ⟨w.heap.size, 0, none⟩) (Nat.le_refl _) _
  have hb2 := hb.other (B' := w.heap.size) (by omega) (.int .i64 ((pre ++ [x]).length : Nat))
  exact ⟨(KeepsOthers.setCell _ _ _).from _, ⟨hB2, Eq.trans hb2 (Eq.symm hb)⟩, ⟨hv.set _, hb2⟩, hB.trans hB2⟩
 case done =>
  rintro D' ys W hD rfl ⟨⟨hv, hb⟩, hB⟩ hK
  have hc := hv.cell
  rw [HHD.out] at hc
  gi_wp2
  refine ⟨by simp, .inl ⟨_, _, rfl, run_takeDeferred hK, ?_⟩⟩
  exact ⟨_, results_tmp rfl _ _ _, rfl, hB.trans (belowK_b (w := w) (Nat.le_refl _) W D' _ _ (by simp at hD; omega) hK rfl rfl)⟩
 case stop =>
  rintro D' c' pre W _ _ h _
  exact h.elim
theorem free_any {w : World} {B m cp : Nat} {A : Option Addr} {D : List RR} {rs : List Str.Rw} (h : RowsAt w B A m D rs) (hB : B ≤ w.heap.size) (hmc : m ≤ cp) :
  Calls Tryz.prog 44 #[.slice A m cp] w fun e W' => e = .returned (.int .i64 (Str.held rs (-1) : Nat)) ∧ Below w.heap.size w W' := by
 have HC := Lib.hid (held_any h hB hmc (-1))
 clear h hB
 go_enter Tryz.func44, Tryz.ntmps44
 go_wp2_with (go_at_call 80; refine HC.out.mono ?_; rintro e w1 ⟨rfl, b1⟩)
 go_ret
 exact ⟨rfl, b1⟩
end Go.Proofs.YtfllkaeaanahmaaGreat.S
