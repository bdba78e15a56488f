/- The index's All and Find: ranges over its entries. -/
import Derived.Test.YtnehbcopbioenaaIdx3
namespace Go.Proofs.Ytnehbcopbioenaa
set_option linter.unusedVariables false
set_option linter.unusedSimpArgs false
open Go.RowKit Go.ChangeMaps Go.Shelf

attribute [local go_sem] Oper.semAt_some

/-- the cells of a list of entries -/
def ev (e : Int × Int) : List Value := [.int .u32 e.1, .int .i64 e.2]
abbrev evs (l : List (Int × Int)) : List Value := l.flatMap ev
theorem ev_len (e : Int × Int) : (ev e).length = 2 := rfl
theorem ev_one (e : Int × Int) : ∀ u ∈ ev e, u.oneCell' = true := by intro u hu; simp only [ev, List.mem_cons, List.not_mem_nil, or_false] at hu; rcases hu with rfl | rfl <;> rfl
theorem evs_one (l : List (Int × Int)) : ∀ u ∈ evs l, u.oneCell' = true := by intro u hu; simp only [evs, List.mem_flatMap] at hu; obtain ⟨e, _, he⟩ := hu; exact ev_one e u he
theorem evs_snoc (l : List (Int × Int)) (x : Int × Int) : evs l ++ [.int .u32 x.1, .int .i64 x.2] = evs (l ++ [x]) := by simp [evs, ev]
theorem infoEntry : (Try.prog.info? 39).map (fun i => (i.zero, i.size, i.bytes)) = some (some (.agg #[.int .u32 0, .int .i64 0]), 2, 16) := by kernel_rfl
theorem entryT : ElemT Try.prog 27 39 (.agg #[.int .u32 0, .int .i64 0]) 2 16 := ⟨Try.underlying27, infoEntry, rfl, by decide, by decide⟩
theorem infoInt : (Try.prog.info? 3).map (fun i => (i.zero, i.size, i.bytes)) = some (some (.int .i64 0), 1, 8) := by kernel_rfl
theorem intT : ElemT Try.prog 30 3 (.int .i64 0) 1 8 := ⟨Try.underlying30, infoInt, rfl, by decide, by decide⟩

set_option maxRecDepth 100000 in
set_option maxHeartbeats 2000000 in
theorem all_any (bx bm : Nat) (s : ISt) (L : List (Int × Int)) (hrep : Rep s L) (hg : Good L) (hlen : L.length ≤ 1099511627776) (w : World) (h : IxAt w bx bm s) :
    Calls Try.prog 11 #[.pointer (some ⟨bx, 0, none⟩)] w fun e W' => ∃ A c, e = .returned (.slice A L.length c) ∧ W'.ownsRow w.heap.size 39 2 (.slice A L.length c) L.length (evs L) ∧ Below w.heap.size w W' := by
  have hlt := h.lt
  have HR := Lib.hid hrep
  have HG := Lib.hid hg
  clear hrep hg
  obtain ⟨i0, hi, hz0, hz1, hz2⟩ := info_parts infoEntry
  refine (callsIn_wide (n := 6)).1 ?_
  refine callsIn_of_wp_marks Try.func11 rfl trivial ?_ rfl
  simp only [Try.ntmps11, List.size_toArray, List.length_cons, List.length_nil, Nat.reduceAdd, Nat.reduceSub, Array.replicate_succ, Array.replicate_zero, List.push_toArray, List.append_toArray, List.nil_append, List.cons_append]
  gi_wp2_with (refine ⟨trivial, ?_⟩; gi_at_call 34; refine (entries_in Fence.wide _ trivial rfl _ _).mono ?_; rintro e w' ⟨rfl, rfl⟩)
  have bO := Boxed.new w 27 (.slice none 0 0)
  have bN := Boxed.new (w.alloc (.cells #[.slice none 0 0] 27)) 24 (.pointer (some ⟨bx, 0, none⟩))
  rw [World.size_alloc] at bN
  have hB0 : Below w.heap.size w ((w.alloc (.cells #[.slice none 0 0] 27)).alloc (.cells #[.pointer (some ⟨bx, 0, none⟩)] 24)) := ((Below.refl _ w).alloc (Nat.le_refl _) _).alloc (by simp) _
  refine wpIn_rangeFunc_ownG rfl (show 1 ≤ 6 by omega) (gf := 40) (lb := #[.pointer (some ⟨w.heap.size + 1, 0, none⟩)]) rfl trivial (enters_of Try.func40 (by kernel_rfl) rfl)
    (entries_stops Fence.wide (6 - 1) trivial rfl (by omega) (w.heap.size + 1) w.heap.size bx bm s L HR.out HG.out _ (by simp; omega) hlt.1 hlt.2 (by simp) bN.cell (h.below hB0 hlt.1 hlt.2)) keepsBox_t (keepsBox_b (by simp; omega) (by simp)) (Below.refl _ _) ?hps
    (fun pre W => ((∃ v, Boxed W w.heap.size 27 v ∧ W.ownsRow w.heap.size 39 2 v pre.length (evs pre) ∧ True) ∧ Boxed W (w.heap.size + 1) 24 (.pointer (some ⟨bx, 0, none⟩))) ∧ Below w.heap.size w W)
    (fun _ _ _ => False)
    (OwnFrom.and (OwnFrom.and (Own.from (holdsRow_own w.heap.size w.heap.size 27 39 2 (fun pre => pre.length) (fun pre => evs pre) (fun _ _ => True)) _) (Own.from (boxed_own _ _ (fun _ => .pointer (some ⟨bx, 0, none⟩))) _)) (ownFrom_below (Nat.le_refl _) (by simp; omega)))
    (fun _ _ _ _ _ hs _ _ => hs)
    ⟨⟨⟨_, bO.alloc _, World.ownsRow_nil _ _ _ _, trivial⟩, bN⟩, hB0⟩
    (fun x => { tmps := #[.pointer (some ⟨bx, 0, none⟩), undef, .slice none 0 0, .pointer (some ⟨w.heap.size, 0, none⟩), .int .i64 x.2, .int .u32 x.1, .pointer (some ⟨bx, 0, none⟩), .func (.func 40) #[] #[.pointer (some ⟨w.heap.size + 1, 0, none⟩)], .int .i64 x.2, .int .u32 x.1, undef, undef, undef, undef, undef, undef, undef], defers := [] }) ?assign ?body ?done ?stop
  case hps => intro x; rfl
  case assign =>
    intro l x W K hK
    gi_wp2
    exact hK
  case body =>
    rintro l pre x W ⟨⟨⟨v, hv, hrow, -⟩, hb⟩, hB⟩ hlt
    have hc := hv.cell
    gi_wp2_with (gi_at_builtin; refine wpListIn_append_own _ rfl _ _ 27 rfl w.heap.size 39 i0 (.agg #[.int .u32 0, .int .i64 0]) 2 16 Try.underlying27 hi hz0 hz1 hz2 rfl (by decide) _ _ _ rfl (hrow.alloc _) ⟨W.heap.size, 0, none⟩ 1 1 [.int .u32 x.1, .int .i64 x.2] rfl rfl (cells_new _ _ _) (ev_one x) (by unfold maxLen; omega) (by omega) (by have := hB.size; simp; omega) ?_; intro v' w1 hown' hgrow _; obtain ⟨g', cap', rfl⟩ := ownsRow_succ hown'; have hbk := (hb.alloc _).kept hgrow (hb.not_row (by decide) hrow); obtain ⟨hv1, hv2, hr2, hk2, hb2⟩ := hv.appended (by decide) hrow hB.size (Nat.le_refl _) hown' hgrow; have hc1 := hv1.cell; have hf1 := hv1.frozen)
    have hbk2 := hbk.other (B' := w.heap.size) (by omega) (.slice (some ⟨g', 0, none⟩) (pre.length + 1) cap')
    exact ⟨hk2.from _, ⟨hb2, Eq.trans hbk2 (Eq.symm hb)⟩, ⟨⟨_, hv2, by rw [← evs_snoc]; simpa using hr2, trivial⟩, hbk2⟩, hB.trans hb2⟩
  case done =>
    rintro D ys W hD rfl ⟨⟨⟨v, hv, hrow, -⟩, hb⟩, hB⟩ hK
    have hc := hv.cell
    gi_wp2
    refine ⟨by simp, .inl ⟨_, _, rfl, run_takeDeferred hK, ?_⟩⟩
    have h1 := ownsRow_putObj hrow (.deferred none) hK rfl
    obtain ⟨A, c, rfl⟩ := own_slice hrow
    exact ⟨_, results_tmp rfl _ _ _, A, c, rfl, h1, hB.trans (belowK_b (w := w) (Nat.le_refl _) W D _ _ (by simp at hD; omega) hK rfl rfl)⟩
  case stop =>
    rintro D c pre W _ _ h _
    exact h.elim
/-- the chunks with a print -/
def findL (p : Int) (L : List (Int × Int)) : List Int := (L.filter fun e => e.1 == p).map (·.2)
theorem findL_le (p : Int) (L : List (Int × Int)) : (findL p L).length ≤ L.length := by unfold findL; rw [List.length_map]; exact List.length_filter_le _ _
theorem findL_hit {p : Int} (L : List (Int × Int)) {x : Int × Int} (h : (x.1 == p) = true) : findL p (L ++ [x]) = findL p L ++ [x.2] := by simp [findL, List.filter_append, h]
theorem findL_miss {p : Int} (L : List (Int × Int)) {x : Int × Int} (h : (x.1 == p) = false) : findL p (L ++ [x]) = findL p L := by simp [findL, List.filter_append, h]

set_option maxRecDepth 100000 in
set_option maxHeartbeats 2000000 in
theorem find_any (p : Int) (bx bm : Nat) (s : ISt) (L : List (Int × Int)) (hrep : Rep s L) (hg : Good L) (hlen : L.length ≤ 1099511627776) (w : World) (h : IxAt w bx bm s) :
    Calls Try.prog 13 #[.pointer (some ⟨bx, 0, none⟩), .int .u32 p] w fun e W' => ∃ A c, e = .returned (.slice A (findL p L).length c) ∧ W'.ownsRow w.heap.size 3 1 (.slice A (findL p L).length c) (findL p L).length (ivs (findL p L)) ∧ Below w.heap.size w W' := by
  have hlt := h.lt
  have HR := Lib.hid hrep
  have HG := Lib.hid hg
  clear hrep hg
  obtain ⟨i0, hi, hz0, hz1, hz2⟩ := info_parts infoInt
  refine (callsIn_wide (n := 6)).1 ?_
  refine callsIn_of_wp_marks Try.func13 rfl trivial ?_ rfl
  simp only [Try.ntmps13, List.size_toArray, List.length_cons, List.length_nil, Nat.reduceAdd, Nat.reduceSub, Array.replicate_succ, Array.replicate_zero, List.push_toArray, List.append_toArray, List.nil_append, List.cons_append]
  gi_wp2_with (refine ⟨trivial, ?_⟩; gi_at_call 34; refine (entries_in Fence.wide _ trivial rfl _ _).mono ?_; rintro e w' ⟨rfl, rfl⟩)
  have bP := Boxed.new w 32 (.int .u32 p)
  have bO := Boxed.new (w.alloc (.cells #[.int .u32 p] 32)) 30 (.slice none 0 0)
  have bN := Boxed.new ((w.alloc (.cells #[.int .u32 p] 32)).alloc (.cells #[.slice none 0 0] 30)) 24 (.pointer (some ⟨bx, 0, none⟩))
  rw [World.size_alloc] at bO
  rw [World.size_alloc, World.size_alloc] at bN
  have hB0 : Below w.heap.size w (((w.alloc (.cells #[.int .u32 p] 32)).alloc (.cells #[.slice none 0 0] 30)).alloc (.cells #[.pointer (some ⟨bx, 0, none⟩)] 24)) := (((Below.refl _ w).alloc (Nat.le_refl _) _).alloc (by simp) _).alloc (by simp; omega) _
  refine wpIn_rangeFunc_ownG rfl (show 1 ≤ 6 by omega) (gf := 40) (lb := #[.pointer (some ⟨w.heap.size + 1 + 1, 0, none⟩)]) rfl trivial (enters_of Try.func40 (by kernel_rfl) rfl)
    (entries_stops Fence.wide (6 - 1) trivial rfl (by omega) (w.heap.size + 1 + 1) w.heap.size bx bm s L HR.out HG.out _ (by simp; omega) hlt.1 hlt.2 (by simp) bN.cell (h.below hB0 hlt.1 hlt.2)) keepsBox_t (keepsBox_b (by simp; omega) (by simp)) (Below.refl _ _) ?hps
    (fun pre W => ((∃ v, Boxed W (w.heap.size + 1) 30 v ∧ W.ownsRow w.heap.size 3 1 v (findL p pre).length (ivs (findL p pre)) ∧ True) ∧ Boxed W w.heap.size 32 (.int .u32 p) ∧ Boxed W (w.heap.size + 1 + 1) 24 (.pointer (some ⟨bx, 0, none⟩))) ∧ Below w.heap.size w W)
    (fun _ _ _ => False)
    (OwnFrom.and (OwnFrom.and (Own.from (holdsRow_own w.heap.size (w.heap.size + 1) 30 3 1 (fun pre => (findL p pre).length) (fun pre => ivs (findL p pre)) (fun _ _ => True)) _) (OwnFrom.and (Own.from (boxed_own _ _ (fun _ => .int .u32 p)) _) (Own.from (boxed_own _ _ (fun _ => .pointer (some ⟨bx, 0, none⟩))) _))) (ownFrom_below (Nat.le_refl _) (by simp; omega)))
    (fun _ _ _ _ _ hs _ _ => hs)
    ⟨⟨⟨_, bO.alloc _, World.ownsRow_nil _ _ _ _, trivial⟩, (bP.alloc _).alloc _, bN⟩, hB0⟩
    (fun x => { tmps := #[.pointer (some ⟨bx, 0, none⟩), .int .u32 p, undef, .pointer (some ⟨w.heap.size, 0, none⟩), .slice none 0 0, .pointer (some ⟨w.heap.size + 1, 0, none⟩), .int .i64 x.2, .int .u32 x.1, .pointer (some ⟨bx, 0, none⟩), .func (.func 40) #[] #[.pointer (some ⟨w.heap.size + 1 + 1, 0, none⟩)], .int .i64 x.2, .int .u32 x.1, undef, undef, undef, undef, undef, undef, undef, undef], defers := [] }) ?assign ?body ?done ?stop
  case hps => intro x; rfl
  case assign =>
    intro l x W K hK
    gi_wp2
    exact hK
  case body =>
    rintro l pre x W ⟨⟨⟨v, hv, hrow, -⟩, hp, hb⟩, hB⟩ hlt
    have hc := hv.cell
    have hpc := hp.cell
    have hle := findL_le p pre
    gi_wp2_with (gi_at_builtin; refine wpListIn_append_own _ rfl _ _ 30 rfl w.heap.size 3 i0 (.int .i64 0) 1 8 Try.underlying30 hi hz0 hz1 hz2 rfl (by decide) _ _ _ rfl (hrow.alloc _) ⟨W.heap.size, 0, none⟩ 1 1 [.int .i64 x.2] rfl rfl (cell_one_new _ _ _) (by simp [Value.oneCell']) (by unfold maxLen; omega) (by omega) (by have := hB.size; simp; omega) ?_; intro v' w1 hown' hgrow _; obtain ⟨g', cap', rfl⟩ := ownsRow_succ hown'; have hbk := (hb.alloc _).kept hgrow (hb.not_row (by decide) hrow); have hpk := (hp.alloc _).kept hgrow (hp.not_row (by decide) hrow); obtain ⟨hv1, hv2, hr2, hk2, hb2⟩ := hv.appended (by decide) hrow hB.size (by omega) hown' hgrow; have hc1 := hv1.cell; have hf1 := hv1.frozen)
    · have hx : (x.1 == p) = true := by assumption
      have hbk2 := hbk.other (B' := w.heap.size + 1) (by omega) (.slice (some ⟨g', 0, none⟩) ((findL p pre).length + 1) cap')
      have hpk2 := hpk.other (B' := w.heap.size + 1) (by omega) (.slice (some ⟨g', 0, none⟩) ((findL p pre).length + 1) cap')
      exact ⟨hk2.from _, ⟨hb2, Eq.trans hbk2 (Eq.symm hb)⟩, ⟨⟨_, hv2, by rw [findL_hit pre hx]; simpa using hr2, trivial⟩, hpk2, hbk2⟩, hB.trans hb2⟩
    · have hx : (x.1 == p) = false := by assumption
      exact ⟨KeepsFrom.refl _ _, ⟨Below.refl _ _, rfl⟩, ⟨⟨v, hv, by rw [findL_miss pre hx]; exact hrow, trivial⟩, hp, hb⟩, hB⟩
  case done =>
    rintro D ys W hD rfl ⟨⟨⟨v, hv, hrow, -⟩, hp, hb⟩, hB⟩ hK
    have hc := hv.cell
    gi_wp2
    refine ⟨by simp, .inl ⟨_, _, rfl, run_takeDeferred hK, ?_⟩⟩
    have h1 := ownsRow_putObj hrow (.deferred none) hK rfl
    obtain ⟨A, c, rfl⟩ := own_slice hrow
    exact ⟨_, results_tmp rfl _ _ _, A, c, rfl, h1, hB.trans (belowK_b (w := w) (Nat.le_refl _) W D _ _ (by simp at hD; omega) hK rfl rfl)⟩
  case stop =>
    rintro D c pre W _ _ h _
    exact h.elim
end Go.Proofs.Ytnehbcopbioenaa
