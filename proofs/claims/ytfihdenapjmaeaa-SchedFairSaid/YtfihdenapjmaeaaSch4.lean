/- health.Order at two stripes that both have units that are not good: walks of Clone, DeleteFunc, SortStableFunc at two elements. Conditions: Bad is positive in both. -/
import Derived.Test.YtfihdenapjmaeaaSch3
import Derived.Laws.EntriesVeiled
namespace Go.Proofs.Ytfihdenapjmaeaa
set_option linter.unusedVariables false
set_option linter.unusedSimpArgs false
open Go.RowKit
/-- the stripe that goes first -/
def first2 (x y : Sc.Tk) : Sc.Tk := if lossI y x < 0 then y else x
theorem ins2_any (x y : Sc.Tk) (g c bl : Nat) (w : World) (hx : w.rangeAt g 0 (hcs x)) (hy : w.rangeAt g 4 (hcs y)) (hg : g < w.heap.size) (hf : ∀ t, w.frozen? ⟨g, t, none⟩ = false) (hbl2 : bl < w.heap.size) (hbl : w.cell? ⟨bl, 0, none⟩ = some (.func (.func 55) #[] #[])) :
    Calls Try.prog 57 #[.slice (some ⟨g, 0, none⟩) 2 c, .int .i64 0, .int .i64 2, .func (.func 56) #[] #[.pointer (some ⟨bl, 0, none⟩)]] w fun e w' => (∃ v, e = .returned v) ∧ w.grownBy w' (some g) ∧ w'.rangeAt g 0 (hcs (first2 x y)) := by
  unfold first2
  by_cases h : lossI y x < 0
  · rw [if_pos h]; exact ins2_yes x y g c bl w hx hy hg hf hbl2 hbl h
  · rw [if_neg h]; exact ins2_no x y g c bl w hx hy hg hf hbl2 hbl h
theorem stable2 (x y : Sc.Tk) (g c bl : Nat) (w : World) (hx : w.rangeAt g 0 (hcs x)) (hy : w.rangeAt g 4 (hcs y)) (hg : g < w.heap.size) (hf : ∀ t, w.frozen? ⟨g, t, none⟩ = false) (hbl2 : bl < w.heap.size) (hbl : w.cell? ⟨bl, 0, none⟩ = some (.func (.func 55) #[] #[])) :
    Calls Try.prog 54 #[.slice (some ⟨g, 0, none⟩) 2 c, .int .i64 2, .func (.func 56) #[] #[.pointer (some ⟨bl, 0, none⟩)]] w fun e w' => (∃ v, e = .returned v) ∧ w.grownBy w' (some g) ∧ w'.rangeAt g 0 (hcs (first2 x y)) := by
  have HI := Lib.hid (ins2_any x y g c bl w hx hy hg hf hbl2 hbl)
  clear hx hy hf hbl
  go_enter Try.func54, Try.ntmps54
  go_wp2
  refine wp_loop_rounds 1 ?_
  rw [rounds_succ]
  go_wp2_with (go_at_call 57; refine HI.out.mono ?_; rintro e w1 ⟨⟨v1, rfl⟩, g1, r1⟩)
  refine wp_loop_rounds 1 ?_
  rw [rounds_succ]
  go_wp2
  go_end0
  exact ⟨⟨_, rfl⟩, g1, r1⟩
theorem sortStable2 (x y : Sc.Tk) (g c bl : Nat) (w : World) (hx : w.rangeAt g 0 (hcs x)) (hy : w.rangeAt g 4 (hcs y)) (hg : g < w.heap.size) (hf : ∀ t, w.frozen? ⟨g, t, none⟩ = false) (hbl2 : bl < w.heap.size) (hbl : w.cell? ⟨bl, 0, none⟩ = some (.func (.func 55) #[] #[])) :
    Calls Try.prog 50 #[.slice (some ⟨g, 0, none⟩) 2 c, .func (.func 56) #[] #[.pointer (some ⟨bl, 0, none⟩)]] w fun e w' => (∃ v, e = .returned v) ∧ w.grownBy w' (some g) ∧ w'.rangeAt g 0 (hcs (first2 x y)) := by
  have HI := Lib.hid (stable2 x y g c bl w hx hy hg hf hbl2 hbl)
  clear hx hy hf hbl
  go_enter Try.func50, Try.ntmps50
  go_wp2_with (go_at_call 54; refine HI.out.mono ?_; rintro e w1 ⟨⟨v1, rfl⟩, g1, r1⟩)
  go_end0
  exact ⟨⟨_, rfl⟩, g1, r1⟩
theorem byLoss_any (w : World) : Calls Try.prog 51 #[] w fun e w' => ∃ bl, e = .returned (.agg #[.func (.func 56) #[] #[.pointer (some ⟨bl, 0, none⟩)]]) ∧ bl < w'.heap.size ∧ w'.cell? ⟨bl, 0, none⟩ = some (.func (.func 55) #[] #[]) ∧ Below w.heap.size w w' := by
  go_enter Try.func51, Try.ntmps51
  go_wp2
  exact bodyPost_ret (v := .agg #[.func (.func 56) #[] #[.pointer (some ⟨w.heap.size + 1, 0, none⟩)]]) (by simp [results, Try.results51, go_sem]) rfl ⟨w.heap.size + 1, rfl, by simp, by simp, ((Below.refl _ _).alloc (Nat.le_refl _) _).alloc (by simp) _⟩
theorem good_any (t : Sc.Tk) (h : 0 < t.bad) (w : World) : Calls Try.prog 49 #[hv t] w fun e w' => e = .returned (.bool false) ∧ Below w.heap.size w w' := by
  obtain ⟨kind, row, grp, left, bad⟩ := t
  have h : 0 < bad := h
  have hb := (Below.refl w.heap.size w).alloc (Nat.le_refl _) (.cells #[.int .i64 row, .int .i64 grp, .int .i64 left, .int .i64 bad] 78)
  have hd : decide (bad ≤ 0) = false := by simpa using h
  go_enter Try.func49, Try.ntmps49
  go_wp2
  go_ret
  exact ⟨rfl, hb⟩
theorem healthE : ElemT Try.prog 79 78 (.agg #[.int .i64 0, .int .i64 0, .int .i64 0, .int .i64 0]) 4 32 := ⟨Try.underlying79, by kernel_rfl, rfl, by decide, by decide⟩
theorem hcs_one (l : List Sc.Tk) : ∀ u ∈ l.flatMap hcs, u.oneCell' = true := by
  intro u hu
  simp only [List.mem_flatMap, hcs, List.mem_cons, List.not_mem_nil, or_false] at hu
  obtain ⟨x, _, h⟩ := hu
  rcases h with rfl | rfl | rfl | rfl <;> rfl
theorem own_zero (w : World) (e : TypeId) (size base : Nat) (hb : base ≤ w.heap.size) : (w.alloc (.cells #[] e)).ownsRow base e size (.slice (some ⟨w.heap.size, 0, none⟩) 0 0) 0 [] :=
  ⟨by simp, .inr ⟨w.heap.size, 0, #[], rfl, hb, heap_alloc_new w _, Nat.le_refl _, by unfold maxLen; omega, by simp, by simp⟩⟩
theorem cloneH (b off c n : Nat) (l : List Sc.Tk) (hl : l.length = n) (hn : n ≤ 1000) (B : Nat) (w : World) (hr : Rd w B 4 (some ⟨b, off, none⟩) n (l.flatMap hcs)) (hB : B ≤ w.heap.size) :
    Calls Try.prog 48 #[.slice (some ⟨b, off, none⟩) n c] w fun e w' => ∃ A' c', e = .returned (.slice A' n c') ∧ w'.ownsRow w.heap.size 78 4 (.slice A' n c') n (l.flatMap hcs) ∧ Below w.heap.size w w' := by
  have he := fun w => (Lib.run_eql_slice_nil (P := Try.prog) w 79 78 (some ⟨b, off, none⟩) n c 0 0 Try.underlying79).trans (show _ = Result.ok (Value.bool false) w from rfl)
  clear hl
  go_enter Try.func48, Try.ntmps48
  go_wp2_with (at_builtin; refine wpList_appR rfl (.tmp 5) (.tmp 6) 79 rfl w.heap.size 78 _ 4 32 healthE (some ⟨w.heap.size, 0, none⟩) 0 0 [] (some ⟨b, off, none⟩) n c (l.flatMap hcs) rfl rfl (own_zero w _ 4 _ (Nat.le_refl _)) ((hr.more hB).alloc (Nat.le_refl _) _) (hcs_one _) ((Below.refl _ _).alloc (Nat.le_refl _) _) (by omega) (Nat.le_refl _) (by simp) ?_; intro A1 c1 w1 own1 hb1; simp only [Nat.zero_add, List.nil_append] at own1)
  go_ret
  exact ⟨A1, c1, rfl, own1, hb1⟩
theorem fm_get {l : List Sc.Tk} {k j : Nat} (hk : k < l.length) (hj : j < 4) : (l.flatMap hcs)[k * 4 + j]? = (hcs l[k])[j]? := flatMap_get? (sz := 4) (fun _ _ => rfl) hk hj
set_option maxRecDepth 100000 in
set_option maxHeartbeats 800000 in
theorem indexH (b off c : Nat) (l : List Sc.Tk) (hn : l.length ≤ 1000) (hgood : ∀ t ∈ l, 0 < t.bad) (B : Nat) (w : World) (hr : Rd w B 4 (some ⟨b, off, none⟩) l.length (l.flatMap hcs)) (hB : B ≤ w.heap.size) :
    Calls Try.prog 53 #[.slice (some ⟨b, off, none⟩) l.length c, .func (.func 49) #[] #[]] w fun e w' => e = .returned (.int .i64 (-1)) ∧ Below w.heap.size w w' := by
  go_enter Try.func53, Try.ntmps53
  go_wp2
  go_loopw [8] (fun u wr => ∃ k : Nat, k ≤ l.length ∧ u = .int .i64 k ∧ Below w.heap.size w wr) (fun u _ => l.length - (intOf u).toNat)
  case atStart => exact ⟨0, Nat.zero_le _, rfl, Below.refl _ _⟩
  case round =>
    obtain ⟨k, hk, rfl, hb⟩ := hrel
    by_cases hlt : k < l.length
    · have hrk := hr.below (hb.mono hB)
      have HT := Lib.hid (fun W => good_any l[k] (hgood _ (List.getElem_mem hlt)) W)
      obtain ⟨b', off', e, hb', hc⟩ := hrk.2 (by omega)
      have e := Option.some.inj e
      have e1 : b = b' := congrArg (·.block) e
      have e2 : off = off' := congrArg (·.off) e
      subst e1 e2
      have c0 := hc (k * 4) _ (by have := fm_get hlt (j := 0) (by omega); simpa [hcs] using this)
      have c1 := hc (k * 4 + 1) _ (by have := fm_get hlt (j := 1) (by omega); simpa [hcs] using this)
      have c2 := hc (k * 4 + 2) _ (by have := fm_get hlt (j := 2) (by omega); simpa [hcs] using this)
      have c3 := hc (k * 4 + 3) _ (by have := fm_get hlt (j := 3) (by omega); simpa [hcs] using this)
      generalize l[k] = t at *
      obtain ⟨kind, row, grp, left, bad⟩ := t
      rw [← Nat.add_assoc] at c1 c2 c3
      clear hr hrk hc e
      go_wp2_with (go_at_call 49; refine (HT.out _).mono ?_; rintro e w1 ⟨rfl, b1⟩)
      go_roundw
      case rel => exact ⟨k + 1, by omega, by go_num, hb.trans (b1.mono hb.size)⟩
      case measure => simp [intOf]; omega
    · go_wp2
      go_ret
      exact ⟨rfl, hb⟩
theorem deleteH (b off c : Nat) (l : List Sc.Tk) (hn : l.length ≤ 1000) (hgood : ∀ t ∈ l, 0 < t.bad) (B : Nat) (w : World) (hr : Rd w B 4 (some ⟨b, off, none⟩) l.length (l.flatMap hcs)) (hB : B ≤ w.heap.size) :
    Calls Try.prog 47 #[.slice (some ⟨b, off, none⟩) l.length c, .func (.func 49) #[] #[]] w fun e w' => e = .returned (.slice (some ⟨b, off, none⟩) l.length c) ∧ Below w.heap.size w w' := by
  have HI := Lib.hid (indexH b off c l hn hgood B w hr hB)
  clear hr
  go_enter Try.func47, Try.ntmps47
  go_wp2_with (go_at_call 53; refine HI.out.mono ?_; rintro e w1 ⟨rfl, b1⟩)
  go_ret
  exact ⟨rfl, b1⟩
/-- what stands first in a slice of two -/
def OrdRes (x y : Sc.Tk) (w : World) (e : Ending) (w' : World) : Prop := ∃ g c, e = .returned (.slice (some ⟨g, 0, none⟩) 2 c) ∧ g < w'.heap.size ∧ w'.rangeAt g 0 (hcs (first2 x y)) ∧ Below w.heap.size w w'
set_option maxRecDepth 100000 in
set_option maxHeartbeats 800000 in
theorem order2 (x y : Sc.Tk) (hx : 0 < x.bad) (hy : 0 < y.bad) (b off c B : Nat) (w : World) (hr : Rd w B 4 (some ⟨b, off, none⟩) 2 ([x, y].flatMap hcs)) (hB : B ≤ w.heap.size) :
    Calls Try.prog 43 #[.slice (some ⟨b, off, none⟩) 2 c] w (OrdRes x y w) := by
  have hfd : ∀ (W : World) (v : Value), (Instr.field 89 (.agg #[v]) 0).run Try.prog W = .ok v W := fun W v => by kernel_rfl
  have HC := Lib.hid (cloneH b off c 2 [x, y] rfl (by omega) B w hr hB)
  have HG := Lib.hid (show ∀ t ∈ [x, y], 0 < t.bad by simp [hx, hy])
  clear hr hx hy
  go_enter Try.func43, Try.ntmps43
  go_wp2_with fail
  refine HC.out.mono ?_
  rintro e w1 ⟨A1, c1, rfl, own1, b1⟩
  obtain ⟨g, cap, hv, hg0, hg1⟩ := own1.form (by omega)
  obtain rfl : A1 = some ⟨g, 0, none⟩ := by injection hv
  have hd := deleteH g 0 c1 [x, y] (by simp) HG.out w1.heap.size w1 (Rd.of_own own1) (Nat.le_refl _)
  have HD := Lib.hid hd
  have HO := Lib.hid own1
  clear hd hv own1
  go_wp2_with fail
  refine HD.out.mono ?_
  rintro e w2 ⟨rfl, b2⟩
  go_wp2_with fail
  refine (byLoss_any w2).mono ?_
  rintro e w3 ⟨bl, rfl, hbl1, hbl2, b3⟩
  have own3 := own_below (own_below HO.out b2) b3
  have rd := Rd.of_own own3
  have hS := sortStable2 x y g c1 bl w3 (fun j v hj => ?_) (fun j v hj => ?_) (by have := b2.size; have := b3.size; omega) (fun t => own3.frozenAt t) hbl1 hbl2
  · have HS := Lib.hid hS
    have HB : Below w.heap.size w w3 := b1.trans ((b2.mono b1.size).trans (b3.mono (Nat.le_trans b1.size b2.size)))
    clear hS rd own3 hbl2
    go_wp2_with (go_at_call 50; refine HS.out.mono ?_; rintro e w4 ⟨⟨v4, rfl⟩, g4, r4⟩)
    go_ret
    exact ⟨g, c1, rfl, by have := b2.size; have := b3.size; have := g4.size; omega, r4, HB.grown g4 HB.size (fun k hk => by have := Option.some.inj hk; omega)⟩
  · obtain ⟨b', off', e, _, hc⟩ := rd.2 (by omega)
    have e := Option.some.inj e
    have e1 : g = b' := congrArg (·.block) e
    have e2 : 0 = off' := congrArg (·.off) e
    subst e1 e2
    exact hc j v (by rw [List.flatMap_cons, List.getElem?_append_left (by have := (List.getElem?_eq_some_iff.1 hj).1; exact this)]; exact hj)
  · obtain ⟨b', off', e, _, hc⟩ := rd.2 (by omega)
    have e := Option.some.inj e
    have e1 : g = b' := congrArg (·.block) e
    have e2 : 0 = off' := congrArg (·.off) e
    subst e1 e2
    have := hc (4 + j) v (by rw [List.flatMap_cons, List.getElem?_append_right (by show 4 ≤ 4 + j; omega)]; show ([y].flatMap hcs)[4 + j - 4]? = _; rw [show 4 + j - 4 = j from by omega]; simpa using hj)
    simpa using this
end Go.Proofs.Ytfihdenapjmaeaa
