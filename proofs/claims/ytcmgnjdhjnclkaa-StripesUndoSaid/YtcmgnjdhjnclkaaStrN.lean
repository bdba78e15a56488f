/- Allocate with bad arguments; what Allocate gives. Conditions: the rows are kept. -/
import Derived.Test.YtcmgnjdhjnclkaaStrM
namespace Go.Proofs.Ytcmgnjdhjnclkaa.S
set_option linter.unusedVariables false
set_option linter.unusedSimpArgs false
open Go.RowKit Go.Shelf
namespace Str
def argsOk (cf : Cfg) (code width : Int) : Prop := 0 ≤ code ∧ code < 8 ∧ 1 ≤ width ∧ width ≤ 32 ∧ grp cf width ≠ 0
/-- the first row of a code with a group that is not used -/
def alcAt (G : Int) (l : List Rw) (code : Int) : Option Nat := l.findIdx? (fun r => decide (r.code = code) && !decide ((r.used.length : Int) = G))
def alcFree (l : List Rw) : Option Nat := l.findIdx? (fun r => decide (r.code = -1))
def widthOk (l : List Rw) (code width : Int) : Prop := ∀ r ∈ l, r.code = code → r.width = width
end Str
abbrev gnV (e c : Int) : Value := .agg #[.int .i64 e, .int .i64 c]
def zSt : List Value := [.int .i64 0, .int .i64 0]
theorem infoSt' : (Try.prog.info? 29).map (fun i => (i.zero, i.size)) = some (some (.agg zSt.toArray), zSt.length) := by kernel_rfl
theorem infoRows : (Try.prog.info? 25).map (fun i => (i.zero, i.size)) = some (some (.slice none 0 0), 1) := by kernel_rfl
theorem infoErrno : (Try.prog.info? 33).map (fun i => (i.zero, i.size)) = some (some (.int .i64 0), 1) := by kernel_rfl
theorem infoIntZ : (Try.prog.info? 3).map (fun i => (i.zero, i.size)) = some (some (.int .i64 0), 1) := by kernel_rfl
theorem size1Rows : (Try.prog.info? 25).map (·.size) = some 1 := by kernel_rfl
theorem size1Errno : (Try.prog.info? 33).map (·.size) = some 1 := by kernel_rfl
theorem size1Int : (Try.prog.info? 3).map (·.size) = some 1 := by kernel_rfl
theorem Str.args_cases {cf : Str.Cfg} {code width : Int} (h : ¬ Str.argsOk cf code width) : code < 0 ∨ (¬ code < 0 ∧ code ≥ 8) ∨ (¬ code < 0 ∧ ¬ code ≥ 8 ∧ width < 1) ∨ (¬ code < 0 ∧ ¬ code ≥ 8 ∧ ¬ width < 1 ∧ width > 32) ∨ (¬ code < 0 ∧ ¬ code ≥ 8 ∧ ¬ width < 1 ∧ ¬ width > 32 ∧ Str.grp cf width = 0) := by
  unfold Str.argsOk at h
  by_cases h1 : code < 0
  · exact .inl h1
  by_cases h2 : code ≥ 8
  · exact .inr (.inl ⟨h1, h2⟩)
  by_cases h3 : width < 1
  · exact .inr (.inr (.inl ⟨h1, h2, h3⟩))
  by_cases h4 : width > 32
  · exact .inr (.inr (.inr (.inl ⟨h1, h2, h3, h4⟩)))
  by_cases h5 : Str.grp cf width = 0
  · exact .inr (.inr (.inr (.inr ⟨h1, h2, h3, h4, h5⟩)))
  · exact absurd ⟨by omega, by omega, by omega, by omega, h5⟩ h
def alcErr (n : Int) : Value := .tuple #[.slice none 0 0, .agg zSt.toArray, .int .i64 n]
theorem put_some (t : Array Value) (d : List Deferred) (k : Nat) (v : Value) : ({ tmps := t, defers := d } : Act).put (some k) v = { tmps := t.setIfInBounds k v, defers := d } := rfl
theorem put_none (a : Act) (v : Value) : a.put none v = a := rfl
/-- the boxes of Allocate: its arguments and its results -/
structure AB (w : World) (cl : List Value) (code width : Int) (gn : List Value) (v : Value) (st : List Value) (er : Value) (W : World) : Prop where
  cf : IsRow W w.heap.size 23 cl
  co : IsRow W (w.heap.size + 1) 3 [.int .i64 code]
  wi : IsRow W (w.heap.size + 2) 3 [.int .i64 width]
  ge : IsRow W (w.heap.size + 3) 27 gn
  rs : IsRow W (w.heap.size + 4) 25 [v]
  st : IsRow W (w.heap.size + 5) 29 st
  er : IsRow W (w.heap.size + 6) 33 [er]
  bel : Below w.heap.size w W
section
variable {w W W' : World} {cl gn st : List Value} {code width : Int} {v er : Value}
theorem AB.below (h : AB w cl code width gn v st er W) (hb : Below W.heap.size W W') : AB w cl code width gn v st er W' :=
  ⟨h.cf.below' hb, h.co.below' hb, h.wi.below' hb, h.ge.below' hb, h.rs.below' hb, h.st.below' hb, h.er.below' hb, h.bel.trans (hb.mono h.bel.size)⟩
theorem AB.set_rs (h : AB w cl code width gn v st er W) {u : Value} (hr : IsRow W' (w.heap.size + 4) 25 [u]) (hg : W.grownBy W' (some (w.heap.size + 4))) : AB w cl code width gn u st er W' :=
  ⟨h.cf.grown hg (by intro e; have := Option.some.inj e; omega), h.co.grown hg (by intro e; have := Option.some.inj e; omega), h.wi.grown hg (by intro e; have := Option.some.inj e; omega), h.ge.grown hg (by intro e; have := Option.some.inj e; omega), hr, h.st.grown hg (by intro e; have := Option.some.inj e; omega), h.er.grown hg (by intro e; have := Option.some.inj e; omega), h.bel.grown hg h.bel.size (fun k e => by have := Option.some.inj e; omega)⟩
theorem AB.set_st (h : AB w cl code width gn v st er W) {u : List Value} (hr : IsRow W' (w.heap.size + 5) 29 u) (hg : W.grownBy W' (some (w.heap.size + 5))) : AB w cl code width gn v u er W' :=
  ⟨h.cf.grown hg (by intro e; have := Option.some.inj e; omega), h.co.grown hg (by intro e; have := Option.some.inj e; omega), h.wi.grown hg (by intro e; have := Option.some.inj e; omega), h.ge.grown hg (by intro e; have := Option.some.inj e; omega), h.rs.grown hg (by intro e; have := Option.some.inj e; omega), hr, h.er.grown hg (by intro e; have := Option.some.inj e; omega), h.bel.grown hg h.bel.size (fun k e => by have := Option.some.inj e; omega)⟩
theorem AB.set_er (h : AB w cl code width gn v st er W) {u : Value} (hr : IsRow W' (w.heap.size + 6) 33 [u]) (hg : W.grownBy W' (some (w.heap.size + 6))) : AB w cl code width gn v st u W' :=
  ⟨h.cf.grown hg (by intro e; have := Option.some.inj e; omega), h.co.grown hg (by intro e; have := Option.some.inj e; omega), h.wi.grown hg (by intro e; have := Option.some.inj e; omega), h.ge.grown hg (by intro e; have := Option.some.inj e; omega), h.rs.grown hg (by intro e; have := Option.some.inj e; omega), h.st.grown hg (by intro e; have := Option.some.inj e; omega), hr, h.bel.grown hg h.bel.size (fun k e => by have := Option.some.inj e; omega)⟩
theorem ab_own (w : World) (cl : List Value) (code width : Int) (gn : List Value) {β : Type} {B : Nat} (fv : β → Value) (fs : β → List Value) (fe : β → Value) (hB : w.heap.size ≤ B) : OwnFrom B (fun s W => AB w cl code width gn (fv s) (fs s) (fe s) W) := fun s X Y row h hg hr => by
  have hn : ∀ b t l, IsRow X b t l → row ≠ some b := fun b t l hX e => by
    obtain ⟨_, o', ho, hc⟩ := hr b e
    rw [show X.heap[b]? = _ from hX] at ho; cases ho; cases hc
  exact ⟨h.cf.grown hg (hn _ _ _ h.cf), h.co.grown hg (hn _ _ _ h.co), h.wi.grown hg (hn _ _ _ h.wi), h.ge.grown hg (hn _ _ _ h.ge), h.rs.grown hg (hn _ _ _ h.rs), h.st.grown hg (hn _ _ _ h.st), h.er.grown hg (hn _ _ _ h.er), h.bel.grown hg h.bel.size (fun k e => by have := (hr k e).1; omega)⟩
end
theorem AB.first {w w1 w2 w3 w4 w5 w6 w7 : World} {cl gn : List Value} {code width : Int} {v er : Value} {st : List Value}
    (r1 : IsRow w1 w.heap.size 23 cl) (b1 : Below w.heap.size w w1) (z1 : w1.heap.size = w.heap.size + 1) (r2 : IsRow w2 w1.heap.size 3 [.int .i64 code]) (b2 : Below w1.heap.size w1 w2) (z2 : w2.heap.size = w1.heap.size + 1)
    (r3 : IsRow w3 w2.heap.size 3 [.int .i64 width]) (b3 : Below w2.heap.size w2 w3) (z3 : w3.heap.size = w2.heap.size + 1) (r4 : IsRow w4 w3.heap.size 27 gn) (b4 : Below w3.heap.size w3 w4) (z4 : w4.heap.size = w3.heap.size + 1)
    (r5 : IsRow w5 w4.heap.size 25 [v]) (b5 : Below w4.heap.size w4 w5) (z5 : w5.heap.size = w4.heap.size + 1) (r6 : IsRow w6 w5.heap.size 29 st) (b6 : Below w5.heap.size w5 w6) (z6 : w6.heap.size = w5.heap.size + 1)
    (r7 : IsRow w7 w6.heap.size 33 [er]) (b7 : Below w6.heap.size w6 w7) :
    AB w cl code width gn v st er w7 ∧ w1.heap.size = w.heap.size + 1 ∧ w2.heap.size = w.heap.size + 2 ∧ w3.heap.size = w.heap.size + 3 ∧ w4.heap.size = w.heap.size + 4 ∧ w5.heap.size = w.heap.size + 5 ∧ w6.heap.size = w.heap.size + 6 := by
  have c57 := b6.trans (b7.mono b6.size)
  have c47 := b5.trans (c57.mono b5.size)
  have c37 := b4.trans (c47.mono b4.size)
  have c27 := b3.trans (c37.mono b3.size)
  have c17 := b2.trans (c27.mono b2.size)
  have c07 := b1.trans (c17.mono b1.size)
  have e1 := z1
  have e2 : w2.heap.size = w.heap.size + 2 := by omega
  have e3 : w3.heap.size = w.heap.size + 3 := by omega
  have e4 : w4.heap.size = w.heap.size + 4 := by omega
  have e5 : w5.heap.size = w.heap.size + 5 := by omega
  have e6 : w6.heap.size = w.heap.size + 6 := by omega
  refine ⟨⟨r1.below' c17, ?_, ?_, ?_, ?_, ?_, ?_, c07⟩, e1, e2, e3, e4, e5, e6⟩
  · rw [← e1]; exact r2.below' c27
  · rw [← e2]; exact r3.below' c37
  · rw [← e3]; exact r4.below' c47
  · rw [← e4]; exact r5.below' c57
  · rw [← e5]; exact r6.below' b7
  · rw [← e6]; exact r7
set_option maxRecDepth 100000 in
set_option maxHeartbeats 3200000 in
theorem alloc_bad (cf : Str.Cfg) (A : Option Addr) (n c : Nat) (code width ge gc : Int) (w : World) (hbad : ¬ Str.argsOk cf code width) :
    Calls Try.prog 9 #[cfV cf, .slice A n c, .int .i64 code, .int .i64 width, gnV ge gc] w fun e w' => e = .returned (alcErr 1) ∧ Below w.heap.size w w' := by
  have HG := Lib.hid (fun W => groups_any cf width W)
  have hcs := Str.args_cases hbad
  obtain ⟨G, hG⟩ : ∃ G, Str.grp cf width = G := ⟨_, rfl⟩
  rw [hG] at HG hcs
  have HCV : Hid (cfV cf = .agg (cfL cf).toArray) := Lib.hid rfl
  have HCL : Hid ((cfL cf).length = 6) := Lib.hid rfl
  rw [HCV.out] at HG
  rw [HCV.out]
  obtain ⟨cl, hcl⟩ : ∃ y, cfL cf = y := ⟨_, rfl⟩
  rw [hcl] at HG HCL ⊢
  clear hbad hG HCV hcl
  rcases hcs with h | ⟨h1, h⟩ | ⟨h1, h2, h⟩ | ⟨h1, h2, h3, h⟩ | ⟨h1, h2, h3, h4, rfl⟩
  all_goals
    unfold gnV
    go_enter Try.func9, Try.ntmps9
    go_upto_region 1 with (first
      | (refine wpList_boxRow rfl _ (.tmp 0) rfl cl rfl rfl ?_; intro w1 r1 b1 z1; simp only [put_some, List.setIfInBounds_toArray, List.set_cons_succ, List.set_cons_zero])
      | (refine wpList_box1 rfl _ (.tmp 2) rfl _ rfl rfl ?_; intro w2 r2 b2 z2; simp only [put_some, List.setIfInBounds_toArray, List.set_cons_succ, List.set_cons_zero])
      | (refine wpList_box1 rfl _ (.tmp 3) rfl _ rfl rfl ?_; intro w3 r3 b3 z3; simp only [put_some, List.setIfInBounds_toArray, List.set_cons_succ, List.set_cons_zero])
      | (refine wpList_boxRow rfl _ (.tmp 4) rfl [.int .i64 ge, .int .i64 gc] rfl rfl ?_; intro w4 r4 b4 z4; simp only [put_some, List.setIfInBounds_toArray, List.set_cons_succ, List.set_cons_zero])
      | (refine wpList_alloc1 rfl _ rfl _ infoRows rfl ?_; intro w5 r5 b5 z5; simp only [put_some, List.setIfInBounds_toArray, List.set_cons_succ, List.set_cons_zero])
      | (refine wpList_allocRow rfl _ rfl _ infoSt' ?_; intro w6 r6 b6 z6; simp only [put_some, List.setIfInBounds_toArray, List.set_cons_succ, List.set_cons_zero])
      | (refine wpList_alloc1 rfl _ rfl _ infoErrno rfl ?_; intro w7 r7 b7 z7; simp only [put_some, List.setIfInBounds_toArray, List.set_cons_succ, List.set_cons_zero]))
    obtain ⟨ab, e1, e2, e3, e4, e5, e6⟩ := AB.first r1 b1 z1 r2 b2 z2 r3 b3 z3 r4 b4 z4 r5 b5 z5 r6 b6 z6 r7 b7
    rw [e1, e2, e3, e4, e5, e6]
    clear r1 r2 r3 r4 r5 r6 r7 b1 b2 b3 b4 b5 b6 b7 z1 z2 z3 z4 z5 z6 z7 e1 e2 e3 e4 e5 e6
    have k2 := ab.co.cell 0
    have k3 := ab.wi.cell 0
    dsimp only [List.getElem?_cons_zero] at k2 k3
    have HA := Lib.hid ab
    have hrg : w7.rangeAt w.heap.size 0 cl := fun j v hv => by rw [Nat.zero_add, ab.cf.cell]; exact hv
    clear ab
    go_upto_region 2 with (first
      | (refine wpList_load_rg rfl _ (.tmp 5) rfl w.heap.size 0 rfl cl _ hrg Try.underlying23 rfl (by rw [HCL.out]; exact sizeCf) ?_)
      | (go_at_call 15; refine (HG.out _).mono ?_; rintro e w8 ⟨rfl, b8⟩; have HA := Lib.hid (HA.out.below b8)))
    have R5 := HA.out.rs
    go_wp2_with (first
      | (refine wpList_store1 rfl _ (.tmp 10) _ rfl R5 rfl rfl size1Rows rfl rfl ?_; intro w9 r9 g9 z9; simp only [put_none]; have HB := Lib.hid (HA.out.set_rs r9 g9); have R6 := HB.out.st)
      | (refine wpList_storeRow rfl _ (.tmp 11) (.tmp 41) rfl (l' := zSt) R6 rfl rfl sizeSt rfl rfl ?_; intro wa ra ga za; simp only [put_none]; have HC := Lib.hid (HB.out.set_st ra ga); have R7 := HC.out.er)
      | (refine wpList_store1 rfl _ (.tmp 12) _ rfl R7 rfl rfl size1Errno rfl rfl ?_; intro wb rb gb zb; simp only [put_none]; have HD := Lib.hid (HC.out.set_er rb gb)))
    refine bodyPost_ret (resultC3 rfl _ _ rfl rfl rfl (HD.out.rs.cell 0) HD.out.st (HD.out.er.cell 0) Try.underlying25 rfl Try.underlying29 sizeSt Try.underlying33 rfl) rfl ?_
    exact ⟨rfl, HD.out.bel⟩
end Go.Proofs.Ytcmgnjdhjnclkaa.S
