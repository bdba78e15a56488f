/- stripes.index, stripes.Find; laws for rows of cells. Conditions: the rows are kept. -/
import Derived.Test.YtcmgnjdhjnclkaaStrC
namespace Go.Proofs.Ytcmgnjdhjnclkaa.S
set_option linter.unusedVariables false
set_option linter.unusedSimpArgs false
open Go.RowKit
namespace Str
/-- the position of a used stripe in its row, or -1 -/
def ixr (l : List Rw) (r g : Int) : Int := if 0 ≤ r ∧ r < (l.length : Int) then idx (l.getD r.toNat free).used g else -1
theorem ixr_out {l : List Rw} {r g : Int} (h : ¬ (0 ≤ r ∧ r < (l.length : Int))) : ixr l r g = -1 := if_neg h
theorem ixr_in {l : List Rw} {k : Nat} {g : Int} {x : Rw} (h : l[k]? = some x) : ixr l (k : Int) g = idx x.used g := by
  have hk := (List.getElem?_eq_some_iff.1 h).1
  unfold ixr
  rw [if_pos ⟨by omega, by omega⟩]
  simp [List.getD, h]
/-- what Find gives -/
def fnd (l : List Rw) (r g : Int) : Option Us := if 0 ≤ ixr l r g then (l.getD r.toNat free).used[(ixr l r g).toNat]? else none
theorem idx_cases (l : List Us) (g : Int) : idx l g = -1 ∨ ∃ k : Nat, k < l.length ∧ idx l g = (k : Int) := by
  unfold idx at?
  cases h : l.findIdx? (fun u => decide (u.g = g)) with
  | none => exact .inl rfl
  | some k => exact .inr ⟨k, (List.findIdx?_eq_some_iff_getElem.1 h).1, rfl⟩
theorem ixr_cases (l : List Rw) (r g : Int) : ixr l r g = -1 ∨ ∃ (k q : Nat) (x : Rw), r = (k : Int) ∧ l[k]? = some x ∧ q < x.used.length ∧ ixr l r g = (q : Int) := by
  by_cases h : 0 ≤ r ∧ r < (l.length : Int)
  · obtain ⟨k, rfl⟩ : ∃ k : Nat, r = (k : Int) := ⟨r.toNat, by omega⟩
    have hk : k < l.length := by omega
    rw [ixr_in (List.getElem?_eq_getElem hk)]
    rcases idx_cases l[k].used g with h1 | ⟨q, h1, h2⟩
    · exact .inl h1
    · exact .inr ⟨k, q, l[k], rfl, List.getElem?_eq_getElem hk, h1, h2⟩
  · exact .inl (ixr_out h)
end Str
def fndV : Option Str.Us → Value
  | none => .tuple #[.agg (usL ⟨0, 0, 0⟩).toArray, .int .i64 12]
  | some u => .tuple #[.agg (usL u).toArray, .int .i64 0]
abbrev stV (r g : Int) : Value := .agg #[.int .i64 r, .int .i64 g]
set_option maxRecDepth 100000 in
set_option maxHeartbeats 1600000 in
theorem index_any {w : World} {B n c : Nat} {A : Option Addr} {D : List RR} {l : List Str.Rw} (h : RowsAt w B A n D l) (hB : B ≤ w.heap.size) (hnc : n ≤ c) (r g : Int) :
    Calls Try.prog 26 #[.slice A n c, stV r g] w fun e w' => e = .returned (.int .i64 (Str.ixr l r g)) ∧ Below w.heap.size w w' := by
  have hb0 : Below w.heap.size w (w.alloc (.cells #[.int .i64 r, .int .i64 g] 29)) := (Below.refl _ _).alloc (Nat.le_refl _) _
  have hr := IsRow.new w 29 [.int .i64 r, .int .i64 g]
  have hlt : w.heap.size < (w.alloc (.cells #[.int .i64 r, .int .i64 g] 29)).heap.size := by rw [World.size_alloc]; omega
  obtain ⟨w0, hw0⟩ : ∃ z, w.alloc (.cells #[.int .i64 r, .int .i64 g] 29) = z := ⟨_, rfl⟩
  have hr : IsRow w0 w.heap.size 29 [.int .i64 r, .int .i64 g] := by rw [← hw0]; exact hr
  rw [hw0] at hb0 hlt
  have k0 := hr.cell 0
  have k1 := hr.cell 1
  dsimp only [List.getElem?_cons_zero, List.getElem?_cons_succ] at k0 k1
  have HW0 := Lib.hid hw0
  have HB0 := Lib.hid hb0
  have HL := Lib.hid h.len
  have hmx := h.mx
  have H := Lib.hid ((h.below (hb0.mono hB)).more (B' := w0.heap.size) (Nat.le_trans hB hb0.size))
  have HLT := Lib.hid hlt
  clear hw0 hr hb0 h hlt
  obtain ⟨V, hV⟩ : ∃ V, Str.ixr l r g = V := ⟨_, rfl⟩
  rw [hV]
  have HV := Lib.hid hV
  clear hV
  unfold stV
  go_enter Try.func26, Try.ntmps26
  go_upto_region 1 with fail
  rw [HW0.out]
  by_cases h1 : r < 0
  · obtain rfl : V = -1 := by rw [← HV.out, Str.ixr_out (by omega)]
    go_wp2_with fail
    go_ret
    exact ⟨rfl, HB0.out⟩
  · by_cases h2 : r ≥ (n : Int)
    · obtain rfl : V = -1 := by rw [← HV.out, Str.ixr_out (by rw [HL.out.2]; omega)]
      go_wp2_with fail
      go_ret
      exact ⟨rfl, HB0.out⟩
    · obtain ⟨k, rfl⟩ : ∃ k : Nat, r = (k : Int) := ⟨r.toNat, by omega⟩
      obtain ⟨b, off, x, rfl, hb, hx, hl, hok, hrg, c0, c1, c2⟩ := H.out.at (k := k) (by omega)
      have HC := Lib.hid (indexU x g w0.heap.size w.heap.size w0 hok (Nat.le_refl _) k1 HLT.out)
      have HV2 : Hid (Str.idx x.r.used g = V) := Lib.hid (by rw [← HV.out, Str.ixr_in hl])
      obtain ⟨xv, hxv⟩ : ∃ xv, x.v = xv := ⟨_, rfl⟩
      rw [HV2.out, hxv] at HC
      rw [hxv] at c2
      have e1 : (0 : Int) ≤ (k : Int) := by omega
      have e2 : (k : Int) < (n : Int) := by omega
      clear hx hl hok hrg hb c0 c1 hxv
      go_wp2_with (go_at_call 39; refine HC.out.mono ?_; rintro e w1 ⟨rfl, b1⟩)
      go_ret
      exact ⟨rfl, HB0.out.trans (b1.mono HB0.out.size)⟩
section
variable {P : Program} {w : World} {ops : Array Oper} {rest : List Oper} {o : Oper} {a : Act} {Q : Exit → Act → World → Prop}
/-- a struct into a new box -/
theorem wpList_boxRow (hgd : o.guard = none) (ty : TypeId) (x : Operand) (ho : o.op = .box ty x) (l : List Value) {cs : Array Value} (hx : a.eval x = .agg cs) (hcs : cs = l.toArray)
    (h : ∀ w', IsRow w' w.heap.size ty l → Below w.heap.size w w' → w'.heap.size = w.heap.size + 1 → wpList P ops Q rest (a.put o.dst (.pointer (some ⟨w.heap.size, 0, none⟩))) w') : wpList P ops Q (o :: rest) a w := by
  subst hcs
  refine wpList_plain hgd fun K hK => ?_
  have hn : Sem.run P (newVar ty (.agg l.toArray)) w = .ok ⟨w.heap.size, 0, none⟩ (w.alloc (.cells l.toArray ty)) := by
    simp [newVar, Value.cells, go_sem]
  unfold Oper.wp execOp
  simp only [ho, hx, Sem.run_bind, Sem.run_pure, Result.andThen_ok, hn]
  exact hK _ _ (h _ (IsRow.new w ty l) ((Below.refl _ _).alloc (Nat.le_refl _) _) (by simp))
end
theorem resultRT {P : Program} {fn : Func} {p u : Tmp} {ty : TypeId} (h : fn.results = #[.cell p ty, .tmp u]) (tmps : Array Value) (w : World) {b t : Nat} {fs : Array Field} {l : List Value} (hr : IsRow w b t l)
    (hp : tmps.getD p undef = .pointer (some ⟨b, 0, none⟩)) (hu : P.underlying ty = some (.struct fs)) (hi : (P.info? ty).map (·.size) = some l.length) :
    (results fn tmps).run P w = .ok (.tuple #[.agg l.toArray, tmps.getD u undef]) w := by
  rw [results_cell_tmp h, hp]
  simp only [asAddr, Sem.run_pure, Result.andThen_ok, run_loadVar_row w b t ty l.toArray (0, 0) _ hr hu rfl (by simpa using hi)]
def zUs : List Value := usL ⟨0, 0, 0⟩
theorem infoUs : (Try.prog.info? 37).map (fun i => (i.zero, i.size)) = some (some (.agg zUs.toArray), zUs.length) := by kernel_rfl
theorem sizeSt : (Try.prog.info? 29).map (·.size) = some 2 := by kernel_rfl
set_option maxRecDepth 100000 in
set_option maxHeartbeats 1600000 in
theorem find_any {w : World} {B n c : Nat} {A : Option Addr} {D : List RR} {l : List Str.Rw} (h : RowsAt w B A n D l) (hB : B ≤ w.heap.size) (hnc : n ≤ c) (r g : Int) :
    Calls Try.prog 10 #[.slice A n c, stV r g] w fun e w' => e = .returned (fndV (Str.fnd l r g)) ∧ Below w.heap.size w w' := by
  have H := Lib.hid h
  have HI := Lib.hid (fun (W : World) (hW : Below w.heap.size w W) => index_any ((h.below (hW.mono hB))) (Nat.le_trans hB hW.size) hnc r g)
  have HE := Lib.hid (Str.ixr_cases l r g)
  have HF : Hid (Str.fnd l r g = if 0 ≤ Str.ixr l r g then (l.getD r.toNat Str.free).used[(Str.ixr l r g).toNat]? else none) := Lib.hid rfl
  have HHB := Lib.hid hB
  have hmx := h.mx
  have HLN := Lib.hid h.len
  obtain ⟨F, hF⟩ : ∃ F, Str.fnd l r g = F := ⟨_, rfl⟩
  rw [hF] at HF ⊢
  obtain ⟨V, hV⟩ : ∃ V, Str.ixr l r g = V := ⟨_, rfl⟩
  rw [hV] at HF HI HE
  clear h hB hF hV
  rcases HE.out with rfl | ⟨k, q, x, rfl, hl, hq, rfl⟩
  · obtain rfl : F = none := by rw [HF.out, if_neg (by decide)]
    go_enter Try.func10, Try.ntmps10
    go_wp2_with (first
      | (refine wpList_boxRow rfl _ _ rfl [.int .i64 r, .int .i64 g] rfl rfl ?_; intro w1 rs1 b1 z1; clear z1)
      | (refine wpList_allocRow rfl _ rfl _ infoUs ?_; intro w2 ru2 b2 z2; clear z2; have hb2 := b1.trans (b2.mono b1.size); have rs2 := rs1.below' b2; clear rs1 b2)
      | (refine wpList_load_rg rfl _ (.tmp 3) rfl w.heap.size 0 rfl [.int .i64 r, .int .i64 g] _ (fun j v hv => by rw [Nat.zero_add, rs2.cell]; exact hv) Try.underlying29 rfl sizeSt ?_)
      | (go_at_call 26; refine (HI.out _ hb2).mono ?_; rintro e w3 ⟨rfl, b3⟩; have hb3 := hb2.trans (b3.mono hb2.size); have ru3 := ru2.below' b3; clear ru2)
      | (refine wpList_storeRow rfl _ (.tmp 4) (.tmp 12) rfl (l' := zUs) ru3 rfl rfl sizeUs rfl rfl ?_; intro w4 ru4 g4 z4))
    refine bodyPost_ret (resultRT rfl _ _ ru4 rfl Try.underlying37 sizeUs) rfl ?_
    exact ⟨rfl, hb3.grown g4 hb3.size (fun i hi => by have := Option.some.inj hi; have := b1.size; omega)⟩
  · obtain ⟨b, off, x', hA, hb, hx, hl', hok, -⟩ := H.out.at (k := k) (by have := (List.getElem?_eq_some_iff.1 hl).1; rw [HLN.out.2] at this; exact this)
    obtain rfl : x'.r = x := Option.some.inj (hl'.symm.trans hl)
    have hkn : k < n := by have := (List.getElem?_eq_some_iff.1 hl).1; rw [HLN.out.2] at this; exact this
    obtain ⟨u, hu⟩ : ∃ u, x'.r.used[q] = u := ⟨_, rfl⟩
    obtain rfl : F = some u := by rw [HF.out, if_pos (by omega), ← hu]; simp [List.getD, hl, List.getElem?_eq_getElem hq]
    have hle := hok.le
    have hmu := hok.mx
    have HQ := Lib.hid hq
    have HL := Lib.hid hl
    have HU := Lib.hid hu
    clear hx hl' hok hl hu
    subst hA
    have e1 : (0 : Int) ≤ (k : Int) := by omega
    have e2 : (k : Int) < (n : Int) := by omega
    go_enter Try.func10, Try.ntmps10
    go_upto_region 4 with (first
      | (refine wpList_boxRow rfl _ _ rfl [.int .i64 (k : Int), .int .i64 g] rfl rfl ?_; intro w1 rs1 b1 z1; clear z1)
      | (refine wpList_allocRow rfl _ rfl _ infoUs ?_; intro w2 ru2 b2 z2; clear z2; have hb2 := b1.trans (b2.mono b1.size); have rs2 := rs1.below' b2; clear rs1 b2)
      | (refine wpList_load_rg rfl _ (.tmp 3) rfl w.heap.size 0 rfl [.int .i64 (k : Int), .int .i64 g] _ (fun j v hv => by rw [Nat.zero_add, rs2.cell]; exact hv) Try.underlying29 rfl sizeSt ?_)
      | (go_at_call 26; refine (HI.out _ hb2).mono ?_; rintro e w3 ⟨rfl, b3⟩; have hb3 := hb2.trans (b3.mono hb2.size); have ru3 := ru2.below' b3; have rs3 := rs2.below' b3; clear ru2 rs2))
    obtain ⟨b', off', y, hA', hb', -, hl2, hok, -, -, -, c20⟩ := (H.out.below (hb3.mono HHB.out)).at hkn
    obtain ⟨rfl, rfl⟩ : b = b' ∧ off = off' := by have := Option.some.inj hA'; exact ⟨congrArg Addr.block this, congrArg Addr.off this⟩
    have hyr : y.r = x'.r := Option.some.inj (hl2.symm.trans HL.out)
    obtain ⟨d, o2, hyA, hd, hrg0, -⟩ := hok.at (k := q) (by rw [hyr]; exact HQ.out)
    have hrg : w3.rangeAt d (o2 + q * 3) (usL u) := by
      have e : y.r.used[q]'(by rw [hyr]; exact HQ.out) = u := by rw [← HU.out]; simp only [hyr]
      rw [e] at hrg0; exact hrg0
    clear hrg0
    have c2 : w3.cell? ⟨b, off + k * 3 + 2, none⟩ = some (.slice (some ⟨d, o2, none⟩) x'.r.used.length y.k) := by rw [c20]; unfold RR.v; rw [hyA, hyr]
    clear c20
    have hle2 : x'.r.used.length ≤ y.k := by rw [← hyr]; exact hok.le
    have s0 := rs3.cell 0
    dsimp only [List.getElem?_cons_zero] at s0
    obtain ⟨m, hm⟩ : ∃ m, x'.r.used.length = m := ⟨_, rfl⟩
    rw [hm] at c2 hle2 hq hmu hle
    have HQ2 := Lib.hid HQ.out
    have e3 : (0 : Int) ≤ (q : Int) := by omega
    have e4 : (q : Int) < (m : Int) := by omega
    have HB3 := Lib.hid hb3
    have HB1 := Lib.hid b1.size
    clear hm hyr hyA hA' hl2 hok hd hb' hb3 hb2 b1 b3
    go_wp2_with (first
      | (refine wpList_load_rg rfl _ (.tmp 20) rfl d (o2 + q * 3) rfl _ _ hrg Try.underlying37 rfl sizeUs ?_)
      | (refine wpList_storeRow rfl _ (.tmp 4) (.tmp 21) rfl (l' := usL u) ru3 rfl rfl sizeUs rfl rfl ?_; intro w4 ru4 g4 z4))
    refine bodyPost_ret (resultRT rfl _ _ ru4 rfl Try.underlying37 sizeUs) rfl ?_
    exact ⟨rfl, HB3.out.grown g4 HB3.out.size (fun i hi => by have := Option.some.inj hi; have := HB1.out; omega)⟩
end Go.Proofs.Ytcmgnjdhjnclkaa.S
