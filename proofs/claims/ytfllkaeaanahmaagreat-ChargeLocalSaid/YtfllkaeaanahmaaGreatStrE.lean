/- The rows of a code: stripes.of, a range over a function. Conditions: the rows are kept. -/
import Derived.Test.YtfllkaeaanahmaaGreatStrD
import Derived.Test.YtfllkaeaanahmaaGreatRowIn
namespace Go.Proofs.YtfllkaeaanahmaaGreat.S
set_option linter.unusedVariables false
set_option linter.unusedSimpArgs false
open Go.RowKit Go.Shelf

attribute [local go_sem] Oper.semAt_some

theorem wpListIn_load_rg {P : Program} {F : Fence} {nf : Nat} {w : World} {ops : Array Oper} {rest : List Oper} {o : Oper} {a : Act} {Q : Exit → Act → World → Prop} (hw : Region.wanted o (yielded ops a.tmps) = true) (ty : TypeId) (x : Operand) (ho : o.op = .load ty x) (b off : Nat) (hx : a.eval x = .pointer (some ⟨b, off, none⟩)) (l : List Value) (ud : TypeDesc) (hr : w.rangeAt b off l)
  (hu : P.underlying ty = some ud) (ha : ud.isRow = true) (hi : (P.info? ty).map (·.size) = some l.length) (h : wpListIn F nf P ops Q rest (a.put o.dst (.agg l.toArray)) w) : wpListIn F nf P ops Q (o :: rest) a w :=
 wpListIn_step fun K hK => by
  rw [if_pos hw]
  unfold Oper.wpIn
  refine ⟨by simp [Oper.about, ho], ?_⟩
  rw [Oper.semAt_plain F _ _ (by rw [ho]; intro c hc'; cases hc')]
  unfold execOp
  simp only [ho, hx, Instr.loadAt, Instr.sureAddr, Sem.run_bind, Sem.run_pure, Result.andThen_ok, run_loadVar_mid w b off ty l ud hr hu ha hi]
  exact hK _ _ h
theorem grown_of_below {w w' : World} (h : Below w.heap.size w w') (r : Option Nat) : w.grownBy w' r := ⟨h.os, h.tape, h.output, h.size, fun k hk _ => h.block k hk⟩
def KeepsBox (n₀ Bn : Nat) (W W' : World) : Prop := Below n₀ W W' ∧ W'.heap[Bn]? = W.heap[Bn]?
theorem keepsBox_t {n₀ Bn : Nat} {A B C : World} (h : KeepsBox n₀ Bn A B) (k : KeepsBox n₀ Bn B C) : KeepsBox n₀ Bn A C := ⟨h.1.trans k.1, k.2.trans h.2⟩
theorem keepsBox_b {n₀ Bn : Nat} {w : World} (hn : n₀ ≤ w.heap.size) (hb : Bn < w.heap.size) (W : World) (l : Nat) (o o' : Obj) (hl : w.heap.size ≤ l) (h : W.heap[l]? = some o) (h1 : o.isCells = false) (h2 : o.isWalk = false) : KeepsBox n₀ Bn W (W.putObj l o') :=
 ⟨belowK_b hn W l o o' hl h h1 h2, (grownBy_putObj' W l o').block Bn (by have := (Array.getElem?_eq_some_iff.1 h).1; omega) (fun e => by injection e with e; omega)⟩
def ofD (c : Int) : List RR → Nat → List (Nat × RR)
 | [], _ => []
 | x :: D, j => if x.r.code = c then (j, x) :: ofD c D (j + 1) else ofD c D (j + 1)
theorem ofD_hit {c : Int} {D : List RR} {j : Nat} {x : RR} (h : D[j]? = some x) (hc : x.r.code = c) : ofD c (D.drop j) j = (j, x) :: ofD c (D.drop (j + 1)) (j + 1) := by
 obtain ⟨hj, rfl⟩ := List.getElem?_eq_some_iff.1 h
 rw [List.drop_eq_getElem_cons hj]
 show (if _ then _ else _) = _
 rw [if_pos hc]
theorem ofD_miss {c : Int} {D : List RR} {j : Nat} {x : RR} (h : D[j]? = some x) (hc : x.r.code ≠ c) : ofD c (D.drop j) j = ofD c (D.drop (j + 1)) (j + 1) := by
 obtain ⟨hj, rfl⟩ := List.getElem?_eq_some_iff.1 h
 rw [List.drop_eq_getElem_cons hj]
 show (if _ then _ else _) = _
 rw [if_neg hc]
theorem ofD_nil {c : Int} {D : List RR} {j : Nat} (h : D.length ≤ j) : ofD c (D.drop j) j = [] := by rw [List.drop_of_length_le h]; rfl
abbrev rowEncs (x : Nat × RR) : Array Value := #[.int .i64 (x.1 : Int), .agg (rwL x.2).toArray]
def zRw : List Value := [.int .i64 0, .int .i64 0, .slice none 0 0]
theorem infoRw : (Tryz.prog.info? 102).map (fun i => (i.zero, i.size)) = some (some (.agg zRw.toArray), zRw.length) := by kernel_rfl
set_option maxRecDepth 100000 in
set_option maxHeartbeats 2000000 in
theorem of1_in {α : Type} (val : α → Nat × RR) (F : Fence) (n : Nat) (h6 : F.fn 122) (hro : F.round = none) (hn : 1 ≤ n) (l Br Bc n₀ m cp : Nat) (A : Option Addr) (D : List RR) (c : Int) (w : World) (rs : List Str.Rw) (hR : RowsAt w n₀ A m D rs) (hmc : m ≤ cp) (hw : n₀ ≤ w.heap.size) (hbc : Bc < w.heap.size) (L : List α) (hL : L.map val = ofD c D 0) (J Jx : List α → World → Prop)
  (hY : ∀ pre x W, J pre W → pre.length < L.length → YieldAt F (n - 1) Tryz.prog l (rowEncs (val x)) W fun e W' =>
   (e = .returned (.bool true) ∧ J (pre ++ [x]) W' ∧ KeepsBox n₀ Bc W W') ∨ (e = .returned (.bool false) ∧ Jx (pre ++ [x]) W'))
  (W : World) (hJ : AbidesFrom W.heap.size J) (hbW : Below w.heap.size w W) (hBr : W.cell? ⟨Br, 0, none⟩ = some (.slice A m cp)) (hBc : W.cell? ⟨Bc, 0, none⟩ = some (.int .i64 c)) (h0 : J [] W) :
  CallsIn F n Tryz.prog 122 #[.func (.yield l) #[] #[], .pointer (some ⟨Br, 0, none⟩), .pointer (some ⟨Bc, 0, none⟩)] W fun e W' => (∃ v, e = .returned v) ∧
   ((∃ ys, ys = L ∧ J ys W') ∨ (∃ pre, pre <+: L ∧ Jx pre W')) := by
 have HR := Lib.hid hR
 have HLN := Lib.hid hR.len
 have hmx := hR.mx
 have HW := Lib.hid (And.intro hw (And.intro hbc hbW))
 have HBC := Lib.hid hBc
 have HJ := Lib.hid hJ
 have HLV := Lib.hid hL
 clear hR hw hbc hbW hBc hJ hL
 refine callsIn_of_wp Tryz.func122 rfl h6 ?_ hro
 simp only [Tryz.ntmps122, List.size_toArray, List.length_cons, List.length_nil, Nat.reduceAdd, Nat.reduceSub, Array.replicate_succ, Array.replicate_zero, List.push_toArray, List.append_toArray, List.nil_append, List.cons_append]
 gi_wp2
 gi_loopw [8] (fun u wr => ∃ (j : Nat) (pre rest : List α), j ≤ m ∧ u = .int .i64 (j : Int) ∧ Hid (L = pre ++ rest) ∧ Hid (rest.map val = ofD c (D.drop j) j) ∧ Hid (KeepsBox n₀ Bc W wr) ∧ Hid (W.heap.size ≤ wr.heap.size) ∧ Hid (J pre wr))
  (fun u _ => m - (intOf u).toNat)
 case atStart => exact ⟨0, [], L, Nat.zero_le _, rfl, Lib.hid rfl, Lib.hid HLV.out, Lib.hid ⟨Below.refl _ _, rfl⟩, Lib.hid (Nat.le_refl _), Lib.hid h0⟩
 case round =>
  obtain ⟨j, pre, rest, hj, rfl, HO, HV, HK, HS, HJP⟩ := hrel
  by_cases hlt : j < m
  ·
   obtain ⟨b, off, x, rfl, hb, hx, hl, hok, hrg, -, -, -⟩ := (HR.out.below ((HW.out.2.2.mono HW.out.1).trans HK.out.1)).at hlt
   have e1 : (0 : Int) ≤ (j : Int) := by omega
   have e2 : (j : Int) < (m : Int) := by omega
   have HBL : Hid (Bc < wr.heap.size) := Lib.hid (by have := HW.out; have := this.2.2.size; have := HS.out; omega)
   have HBW : Hid (wr.cell? ⟨Bc, 0, none⟩ = some (.int .i64 c)) := Lib.hid ((World.cell?_of_block (a := ⟨Bc, 0, none⟩) HK.out.2).trans HBC.out)
   have HX := Lib.hid hx
   obtain ⟨xv, hxv⟩ : ∃ y, x.v = y := ⟨_, rfl⟩
   have HV1 : Hid (List.all [Value.int .i64 x.r.code, .int .i64 x.r.width, xv] (·.oneCell') = true) := Lib.hid (by rw [← hxv]; rfl)
   have HRW : Hid (rwL x = [.int .i64 x.r.code, .int .i64 x.r.width, xv]) := Lib.hid (by rw [← hxv]; rfl)
   rw [HRW.out] at hrg
   obtain ⟨xw, hxw⟩ : ∃ y, x.r.width = y := ⟨_, rfl⟩
   rw [hxw] at hrg HV1 HRW
   obtain ⟨xc, hxc⟩ : ∃ y, x.r.code = y := ⟨_, rfl⟩
   rw [hxc] at hrg HV1 HRW
   have HXC := Lib.hid hxc
   clear hx hl hok hb hxv hxw hxc
   by_cases hc : xc = c
   ·
    subst hc
    obtain ⟨y, rest', rfl, hy, hrest⟩ : ∃ y rest', rest = y :: rest' ∧ val y = (j, x) ∧ rest'.map val = ofD xc (D.drop (j + 1)) (j + 1) := by
     have e := HV.out
     rw [ofD_hit HX.out HXC.out] at e
     cases rest with
     | nil => cases e
     | cons y rest' => rw [List.map_cons] at e; injection e with e1 e2; exact ⟨y, rest', rfl, e1, e2⟩
    have HVY := Lib.hid hy
    have HREST := Lib.hid hrest
    clear hy hrest
    have HY := Lib.hid (fun (V : World) (hV : Below wr.heap.size wr V) => hY pre y V (HJ.out pre wr V none HJP.out (grown_of_below hV none) (fun r e => by cases e)) (by rw [HO.out]; simp))
    gi_wp2_with (first
    | (refine wpListIn_load_rg rfl _ (.tmp 11) rfl b (off + j * 3) rfl _ _ hrg Tryz.underlying102 rfl sizeRw ?_)
    | (refine wpListIn_allocRow rfl _ rfl _ infoRw ?_; intro w4 r4 b4 z4; clear z4)
    | (refine wpListIn_storeRow rfl _ (.tmp 5) (.tmp 12) rfl (l' := [.int .i64 xc, .int .i64 xw, xv]) r4 rfl rfl sizeRw rfl HV1.out ?_; intro w5 r5 g5 z5 q5; clear z5 q5 r4; have b5 := b4.grown g5 b4.size (fun k e => by have := Option.some.inj e; omega); clear b4 g5; obtain ⟨fn, tmps, assign, body, hy, hR⟩ := HY.out w5 b5; rw [HVY.out] at hy; dsimp only [rowEncs] at hy; rw [HRW.out] at hy; have k0 := r5.cell 0; dsimp only [List.getElem?_cons_zero] at k0; have kc : w5.cell? ⟨Bc, 0, none⟩ = some (.int .i64 xc) := (b5.cell (p := ⟨Bc, 0, none⟩) HBL.out).trans HBW.out)
    | (refine wpListIn_load_rg rfl _ (.tmp 5) rfl wr.heap.size 0 rfl [.int .i64 xc, .int .i64 xw, xv] _ (fun q v hv => by rw [Nat.zero_add, r5.cell]; exact hv) Tryz.underlying102 rfl sizeRw ?_))
    refine hR.mono ?_
    rintro e W3 (⟨rfl, hJ3, hk3⟩ | ⟨rfl, hJx3⟩)
    ·
     gi_wp2
     go_roundw
     case rel =>
      exact ⟨j + 1, pre ++ [y], rest', by omega, by go_num, Lib.hid (by rw [HO.out]; simp), HREST, Lib.hid (keepsBox_t (keepsBox_t HK.out ⟨b5.mono (by have := HW.out; have := this.2.2.size; have := HS.out; omega), b5.block Bc HBL.out⟩) hk3), Lib.hid (Nat.le_trans (Nat.le_trans HS.out b5.size) hk3.1.size), Lib.hid hJ3⟩
     case measure => simp [intOf]; omega
    ·
     gi_wp2
     refine bodyPost_ret (results_none rfl _ _ _) rfl ?_
     exact ⟨⟨_, rfl⟩, .inr ⟨pre ++ [y], ⟨rest', by rw [HO.out]; simp⟩, hJx3⟩⟩
   ·
    have hcb : (xc == c) = false := beq_eq_false_iff_ne.2 hc
    have HC := Lib.hid hc
    clear hc
    gi_wp2_with (first
    | (refine wpListIn_load_rg rfl _ (.tmp 11) rfl b (off + j * 3) rfl _ _ hrg Tryz.underlying102 rfl sizeRw ?_)
    | (refine wpListIn_allocRow rfl _ rfl _ infoRw ?_; intro w4 r4 b4 z4; clear z4)
    | (refine wpListIn_storeRow rfl _ (.tmp 5) (.tmp 12) rfl (l' := [.int .i64 xc, .int .i64 xw, xv]) r4 rfl rfl sizeRw rfl HV1.out ?_; intro w5 r5 g5 z5 q5; clear z5 q5 r4; have b5 := b4.grown g5 b4.size (fun k e => by have := Option.some.inj e; omega); clear b4 g5; have k0 := r5.cell 0; dsimp only [List.getElem?_cons_zero] at k0; have kc : w5.cell? ⟨Bc, 0, none⟩ = some (.int .i64 c) := (b5.cell (p := ⟨Bc, 0, none⟩) HBL.out).trans HBW.out)
    | (refine wpListIn_load_rg rfl _ (.tmp 5) rfl wr.heap.size 0 rfl [.int .i64 xc, .int .i64 xw, xv] _ (fun q v hv => by rw [Nat.zero_add, r5.cell]; exact hv) Tryz.underlying102 rfl sizeRw ?_))
    refine ⟨fun _ h => (by cases h), ?_⟩
    gi_wp2
    go_roundw
    case rel =>
     have hXc : x.r.code ≠ c := by rw [HXC.out]; exact HC.out
     exact ⟨j + 1, pre, rest, by omega, by go_num, HO, Lib.hid (by rw [HV.out, ofD_miss HX.out hXc]), Lib.hid (keepsBox_t HK.out ⟨b5.mono (by have := HW.out; have := this.2.2.size; have := HS.out; omega), b5.block Bc HBL.out⟩), Lib.hid (Nat.le_trans HS.out b5.size), Lib.hid (HJ.out pre wr w5 none HJP.out (grown_of_below b5 none) (fun r e => by cases e))⟩
    case measure => simp [intOf]; omega
  ·
   obtain rfl : j = m := by omega
   gi_wp2
   go_end0
   have e : rest = [] := by have e := HV.out; rw [ofD_nil (by rw [HLN.out.1]; exact Nat.le_refl _)] at e; simpa using e
   exact ⟨⟨_, rfl⟩, .inl ⟨pre, by rw [HO.out, e, List.append_nil], HJP.out⟩⟩
end Go.Proofs.YtfllkaeaanahmaaGreat.S
