/- The index's iterator over its entries, and the functions that range over it. -/
import Derived.Test.YtnehbcopbioenaaIdx2
import Derived.RangeFuncBox
import Derived.RangeFuncNested
import Derived.RangeFuncLeaves
import Derived.Shelf.Abstract
import Derived.OwnWalkIn
import Derived.TacticsInMore
import Derived.LoopNIn
import Derived.LoopIn
import Derived.Maps.AppendAt
namespace Go.Proofs.Ytnehbcopbioenaa
set_option linter.unusedVariables false
set_option linter.unusedSimpArgs false
open Go.RowKit Go.ChangeMaps Go.Shelf

attribute [local go_sem] Oper.semAt_some

theorem cells_new (w : World) (us : List Value) (e : TypeId) : ∀ (j : Nat) (u : Value), us[j]? = some u → (w.alloc (.cells us.toArray e)).cell? ((⟨w.heap.size, 0, none⟩ : Addr).add j) = some u := by
  intro j u hu
  rw [Addr.add_lit]
  have h := cell_of_row (w.alloc (.cells us.toArray e)) w.heap.size (0 + j) us.toArray e (0, 0) (heap_alloc_new w _)
  rw [h, Nat.zero_add]
  simpa using hu

/-- how many entries come from the chunk c on -/
def leftOf (L : List (Int × Int)) (v : Value) : Nat := match v with | .int _ c => (L.dropWhile fun e => e.2 != c).length | _ => 0
theorem leftOf_eq {pre rest : List (Int × Int)} (g : Good (pre ++ rest)) : leftOf (pre ++ rest) (.int .i64 (hd 0 rest)) = rest.length := by
  have h1 : ∀ e ∈ pre, (e.2 != hd 0 rest) = true := by
    intro e he
    simp only [bne_iff_ne, ne_eq]
    cases rest with
    | nil => exact g.2 e (by simp [he])
    | cons x rest =>
      intro h
      have := g.1
      rw [List.map_append, List.nodup_append] at this
      exact this.2.2 e.2 (List.mem_map.2 ⟨e, he, rfl⟩) x.2 (by simp) h
  show (List.dropWhile _ (pre ++ rest)).length = _
  rw [List.dropWhile_append_of_pos h1]
  cases rest with
  | nil => rfl
  | cons x rest => simp [hd]
theorem Rep.at {s : ISt} {pre rest : List (Int × Int)} {e : Int × Int} (h : Rep s (pre ++ e :: rest)) (g : Good (pre ++ e :: rest)) : s.M e.2 = some (e.1, lst 0 pre, hd 0 rest) := by
  rw [h.2.2.1, seg_append, seg_none.2 (Good.split (c := e.2) (q := e.1) g).2.2.2.1]
  simp [seg]

/-- what a round keeps: what lay below n₀, and the block Bn -/
def KeepsBox (n₀ Bn : Nat) (W W' : World) : Prop := Below n₀ W W' ∧ W'.heap[Bn]? = W.heap[Bn]?
theorem keepsBox_t {n₀ Bn : Nat} {A B C : World} (h : KeepsBox n₀ Bn A B) (k : KeepsBox n₀ Bn B C) : KeepsBox n₀ Bn A C := ⟨h.1.trans k.1, k.2.trans h.2⟩
theorem keepsBox_b {n₀ Bn : Nat} {w : World} (hn : n₀ ≤ w.heap.size) (hb : Bn < w.heap.size) (W : World) (l : Nat) (o o' : Obj) (hl : w.heap.size ≤ l) (h : W.heap[l]? = some o) (h1 : o.isCells = false) (h2 : o.isWalk = false) : KeepsBox n₀ Bn W (W.putObj l o') :=
  ⟨belowK_b hn W l o o' hl h h1 h2, (grownBy_putObj' W l o').block Bn (by have := (Array.getElem?_eq_some_iff.1 h).1; omega) (fun e => by injection e with e; omega)⟩

abbrev entEncs (x : Int × Int) : Array Value := #[.int .i64 x.2, .int .u32 x.1]

set_option maxRecDepth 100000 in
set_option maxHeartbeats 2000000 in
/-- the closure that entries hands back: for every loop body that keeps what lay below n₀ -/
theorem entries1_in {α : Type} (val : α → Int × Int) (F : Fence) (n : Nat) (h6 : F.fn 40) (hro : F.round = none) (hn : 1 ≤ n) (l Bn n₀ bx bm : Nat) (s : ISt) (L : List α) (hrep : Rep s (L.map val)) (hg : Good (L.map val)) (hbx : bx < n₀) (hbm : bm < n₀) (J Jx : List α → World → Prop)
    (hY : ∀ pre x W, J pre W → pre.length < L.length → YieldAt F (n - 1) Try.prog l (entEncs (val x)) W fun e W' =>
      (e = .returned (.bool true) ∧ J (pre ++ [x]) W' ∧ KeepsBox n₀ Bn W W') ∨ (e = .returned (.bool false) ∧ Jx (pre ++ [x]) W'))
    (W : World) (hBn : W.cell? ⟨Bn, 0, none⟩ = some (.pointer (some ⟨bx, 0, none⟩))) (hL : IxAt W bx bm s) (h0 : J [] W) :
    CallsIn F n Try.prog 40 #[.func (.yield l) #[] #[], .pointer (some ⟨Bn, 0, none⟩)] W fun e W' => (∃ v, e = .returned v) ∧
      ((∃ ys, ys = L ∧ J ys W') ∨ (∃ pre, pre <+: L ∧ Jx pre W')) := by
  have hf0 : ∀ (a b c : Int) (w : World), (Instr.field 66 (.agg #[.int .u32 a, .int .i64 b, .int .i64 c]) 0).run Try.prog w = .ok (.int .u32 a) w := fun _ _ _ _ => by kernel_rfl
  have hf2 : ∀ (a b c : Int) (w : World), (Instr.field 66 (.agg #[.int .u32 a, .int .i64 b, .int .i64 c]) 2).run Try.prog w = .ok (.int .i64 c) w := fun _ _ _ _ => by kernel_rfl
  have HR := Lib.hid hrep
  have HG := Lib.hid hg
  clear hrep hg
  obtain ⟨hc0, hc1, hc2, hc3⟩ := hL.cells
  refine callsIn_of_wp Try.func40 rfl h6 ?_ hro
  simp only [Try.ntmps40, List.size_toArray, List.length_cons, List.length_nil, Nat.reduceAdd, Nat.reduceSub, Array.replicate_succ, Array.replicate_zero, List.push_toArray, List.append_toArray, List.nil_append, List.cons_append]
  gi_wp2
  clear hc0 hc1 hc2 hc3
  gi_loopw [3] (fun p wr => ∃ (pre rest : List α), p = .int .i64 (hd 0 (rest.map val)) ∧ L = pre ++ rest ∧ IxAt wr bx bm s ∧ wr.cell? ⟨Bn, 0, none⟩ = some (.pointer (some ⟨bx, 0, none⟩)) ∧ J pre wr)
    (fun p _ => leftOf (L.map val) p)
  case atStart =>
    exact ⟨[], L, by rw [HR.out.1], rfl, hL, hBn, h0⟩
  case round =>
    clear hL hBn
    obtain ⟨pre, rest, rfl, hx, hl, hBn, hJs⟩ := hrel
    obtain ⟨hc0, hc1, hc2, hc3⟩ := hl.cells
    have HX := Lib.hid hx
    clear hx
    cases rest with
    | nil =>
      simp only [List.map_nil, hd]
      gi_wp2
      go_end0
      exact ⟨⟨_, rfl⟩, .inl ⟨pre, by rw [HX.out, List.append_nil], hJs⟩⟩
    | cons x rest =>
      obtain ⟨fn, tmps, assign, body, hy, hR⟩ := hY pre x wr hJs (by rw [HX.out]; simp)
      obtain ⟨xp, xc, hxv⟩ : ∃ xp xc, val x = (xp, xc) := ⟨_, _, rfl⟩
      have hg' : Good (pre.map val ++ (xp, xc) :: rest.map val) := by have := HG.out; rw [HX.out, List.map_append, List.map_cons, hxv] at this; exact this
      have hr' : Rep s (pre.map val ++ (xp, xc) :: rest.map val) := by have := HR.out; rw [HX.out, List.map_append, List.map_cons, hxv] at this; exact this
      have hM := hr'.at hg'
      have hx0 : xc ≠ 0 := hg'.2 (xp, xc) (by simp)
      have hne : (xc == 0) = false := by simpa using hx0
      have HG' := Lib.hid hg'; have HM := Lib.hid hM
      have HV := Lib.hid hxv
      rw [hxv] at hy
      clear hM hr' hg' hx0
      have hlk := hl.2.2.look1 keyInt Try.underlying68 (zeroLink wr) xc (v := lval (xp, lst 0 (pre.map val), hd 0 (rest.map val))) (by simp [HM.out])
      simp only [lval] at hlk
      simp only [List.map_cons, hxv, hd, entEncs] at hy ⊢
      clear hxv
      gi_wp2
      refine hR.mono ?_
      rintro e W3 (⟨rfl, hJ3, hk3⟩ | ⟨rfl, hJx3⟩)
      · clear hlk hc0 hc1 hc2 hc3 hy hR
        have hl3 : IxAt W3 bx bm s := hl.below hk3.1 hbx hbm
        have hB3 : W3.cell? ⟨Bn, 0, none⟩ = some (.pointer (some ⟨bx, 0, none⟩)) := (World.cell?_of_block (a := ⟨Bn, 0, none⟩) hk3.2).trans hBn
        obtain ⟨hd0, hd1, hd2, hd3⟩ := hl3.cells
        have hlk := hl3.2.2.look1 keyInt Try.underlying68 (zeroLink W3) xc (v := lval (xp, lst 0 (pre.map val), hd 0 (rest.map val))) (by simp [HM.out])
        simp only [lval] at hlk
        gi_wp2
        go_roundw
        case rel => exact ⟨pre ++ [x], rest, rfl, by rw [HX.out]; simp, hl3, hB3, hJ3⟩
        case measure =>
          rw [HX.out, List.map_append, List.map_cons, HV.out, show (Value.int .i64 xc) = .int .i64 (hd 0 ((xp, xc) :: rest.map val)) from rfl, leftOf_eq HG'.out]
          have h2 : pre.map val ++ (xp, xc) :: rest.map val = (pre.map val ++ [(xp, xc)]) ++ rest.map val := by simp
          rw [h2, leftOf_eq (h2 ▸ HG'.out)]
          simp
      · gi_wp2
        refine bodyPost_ret (results_none rfl _ _ _) rfl ?_
        exact ⟨⟨_, rfl⟩, .inr ⟨pre ++ [x], ⟨rest, by rw [HX.out]; simp⟩, hJx3⟩⟩

theorem entries_in (F : Fence) (n : Nat) (h5 : F.fn 34) (hro : F.round = none) (p0 : Option Addr) (w : World) :
    CallsIn F n Try.prog 34 #[.pointer p0] w fun e w' => e = .returned (.func (.func 40) #[] #[.pointer (some ⟨w.heap.size, 0, none⟩)]) ∧ w' = w.alloc (.cells #[.pointer p0] 24) := by
  refine callsIn_of_wp Try.func34 rfl h5 ?_ hro
  simp only [Try.ntmps34, List.size_toArray, List.length_cons, List.length_nil, Nat.reduceAdd, Nat.reduceSub, Array.replicate_succ, Array.replicate_zero, List.push_toArray, List.append_toArray, List.nil_append, List.cons_append]
  gi_wp2
  go_ret
  exact ⟨rfl, rfl⟩

theorem entries_stopsG {α : Type} (val : α → Int × Int) (F : Fence) (n : Nat) (h6 : F.fn 40) (hro : F.round = none) (hn : 1 ≤ n) (Bn n₀ bx bm : Nat) (s : ISt) (L : List α) (hrep : Rep s (L.map val)) (hg : Good (L.map val)) (w : World) (hn₀ : n₀ ≤ w.heap.size) (hbx : bx < n₀) (hbm : bm < n₀) (hbn : Bn < w.heap.size)
    (hc : w.cell? ⟨Bn, 0, none⟩ = some (.pointer (some ⟨bx, 0, none⟩))) (hL : IxAt w bx bm s) :
    SeqStopsK F n Try.prog 40 #[.pointer (some ⟨Bn, 0, none⟩)] (fun x => entEncs (val x)) (KeepsBox n₀ Bn) (fun ys => ys = L) (fun pre => pre <+: L) L.length w := fun l J Jx W hW _ _ hY h0 =>
  entries1_in val F n h6 hro hn l Bn n₀ bx bm s L hrep hg hbx hbm J Jx hY W ((hW.cell (p := ⟨Bn, 0, none⟩) hbn).trans hc) (hL.below (hW.mono hn₀) hbx hbm) h0
theorem entries_stops (F : Fence) (n : Nat) (h6 : F.fn 40) (hro : F.round = none) (hn : 1 ≤ n) (Bn n₀ bx bm : Nat) (s : ISt) (L : List (Int × Int)) (hrep : Rep s L) (hg : Good L) (w : World) (hn₀ : n₀ ≤ w.heap.size) (hbx : bx < n₀) (hbm : bm < n₀) (hbn : Bn < w.heap.size)
    (hc : w.cell? ⟨Bn, 0, none⟩ = some (.pointer (some ⟨bx, 0, none⟩))) (hL : IxAt w bx bm s) :
    SeqStopsK F n Try.prog 40 #[.pointer (some ⟨Bn, 0, none⟩)] entEncs (KeepsBox n₀ Bn) (fun ys => ys = L) (fun pre => pre <+: L) L.length w := entries_stopsG id F n h6 hro hn Bn n₀ bx bm s L (by simpa using hrep) (by simpa using hg) w hn₀ hbx hbm hbn hc hL
end Go.Proofs.Ytnehbcopbioenaa
