/- The index in memory as a state of plain data, and the walks of its small functions. -/
import Derived.Test.YtnehbcopbioenaaKeep
import Derived.Test.YtnehbcopbioenaaIdxPlain
import Derived.Test.YtnehbcopbioenaaRows
import Derived.WalkKit
import Derived.WalkSpells
import Derived.WalkLawsBesides
import Derived.Deep.QuietTactic
import Derived.BigQuiet
import Derived.StillTailTactics
import Derived.Deep.DeepCutAuto
namespace Go.Proofs.Ytnehbcopbioenaa
set_option linter.unusedVariables false
set_option linter.unusedSimpArgs false
open Go.RowKit Go.ChangeMaps

def lval (x : Int × Int × Int) : Value := .agg #[.int .u32 x.1, .int .i64 x.2.1, .int .i64 x.2.2]
/-- the index lies in block bx, its map in block bm -/
def IxAt (w : World) (bx bm : Nat) (s : ISt) : Prop :=
  bx ≠ bm ∧ w.heap[bx]? = some (.cells #[.int .i64 s.cap, .map (some bm), .int .i64 s.f, .int .i64 s.l] 70) ∧ MapIs w bm (Value.int .i64) (fun x => (s.M x).map lval) s.n
theorem keyInt : KeyT Try.prog 3 (Value.int .i64) := keyT_int Try.underlying3
theorem zeroLink (w : World) : (zeroValue 66).run Try.prog w = .ok (lval (0, 0, 0)) w := by kernel_rfl

section
variable {w w' : World} {bx bm : Nat} {s : ISt}
theorem IxAt.cells (h : IxAt w bx bm s) : w.cell? ⟨bx, 0, none⟩ = some (.int .i64 s.cap) ∧ w.cell? ⟨bx, 1, none⟩ = some (.map (some bm)) ∧ w.cell? ⟨bx, 2, none⟩ = some (.int .i64 s.f) ∧ w.cell? ⟨bx, 3, none⟩ = some (.int .i64 s.l) := by
  refine ⟨?_, ?_, ?_, ?_⟩ <;> (rw [cell_of_row _ _ _ _ _ _ h.2.1]; rfl)
theorem IxAt.keep {S : Nat → Prop} (h : IxAt w bx bm s) (hk : Keep S w w') (h1 : ¬ S bx) (h2 : ¬ S bm) : IxAt w' bx bm s :=
  ⟨h.1, (hk.block bx (Array.getElem?_eq_some_iff.1 h.2.1).1 h1).trans h.2.1, h.2.2.keep hk h2⟩
theorem IxAt.lt (h : IxAt w bx bm s) : bx < w.heap.size ∧ bm < w.heap.size := ⟨(Array.getElem?_eq_some_iff.1 h.2.1).1, h.2.2.lt⟩
theorem IxAt.below {B : Nat} (h : IxAt w bx bm s) (hb : Below B w w') (h1 : bx < B) (h2 : bm < B) : IxAt w' bx bm s :=
  ⟨h.1, (hb.block bx h1).trans h.2.1, h.2.2.below hb h2⟩
theorem ISt.join1_some {s : ISt} {b a : Int} {v : Int × Int × Int} (h : s.M b = some v) : s.join1 b a = { s with M := fun x => if x = b then some (v.1, v.2.1, a) else s.M x } := by simp [ISt.join1, h]
theorem ISt.join1_none {s : ISt} {b a : Int} (h : s.M b = none) : s.join1 b a = { s with f := a } := by simp [ISt.join1, h]
theorem ISt.join2_some {s : ISt} {b a : Int} {v : Int × Int × Int} (h : s.M a = some v) : s.join2 b a = { s with M := fun x => if x = a then some (v.1, b, v.2.2) else s.M x } := by simp [ISt.join2, h]
theorem ISt.join2_none {s : ISt} {b a : Int} (h : s.M a = none) : s.join2 b a = { s with l := b } := by simp [ISt.join2, h]
/-- a link that is already there is turned -/
theorem IxAt.relink (h : IxAt w bx bm s) {x : Int} {v u : Int × Int × Int} (hx : s.M x = some v) (hm : MapIs w' bm (Value.int .i64) (fun z => if z = x then some (lval u) else (s.M z).map lval) (if ((s.M x).map lval).isSome then s.n else s.n + 1)) (ht : w.mapTurned w' bm) :
    IxAt w' bx bm { s with M := fun z => if z = x then some u else s.M z } := by
  refine ⟨h.1, (ht.grown.block bx h.lt.1 (fun e => by injection e with e; exact h.1 e)).trans h.2.1, ?_⟩
  rw [hx] at hm
  exact hm.congr fun z => by by_cases hz : z = x <;> simp [hz]
/-- the first or the last chunk is written -/
theorem IxAt.first (h : IxAt w bx bm s) (a : Int) : IxAt (w.setCell ⟨bx, 2, none⟩ (.int .i64 a)) bx bm { s with f := a } :=
  ⟨h.1, heap_setCell_same w bx 2 _ _ _ h.2.1, h.2.2.setCell (a := ⟨bx, 2, none⟩) (fun e => h.1 e.symm) _⟩
theorem IxAt.last (h : IxAt w bx bm s) (a : Int) : IxAt (w.setCell ⟨bx, 3, none⟩ (.int .i64 a)) bx bm { s with l := a } :=
  ⟨h.1, heap_setCell_same w bx 3 _ _ _ h.2.1, h.2.2.setCell (a := ⟨bx, 3, none⟩) (fun e => h.1 e.symm) _⟩
theorem IxAt.alloc (h : IxAt w bx bm s) (o : Obj) : IxAt (w.alloc o) bx bm s := h.keep ((Keep.refl (fun _ => False) w).alloc o) id id
theorem IxAt.drew (h : IxAt w bx bm s) : IxAt w.drew bx bm s := h
theorem IxAt.look (h : IxAt w bx bm s) (x : Int) {v : Int × Int × Int} (hx : s.M x = some v) : (Instr.lookup 68 (.map (some bm)) (.int .i64 x) true).run Try.prog w = .ok (.tuple #[lval v, .bool true]) w :=
  h.2.2.look_ok keyInt Try.underlying68 (zeroLink w) x (by rw [hx]; rfl)
theorem IxAt.look_no (h : IxAt w bx bm s) (x : Int) (hx : s.M x = none) : (Instr.lookup 68 (.map (some bm)) (.int .i64 x) true).run Try.prog w = .ok (.tuple #[lval (0, 0, 0), .bool false]) w :=
  h.2.2.look_no keyInt Try.underlying68 (zeroLink w) x (by rw [hx]; rfl)
theorem IxAt.frozen (h : IxAt w bx bm s) (k : Nat) : w.frozen? ⟨bx, k, none⟩ = false := frozen_of_row _ _ _ _ _ h.2.1
end

def link (p b a : Int) : Value := .agg #[.int .u32 p, .int .i64 b, .int .i64 a]
set_option maxHeartbeats 1600000 in
theorem join_any (bx bm : Nat) (s : ISt) (b a : Int) (w : World) (h : IxAt w bx bm s) :
    Calls Try.prog 35 #[.pointer (some ⟨bx, 0, none⟩), .int .i64 b, .int .i64 a] w fun e w' => (∃ v, e = .returned v) ∧ IxAt w' bx bm (s.join b a) ∧ Keep (fun k => k = bx ∨ k = bm) w w' := by
  obtain ⟨hc0, hc1, hc2, hc3⟩ := h.cells
  obtain ⟨v, hv⟩ : ∃ v, (s.M b).getD (0, 0, 0) = v := ⟨_, rfl⟩
  obtain ⟨vp, vb, va⟩ := v
  obtain ⟨is, his⟩ : ∃ is, (s.M b).isSome = is := ⟨_, rfl⟩
  have hl := h.2.2.look keyInt Try.underlying68 (zeroLink w) b true
  have e1 : (Option.map lval (s.M b)).getD (lval (0, 0, 0)) = .agg #[.int .u32 vp, .int .i64 vb, .int .i64 va] := by
    cases hm : s.M b with
    | none => rw [hm] at hv; simp at hv; obtain ⟨rfl, rfl, rfl⟩ := hv; rfl
    | some u => rw [hm] at hv; simp at hv; subst hv; rfl
  have e2 : (Option.map lval (s.M b)).isSome = is := by rw [← his]; simp
  simp only [e1, e2, if_true] at hl
  clear e1 e2
  have HV := Lib.hid hv; have HIS := Lib.hid his
  clear hv his
  go_enter Try.func35, Try.ntmps35
  go_upto_if 19 with fail
  go_cut [6] (fun _ wx => IxAt wx bx bm (s.join1 b a) ∧ Keep (fun k => k = bx ∨ k = bm) w wx)
  case first =>
    cases is with
    | true =>
      have hb : s.M b = some (vp, vb, va) := by
        have h1 := HIS.out; have h2 := HV.out
        cases hm : s.M b with
        | none => rw [hm] at h1; cases h1
        | some u => rw [hm] at h2; simp at h2; rw [h2]
      go_wp2_with fail
      have h1 := h.alloc (.cells #[.int .u32 vp, .int .i64 vb, .int .i64 a] 66)
      obtain ⟨hd0, hd1, hd2, hd3⟩ := h1.cells
      obtain ⟨w1, hrun, hm1, ht1⟩ := h1.drew.2.2.update keyInt Try.underlying68 b (.agg #[.int .u32 vp, .int .i64 vb, .int .i64 a])
      go_region
      go_wp2_with fail
      go_meet
      case rel =>
        rw [ISt.join1_some hb]
        exact ⟨h1.drew.relink hb hm1 ht1, ((Keep.refl _ w).alloc _).drew.turned ht1 (.inl (.inr rfl))⟩
    | false =>
      have hb : s.M b = none := by
        have h1 := HIS.out
        cases hm : s.M b with
        | none => rfl
        | some u => rw [hm] at h1; cases h1
      have h1 := h.alloc (.cells #[.int .u32 vp, .int .i64 vb, .int .i64 va] 66)
      obtain ⟨hd0, hd1, hd2, hd3⟩ := h1.cells
      have hfz := h1.frozen 2
      go_wp2_with fail
      go_meet
      case rel =>
        rw [ISt.join1_none hb]
        exact ⟨h1.first a, ((Keep.refl _ w).alloc _).setCell (.inl (.inl rfl)) _⟩
  case rest =>
    clear hl HV HIS hc0 hc1 hc2 hc3
    obtain ⟨h, hk⟩ := hcut
    obtain ⟨s1, hs1⟩ : ∃ s1, s.join1 b a = s1 := ⟨_, rfl⟩
    rw [hs1] at h
    have HS1 := Lib.hid hs1
    clear hs1
    obtain ⟨hc0, hc1, hc2, hc3⟩ := h.cells
    obtain ⟨v, hv⟩ : ∃ v, (s1.M a).getD (0, 0, 0) = v := ⟨_, rfl⟩
    obtain ⟨vp, vb, va⟩ := v
    obtain ⟨is, his⟩ : ∃ is, (s1.M a).isSome = is := ⟨_, rfl⟩
    have hl := h.2.2.look keyInt Try.underlying68 (zeroLink wc) a true
    have e1 : (Option.map lval (s1.M a)).getD (lval (0, 0, 0)) = .agg #[.int .u32 vp, .int .i64 vb, .int .i64 va] := by
      cases hm : s1.M a with
      | none => rw [hm] at hv; simp at hv; obtain ⟨rfl, rfl, rfl⟩ := hv; rfl
      | some u => rw [hm] at hv; simp at hv; subst hv; rfl
    have e2 : (Option.map lval (s1.M a)).isSome = is := by rw [← his]; simp
    simp only [e1, e2, if_true] at hl
    clear e1 e2
    have HV := Lib.hid hv; have HIS := Lib.hid his
    clear hv his
    cases is with
    | true =>
      have hb : s1.M a = some (vp, vb, va) := by
        have h1 := HIS.out; have h2 := HV.out
        cases hm : s1.M a with
        | none => rw [hm] at h1; cases h1
        | some u => rw [hm] at h2; simp at h2; rw [h2]
      go_wp2_with fail
      have h1 := h.alloc (.cells #[.int .u32 vp, .int .i64 b, .int .i64 va] 66)
      obtain ⟨hd0, hd1, hd2, hd3⟩ := h1.cells
      obtain ⟨w1, hrun, hm1, ht1⟩ := h1.drew.2.2.update keyInt Try.underlying68 a (.agg #[.int .u32 vp, .int .i64 b, .int .i64 va])
      go_region
      go_wp2_with fail
      go_end0
      refine ⟨⟨_, rfl⟩, ?_, (hk.alloc _).drew.turned ht1 (.inl (.inr rfl))⟩
      rw [ISt.join, HS1.out, ISt.join2_some hb]
      exact h1.drew.relink hb hm1 ht1
    | false =>
      have hb : s1.M a = none := by
        have h1 := HIS.out
        cases hm : s1.M a with
        | none => rfl
        | some u => rw [hm] at h1; cases h1
      have h1 := h.alloc (.cells #[.int .u32 vp, .int .i64 vb, .int .i64 va] 66)
      obtain ⟨hd0, hd1, hd2, hd3⟩ := h1.cells
      have hfz := h1.frozen 3
      go_wp2_with fail
      go_end0
      refine ⟨⟨_, rfl⟩, ?_, (hk.alloc _).setCell (.inl (.inl rfl)) _⟩
      rw [ISt.join, HS1.out, ISt.join2_none hb]
      exact h1.last b
end Go.Proofs.Ytnehbcopbioenaa
