/- Joined texts: Srt1, Srt2, Srt3. Conditions: as each part says. -/
import Derived.Test.YtfllkaeaanahmaaGreatRows
import Derived.Test.YtfllkaeaanahmaaGreatMaps
import Derived.Test.YtfllkaeaanahmaaGreatSplP
import Derived.WalkKit
import Derived.WalkSpells
import Derived.WalkLawsBesides
import Derived.Deep.QuietTactic
import Derived.BigQuiet
import Derived.RegionTactic
import Derived.LoopN
import Derived.Outline
import Derived.Test.YtfllkaeaanahmaaGreatHeld2
namespace Go.Proofs.YtfllkaeaanahmaaGreat
set_option linter.unusedVariables false
set_option linter.unusedSimpArgs false
section
namespace W
open Go.RowKit
theorem grownBy_of_below {w w' : World} (h : Below w.heap.size w w') : w.grownBy w' none := ⟨h.os, h.tape, h.output, h.size, fun k hk _ => h.block k hk⟩
theorem grown_setCell (w : World) (b o : Nat) (v : Value) : w.grownBy (w.setCell ⟨b, o, none⟩ v) (some b) := ⟨rfl, rfl, rfl, by simp, fun k _ hk => Below.heap_setCell _ _ _ k (fun e => hk (by rw [e]))⟩
theorem cell_set_ne (w : World) {g i j : Nat} (v : Value) (h : i ≠ j) : (w.setCell ⟨g, i, none⟩ v).cell? ⟨g, j, none⟩ = w.cell? ⟨g, j, none⟩ := World.cell?_setCell_other _ _ _ _ (fun e => h (congrArg (·.off) e))
theorem cell_set_eq (w : World) {g i : Nat} {u : Value} (v : Value) (h : w.cell? ⟨g, i, none⟩ = some u) : (w.setCell ⟨g, i, none⟩ v).cell? ⟨g, i, none⟩ = some v := World.cell?_setCell_same _ _ _ h
theorem _root_.Go.World.grownBy.any {w w' : World} {r : Option Nat} (h : w.grownBy w' none) : w.grownBy w' r := ⟨h.os, h.tape, h.output, h.size, fun k hk _ => h.block k hk (by simp)⟩
theorem grown_drewN {a w : World} {row : Option Nat} (h : a.grownBy w row) (k : Nat) : a.grownBy (w.drewN k) row := ⟨h.os, h.tape, h.output, h.size, h.block⟩
theorem far_grown {w w' : World} {g : Nat} {p : Addr} {v : Value} (hg : w.grownBy w' (some g)) (h : w.cell? p = some v) (hp : p.block < w.heap.size) (hne : p.block ≠ g) : w'.cell? p = some v :=
 (World.cell?_of_block (hg.block p.block hp (fun e => hne (Option.some.inj e)))).trans h
structure FRow (w : World) (g n : Nat) (d : Nat → Int) : Prop where
 lt : g < w.heap.size
 cell : ∀ t, t < n → w.cell? ⟨g, t, none⟩ = some (.int .i64 (d t))
 free : ∀ t, t < n → w.frozen? ⟨g, t, none⟩ = false
section
variable {w w' : World} {g n : Nat} {d : Nat → Int}
theorem FRow.keep (h : FRow w g n d) (hk : w'.heap[g]? = w.heap[g]?) : FRow w' g n d := by
 refine ⟨?_, fun t ht => (World.cell?_of_block (a := ⟨g, t, none⟩) hk).trans (h.cell t ht), fun t ht => (World.frozen?_of_block (a := ⟨g, t, none⟩) hk).trans (h.free t ht)⟩
 have h1 : w.heap[g]? = some (w.heap[g]'h.lt) := Array.getElem?_eq_getElem h.lt
 rw [h1] at hk
 exact (Array.getElem?_eq_some_iff.1 hk).1
theorem FRow.below (h : FRow w g n d) (hb : Below w.heap.size w w') : FRow w' g n d := h.keep (hb.block g h.lt)
theorem FRow.drewN (h : FRow w g n d) (k : Nat) : FRow (w.drewN k) g n d := h.keep rfl
theorem FRow.congr (h : FRow w g n d) {e : Nat → Int} (he : ∀ t, t < n → e t = d t) : FRow w g n e := ⟨h.lt, fun t ht => by rw [he t ht]; exact h.cell t ht, h.free⟩
theorem FRow.set (h : FRow w g n d) {k : Nat} (hk : k < n) (v : Int) : FRow (w.setCell ⟨g, k, none⟩ (.int .i64 v)) g n (fun t => if t = k then v else d t) := by
 refine ⟨by have := h.lt; simpa using this, fun t ht => ?_, fun t ht => by have := h.free t ht; simpa using this⟩
 by_cases e : k = t
 ·
  subst e; rw [cell_set_eq _ _ (h.cell k hk), if_pos rfl]
 ·
  rw [cell_set_ne _ _ e, if_neg (fun e' => e e'.symm)]; exact h.cell t ht
theorem FRow.swap (h : FRow w g n d) {i j : Nat} (hi : i < n) (hj : j < n) : FRow ((w.setCell ⟨g, i, none⟩ (.int .i64 (d j))).setCell ⟨g, j, none⟩ (.int .i64 (d i))) g n (fun t => if t = j then d i else if t = i then d j else d t) ∧
  w.grownBy ((w.setCell ⟨g, i, none⟩ (.int .i64 (d j))).setCell ⟨g, j, none⟩ (.int .i64 (d i))) (some g) :=
 ⟨(h.set hi (d j)).set hj (d i), (grown_setCell _ _ _ _).trans (grown_setCell _ _ _ _)⟩
end
def RowRes (g n : Nat) (e : Nat → Int) (w : World) (en : Ending) (w' : World) : Prop := en = .returned (.tuple #[]) ∧ FRow w' g n e ∧ w.grownBy w' (some g)
set_option maxRecDepth 100000 in
set_option maxHeartbeats 1600000 in
theorem swapRange_any (cv : Value) (g n c a b k : Nat) (hab : a + k ≤ b) (hbn : b + k ≤ n) (hn : n ≤ 1000) (d : Nat → Int) (w : World) (hr : FRow w g n d) :
  Calls Tryz.prog 131 #[.slice (some ⟨g, 0, none⟩) n c, .int .i64 a, .int .i64 b, .int .i64 k, cv] w (RowRes g n (So.swapR d a b k) w) := by
 have HR := Lib.hid hr
 clear hr
 go_enter Tryz.func131, Tryz.ntmps131
 go_wp2
 go_loopw [10] (fun u10 wr => ∃ i : Nat, i ≤ k ∧ u10 = .int .i64 i ∧ Hid (FRow wr g n (So.swapR d a b i)) ∧ w.grownBy wr (some g)) (fun u10 _ => k - (intOf u10).toNat)
 case atStart => exact ⟨0, Nat.zero_le _, rfl, by rw [So.swapR_zero]; exact HR.out, World.grownBy.refl _ _⟩
 case round =>
  obtain ⟨i, hi, rfl, HF, hg⟩ := hrel
  by_cases hlt : i < k
  ·
   obtain ⟨x, hx⟩ : ∃ x, a + i = x := ⟨_, rfl⟩
   obtain ⟨y, hy⟩ : ∃ y, b + i = y := ⟨_, rfl⟩
   have qx : (a : Int) + (i : Int) = (x : Int) := by omega
   have qy : (b : Int) + (i : Int) = (y : Int) := by omega
   have hxn : x < n := by omega
   have hyn : y < n := by omega
   have w1 : IntKind.i64.wrap (x : Int) = (x : Int) := IntWalk.i64_in _ (by omega)
   have w2 : IntKind.i64.wrap (y : Int) = (y : Int) := IntWalk.i64_in _ (by omega)
   have c1 := HF.out.cell x hxn
   have c2 := HF.out.cell y hyn
   have f1 := HF.out.free x hxn
   have f2 := HF.out.free y hyn
   have i1 : (0 : Int) ≤ (x : Int) := by omega
   have i2 : (0 : Int) ≤ (y : Int) := by omega
   have i3 : (x : Int) < (n : Int) := by omega
   have i4 : (y : Int) < (n : Int) := by omega
   have ik : (i : Int) < (k : Int) := by omega
   have hne : x ≠ y := by omega
   have HX := Lib.hid (And.intro hx hy)
   have HG := Lib.hid hg
   have HS := Lib.hid (HF.out.swap hxn hyn)
   have HSS := Lib.hid (So.swapR_succ d (a := a) (b := b) (i := i) (by omega))
   clear hg hx hy
   go_wp2_with fail
   go_region
   all_goals go_wp2
   go_roundw
   case rel =>
    refine ⟨i + 1, by omega, by go_num, ?_, ?_⟩
    ·
     refine FRow.congr (d := fun t => if t = y then So.swapR d a b i x else if t = x then So.swapR d a b i y else So.swapR d a b i t) (by first | exact HS.out.1 | exact HS.out.1.drewN _) fun t _ => ?_
     rw [HSS.out t, HX.out.1, HX.out.2]
     by_cases e1 : t = x
     ·
      rw [if_pos e1, if_neg (by omega), if_pos e1]
     ·
      rw [if_neg e1, if_neg e1]
    ·
     exact HG.out.trans (by first | exact HS.out.2 | exact grown_drewN HS.out.2 _)
   case measure => simp [intOf]; omega
  ·
   go_wp2
   go_end0
   obtain rfl : i = k := by omega
   exact ⟨rfl, HF.out, hg⟩
end W
end
section
namespace W
open Go.RowKit
set_option maxRecDepth 100000 in
set_option maxHeartbeats 1600000 in
theorem rotate_any (cv : Value) (g n c a m b : Nat) (ham : a < m) (hmb : m < b) (hbn : b ≤ n) (hn : n ≤ 1000) (d : Nat → Int) (w : World) (hr : FRow w g n d) :
  Calls Tryz.prog 129 #[.slice (some ⟨g, 0, none⟩) n c, .int .i64 a, .int .i64 m, .int .i64 b, cv] w (RowRes g n (So.rot d a m b) w) := by
 have HR := Lib.hid hr
 have HJ := Lib.hid (So.rotJ_start d (a := a) (m := m) (b := b) (by omega) (by omega))
 obtain ⟨R, hR⟩ : ∃ R, So.rot d a m b = R := ⟨_, rfl⟩
 rw [hR] at HJ ⊢
 obtain ⟨i0, hi0⟩ : ∃ x, m - a = x := ⟨_, rfl⟩
 obtain ⟨j0, hj0⟩ : ∃ x, b - m = x := ⟨_, rfl⟩
 rw [hi0, hj0] at HJ
 have q1 : (m : Int) - (a : Int) = (i0 : Int) := by omega
 have q2 : (b : Int) - (m : Int) = (j0 : Int) := by omega
 have w1 : IntKind.i64.wrap (i0 : Int) = (i0 : Int) := IntWalk.i64_in _ (by omega)
 have w2 : IntKind.i64.wrap (j0 : Int) = (j0 : Int) := IntWalk.i64_in _ (by omega)
 have b1 : 0 < i0 ∧ 0 < j0 ∧ i0 ≤ m ∧ m + j0 ≤ n := by omega
 have hm : m ≤ n := by omega
 have B1 := Lib.hid b1
 clear hr hR hi0 hj0 b1
 go_enter Tryz.func129, Tryz.ntmps129
 go_wp2
 go_loopw [10, 11] (fun u10 u11 wr => ∃ (i j : Nat) (cur : Nat → Int), u10 = .int .i64 i ∧ u11 = .int .i64 j ∧ Hid (0 < i ∧ 0 < j ∧ i ≤ m ∧ m + j ≤ n) ∧ Hid (FRow wr g n cur) ∧ Hid (So.RotJ R cur m i j) ∧ w.grownBy wr (some g)) (fun u10 u11 _ => (intOf u10).toNat + (intOf u11).toNat)
 case atStart => exact ⟨i0, j0, d, rfl, rfl, B1.out, HR.out, HJ.out, World.grownBy.refl _ _⟩
 case round =>
  clear q1 q2 w1 w2
  obtain ⟨i, j, cur, rfl, rfl, HB, HF, HRJ, hg⟩ := hrel
  obtain ⟨hi, hj, him, hjn⟩ := HB.out
  have HG := Lib.hid hg
  obtain ⟨x, hx⟩ : ∃ x, m - i = x := ⟨_, rfl⟩
  have qx : (m : Int) - (i : Int) = (x : Int) := by omega
  have wx : IntKind.i64.wrap (x : Int) = (x : Int) := IntWalk.i64_in _ (by omega)
  rcases Nat.lt_trichotomy i j with hc | hc | hc
  ·
   obtain ⟨z, hz⟩ : ∃ z, m + j = z := ⟨_, rfl⟩
   obtain ⟨y, hy⟩ : ∃ y, m + j - i = y := ⟨_, rfl⟩
   obtain ⟨j', hj'⟩ : ∃ y, j - i = y := ⟨_, rfl⟩
   have qz : (m : Int) + (j : Int) = (z : Int) := by omega
   have wz : IntKind.i64.wrap (z : Int) = (z : Int) := IntWalk.i64_in _ (by omega)
   have qy : (z : Int) - (i : Int) = (y : Int) := by omega
   have wy : IntKind.i64.wrap (y : Int) = (y : Int) := IntWalk.i64_in _ (by omega)
   have qj : (j : Int) - (i : Int) = (j' : Int) := by omega
   have wj : IntKind.i64.wrap (j' : Int) = (j' : Int) := IntWalk.i64_in _ (by omega)
   have e1 : ((i : Int) == (j : Int)) = false := by rw [beq_eq_false_iff_ne]; omega
   have e2 : ((i : Int) != (j : Int)) = true := by rw [bne_iff_ne]; omega
   have e3 : ¬ ((j : Int) < (i : Int)) := by omega
   have HS := Lib.hid (swapRange_any cv g n c x y i (by omega) (by omega) hn cur wr HF.out)
   have HN := Lib.hid (So.rotJ_lt HRJ.out him hc)
   rw [hx, hy, hj'] at HN
   have HB2 : Hid (0 < i ∧ 0 < j' ∧ i ≤ m ∧ m + j' ≤ n) := Lib.hid (by omega)
   have HMS : Hid (i + j' < i + j) := Lib.hid (by omega)
   clear hg hi hj him hjn hx hy hz hj' hc
   go_wp2_with (go_at_call 131; refine HS.out.mono ?_; rintro e w5 ⟨rfl, F5, G5⟩)
   go_roundw
   case rel => exact ⟨i, j', _, rfl, by go_num, HB2.out, F5, HN.out, HG.out.trans G5⟩
   case measure => have := HMS.out; simp [intOf]; omega
  ·
   subst hc
   have HS := Lib.hid (swapRange_any cv g n c x m i (by omega) (by omega) hn cur wr HF.out)
   have HN := Lib.hid (So.rotJ_eq HRJ.out him)
   rw [hx] at HN
   clear hg hi hj him hjn hx
   go_wp2_with (go_at_call 131; refine HS.out.mono ?_; rintro e w5 ⟨rfl, F5, G5⟩)
   go_end0
   rw [HN.out] at F5
   exact ⟨rfl, F5, HG.out.trans G5⟩
  ·
   obtain ⟨i', hi'⟩ : ∃ y, i - j = y := ⟨_, rfl⟩
   have qi : (i : Int) - (j : Int) = (i' : Int) := by omega
   have wi : IntKind.i64.wrap (i' : Int) = (i' : Int) := IntWalk.i64_in _ (by omega)
   have e1 : ((i : Int) == (j : Int)) = false := by rw [beq_eq_false_iff_ne]; omega
   have e2 : ((i : Int) != (j : Int)) = true := by rw [bne_iff_ne]; omega
   have e3 : (j : Int) < (i : Int) := by omega
   have HS := Lib.hid (swapRange_any cv g n c x m j (by omega) (by omega) hn cur wr HF.out)
   have HN := Lib.hid (So.rotJ_gt HRJ.out him hc)
   rw [hx, hi'] at HN
   have HB2 : Hid (0 < i' ∧ 0 < j ∧ i' ≤ m ∧ m + j ≤ n) := Lib.hid (by omega)
   have HMS : Hid (i' + j < i + j) := Lib.hid (by omega)
   clear hg hi hj him hjn hx hi' hc
   go_wp2_with (go_at_call 131; refine HS.out.mono ?_; rintro e w5 ⟨rfl, F5, G5⟩)
   go_roundw
   case rel => exact ⟨i', j, _, by go_num, rfl, HB2.out, F5, HN.out, HG.out.trans G5⟩
   case measure => have := HMS.out; simp [intOf]; omega
end W
end
section
namespace W
open Go.RowKit
abbrev firstF (bt bw bs : Nat) : Value := .func (.func 84) #[] #[.pointer (some ⟨bt, 0, none⟩), .pointer (some ⟨bw, 0, none⟩), .pointer (some ⟨bs, 0, none⟩)]
def CmpOk (w0 : World) (g n bt bw bs : Nat) (ls : Int → Int → Bool) : Prop := ∀ W, w0.grownBy W (some g) → ∀ x y : Int, 0 ≤ x → x < n → 0 ≤ y → y < n →
 Calls Tryz.prog 84 #[.int .i64 x, .int .i64 y, .pointer (some ⟨bt, 0, none⟩), .pointer (some ⟨bw, 0, none⟩), .pointer (some ⟨bs, 0, none⟩)] W fun e w' => ∃ c : Int, e = .returned (.int .i64 c) ∧ decide (c < 0) = ls x y ∧ Below W.heap.size W w'
def Rng (n : Nat) (d : Nat → Int) : Prop := ∀ t, t < n → 0 ≤ d t ∧ d t < n
theorem Rng.mv {n a b : Nat} {d e : Nat → Int} (h : Rng n d) (hm : So.Mv a b d e) (hb : b ≤ n) : Rng n e := fun t ht => by
 by_cases hc : a ≤ t ∧ t < b
 ·
  obtain ⟨s, s1, s2, s3⟩ := hm.mem hc.1 hc.2
  rw [s3]; exact h s (by omega)
 ·
  rw [hm.out hc]; exact h t ht
def SortRes (R : Int → Int → Prop) (g n a b : Nat) (cur : Nat → Int) (w : World) (en : Ending) (w' : World) : Prop := en = .returned (.tuple #[]) ∧ ∃ f, FRow w' g n f ∧ So.Mv a b cur f ∧ So.Srt R f a b ∧ w.grownBy w' (some g)
theorem insertion_none (cv : Value) (R : Int → Int → Prop) (g n c a b : Nat) (hab : b ≤ a) (hn : n ≤ 1000) (ha : a ≤ 2000) (cur : Nat → Int) (w : World) (hr : FRow w g n cur) :
  Calls Tryz.prog 125 #[.slice (some ⟨g, 0, none⟩) n c, .int .i64 a, .int .i64 b, cv] w (SortRes R g n a b cur w) := by
 obtain ⟨i0, hi0⟩ : ∃ i, a + 1 = i := ⟨_, rfl⟩
 have q0 : (a : Int) + 1 = (i0 : Int) := by omega
 have w0' : IntKind.i64.wrap (i0 : Int) = (i0 : Int) := IntWalk.i64_in _ (by omega)
 have e0 : ¬ ((i0 : Int) < (b : Int)) := by omega
 have HR := Lib.hid hr
 clear hr hi0
 go_enter Tryz.func125, Tryz.ntmps125
 go_wp2
 refine wp_loop_rounds 1 ?_
 rw [rounds_succ]
 go_wp2
 go_end0
 exact ⟨rfl, cur, HR.out, So.Mv.refl _ _ _, So.Srt.one R cur (by omega), World.grownBy.refl _ _⟩
set_option maxRecDepth 100000 in
set_option maxHeartbeats 4000000 in
theorem insertion_any (w0 : World) (g n c bt bw bs : Nat) (R : Int → Int → Prop) (ls : Int → Int → Bool) (O : So.Ord R) (HC0 : CmpOk w0 g n bt bw bs ls) (a b : Nat) (hab : a < b) (hbn : b ≤ n) (hn : n ≤ 1000) (cur : Nat → Int) (hrg : Rng n cur) (hinc : ∀ x y, a ≤ x → x < y → y < b → So.Cr R ls (cur x) (cur y)) (w : World) (hg0 : w0.grownBy w (some g)) (hr : FRow w g n cur) :
  Calls Tryz.prog 125 #[.slice (some ⟨g, 0, none⟩) n c, .int .i64 a, .int .i64 b, firstF bt bw bs] w (SortRes R g n a b cur w) := by
 obtain ⟨i0, hi0⟩ : ∃ i, a + 1 = i := ⟨_, rfl⟩
 have q0 : (a : Int) + 1 = (i0 : Int) := by omega
 have w0' : IntKind.i64.wrap (i0 : Int) = (i0 : Int) := IntWalk.i64_in _ (by omega)
 have hib : i0 ≤ b ∧ a < i0 := by omega
 have HIB := Lib.hid hib
 have HR := Lib.hid hr
 have HCC := Lib.hid HC0
 have HO := Lib.hid O
 have HRG := Lib.hid hrg
 have HINC := Lib.hid hinc
 have HG0 := Lib.hid hg0
 have HI0 := Lib.hid hi0
 clear hr HC0 O hrg hinc hg0 hi0 hib
 go_enter Tryz.func125, Tryz.ntmps125
 go_wp2
 go_loopw [8] (fun u8 wr => ∃ (i : Nat) (row : Nat → Int), a < i ∧ i ≤ b ∧ u8 = .int .i64 i ∧ Hid (FRow wr g n row) ∧ Hid (So.Srt R row a i) ∧ Hid (So.Mv a i cur row) ∧ w.grownBy wr (some g)) (fun u8 _ => b - (intOf u8).toNat)
 case atStart => exact ⟨i0, cur, HIB.out.2, HIB.out.1, rfl, HR.out, So.Srt.one R cur (by have := HI0.out; omega), So.Mv.refl _ _ _, World.grownBy.refl _ _⟩
 case round =>
  clear q0 w0'
  obtain ⟨i, row, hai, hib, rfl, HF, HS, HM, hg⟩ := hrel
  have HG := Lib.hid hg
  by_cases hlt : i < b
  ·
   have i1 : (i : Int) < (b : Int) := by omega
   obtain ⟨ii, hii⟩ : ∃ x, i + 1 = x := ⟨_, rfl⟩
   have qi : (i : Int) + 1 = (ii : Int) := by omega
   have wi : IntKind.i64.wrap (ii : Int) = (ii : Int) := IntWalk.i64_in _ (by omega)
   have HII := Lib.hid hii
   have HTW : Hid (So.Two R ls row a i (i + 1)) := Lib.hid (by
    refine ⟨HS.out, So.Srt.one R row (by omega), fun x y h1 h2 h3 h4 => ?_⟩
    obtain rfl : y = i := by omega
    obtain ⟨s, s1, s2, s3⟩ := HM.out.mem h1 h2
    rw [s3, HM.out.out (t := y) (by omega)]
    exact HINC.out s y s1 s2 hlt)
   have HRR := Lib.hid (HRG.out.mv HM.out (by omega))
   clear hg hii
   go_wp2_with fail
   go_loopw [9] (fun u9 wy => ∃ (wx : World) (j : Nat), wx = wy ∧ a ≤ j ∧ j ≤ i ∧ u9 = .int .i64 j ∧ Hid (FRow wx g n (So.rot row j i (i + 1))) ∧ Hid (j < i → ls (row i) (row j) = true) ∧ w.grownBy wx (some g)) (fun u9 _ => (intOf u9).toNat)
   case atStart => exact ⟨_, i, rfl, by omega, Nat.le_refl _, rfl, by rw [So.rot_id']; exact HF.out, fun h => absurd h (Nat.lt_irrefl _), HG.out⟩
   case round =>
    obtain ⟨wx, j, rfl, haj, hji, rfl, HFJ, HLJ, hgj⟩ := hrel
    have HGJ := Lib.hid hgj
    have hbw : w.heap.size ≤ wx.heap.size := hgj.size
    by_cases hja : a < j
    ·
     obtain ⟨j', hj'⟩ : ∃ x, j - 1 = x := ⟨_, rfl⟩
     have qj : (j : Int) - 1 = (j' : Int) := by omega
     have wj : IntKind.i64.wrap (j' : Int) = (j' : Int) := IntWalk.i64_in _ (by omega)
     have j1 : (a : Int) < (j : Int) := by omega
     have j2 : (0 : Int) ≤ (j : Int) := by omega
     have j3 : (j : Int) < (n : Int) := by omega
     have j4 : (0 : Int) ≤ (j' : Int) := by omega
     have j5 : (j' : Int) < (n : Int) := by omega
     have hjn : j < n := by omega
     have hjn' : j' < n := by omega
     have hv1 : So.rot row j i (i + 1) j = row i := So.rot_at row hji
     have hv2 : So.rot row j i (i + 1) j' = row j' := So.rot_below row (by omega) _
     have C1 := Lib.hid (show wx.cell? ⟨g, j, none⟩ = some (.int .i64 (row i)) by rw [← hv1]; exact HFJ.out.cell j hjn)
     have C2 := Lib.hid (show wx.cell? ⟨g, j', none⟩ = some (.int .i64 (row j')) by rw [← hv2]; exact HFJ.out.cell j' hjn')
     have hr1 := HRR.out i (by omega)
     have hr2 := HRR.out j' hjn'
     have HCM := Lib.hid (fun (W : World) (hW : Below wx.heap.size wx W) => HCC.out W ((HG0.out.trans HGJ.out).trans (grownBy_of_below hW).any) (row i) (row j') hr1.1 hr1.2 hr2.1 hr2.2)
     have HGL := Lib.hid HFJ.out.lt
     obtain ⟨x, hx⟩ : ∃ x, row i = x := ⟨_, rfl⟩
     obtain ⟨y, hy⟩ : ∃ y, row j' = y := ⟨_, rfl⟩
     obtain ⟨q, hq⟩ : ∃ q, ls x y = q := ⟨_, rfl⟩
     rw [hx] at C1 HCM
     rw [hy] at C2 HCM
     rw [hq] at HCM
     have HXY := Lib.hid (And.intro hx (And.intro hy hq))
     have HJJ := Lib.hid hj'
     clear hgj hj' hv1 hv2 hr1 hr2 hx hy hq
     cases q with
     | false =>
      go_wp2_with fail
      have hv0 : Below wx.heap.size wx wx.drew := (Below.refl _ _).drew
      refine wp_region_held_drew (S := fun W => Below wx.heap.size wx W) (by kernel_rfl) (hv0) (fun hHeld => ?_)
      refine wpAnyH_take (i := 0) (oi := { dst := some 18, op := Op.move (Operand.tmp 9), type := 3, pos := "zsortanyfunc.go:12", after := #[], guard := none }) (v := ?v0_1001) rfl (by kernel_rfl) (by kernel_rfl) (by kernel_rfl) (fun _ _ _ h => h) (Or.inl ⟨by rfl, ?h0_1001⟩) (by assumption) ?r0_1001
      case h0_1001 =>
       intro W hSW
       try dsimp only at hSW
       go_simp
       try with_reducible rfl
      try simp only [PT]
      refine wpAnyH_take (i := 1) (oi := { dst := some 19, op := Op.move (Operand.tmp 1), type := 3, pos := "zsortanyfunc.go:12", after := #[], guard := none }) (v := ?v1_1002) rfl (by kernel_rfl) (by kernel_rfl) (by kernel_rfl) (fun _ _ _ h => h) (Or.inl ⟨by rfl, ?h1_1002⟩) (by assumption) ?r1_1002
      case h1_1002 =>
       intro W hSW
       try dsimp only at hSW
       go_simp
       try with_reducible rfl
      try simp only [PT]
      refine wpAnyH_take (i := 2) (oi := { dst := some 20, op := Op.binOp BinOp.gtr 3 (Operand.tmp 18) (Operand.tmp 19) 3, type := 4, pos := "zsortanyfunc.go:12", after := #[{ on := 0, ground := Ground.data }, { on := 1, ground := Ground.data }], guard := none }) (v := ?v2_1003) rfl (by kernel_rfl) (by kernel_rfl) (by kernel_rfl) (fun _ _ _ h => h) (Or.inl ⟨by rfl, ?h2_1003⟩) (by assumption) ?r2_1003
      case h2_1003 =>
       intro W hSW
       try dsimp only at hSW
       go_simp
       try with_reducible rfl
      try simp only [PT]
      refine wpAnyH_take (i := 3) (oi := { dst := some 21, op := Op.move (Operand.tmp 20), type := 4, pos := "zsortanyfunc.go:12", after := #[{ on := 2, ground := Ground.data }], guard := none }) (v := ?v3_1004) rfl (by kernel_rfl) (by kernel_rfl) (by kernel_rfl) (fun _ _ _ h => h) (Or.inl ⟨by rfl, ?h3_1004⟩) (by assumption) ?r3_1004
      case h3_1004 =>
       intro W hSW
       try dsimp only at hSW
       go_simp
       try with_reducible rfl
      try simp only [PT]
      refine wpAnyH_take (i := 4) (oi := { dst := some 22, op := Op.move (Operand.tmp 3), type := 140, pos := "zsortanyfunc.go:12", after := #[{ on := 3, ground := Ground.guard }], guard := some (3, true) }) (v := ?v4_1005) rfl (by kernel_rfl) (by kernel_rfl) (by kernel_rfl) (fun _ _ _ h => h) (Or.inl ⟨by rfl, ?h4_1005⟩) (by assumption) ?r4_1005
      case h4_1005 =>
       intro W hSW
       try dsimp only at hSW
       go_simp
       try with_reducible rfl
      try simp only [PT]
      refine wpAnyH_take (i := 5) (oi := { dst := some 23, op := Op.move (Operand.tmp 0), type := 27, pos := "zsortanyfunc.go:12", after := #[{ on := 3, ground := Ground.guard }], guard := some (3, true) }) (v := ?v5_1006) rfl (by kernel_rfl) (by kernel_rfl) (by kernel_rfl) (fun _ _ _ h => h) (Or.inl ⟨by rfl, ?h5_1006⟩) (by assumption) ?r5_1006
      case h5_1006 =>
       intro W hSW
       try dsimp only at hSW
       go_simp
       try with_reducible rfl
      try simp only [PT]
      refine wpAnyH_take (i := 6) (oi := { dst := some 24, op := Op.move (Operand.tmp 9), type := 3, pos := "zsortanyfunc.go:12", after := #[{ on := 3, ground := Ground.guard }], guard := some (3, true) }) (v := ?v6_1007) rfl (by kernel_rfl) (by kernel_rfl) (by kernel_rfl) (fun _ _ _ h => h) (Or.inl ⟨by rfl, ?h6_1007⟩) (by assumption) ?r6_1007
      case h6_1007 =>
       intro W hSW
       try dsimp only at hSW
       go_simp
       try with_reducible rfl
      try simp only [PT]
      refine wpAnyH_take (i := 7) (oi := { dst := some 25, op := Op.indexAddr 27 (Operand.tmp 23) (Operand.tmp 24), type := 0, pos := "zsortanyfunc.go:12", after := #[{ on := 5, ground := Ground.data }, { on := 6, ground := Ground.data }, { on := 3, ground := Ground.guard }], guard := some (3, true) }) (v := ?v7_1008) rfl (by kernel_rfl) (by kernel_rfl) (by kernel_rfl) (fun _ _ _ h => h) (Or.inl ⟨by rfl, ?h7_1008⟩) (by assumption) ?r7_1008
      case h7_1008 =>
       intro W hSW
       try dsimp only at hSW
       go_simp
       try with_reducible rfl
      try simp only [PT]
      refine wpAnyH_take (i := 8) (oi := { dst := some 26, op := Op.load 3 (Operand.tmp 25), type := 3, pos := "zsortanyfunc.go:12", after := #[{ on := 7, ground := Ground.data }, { on := 3, ground := Ground.guard }], guard := some (3, true) }) (v := ?v8_1009) rfl (by kernel_rfl) (by kernel_rfl) (by kernel_rfl) (fun _ _ _ h => h) (Or.inl ⟨by rfl, ?h8_1009⟩) (by assumption) ?r8_1009
      case h8_1009 =>
       intro W hSW
       try dsimp only at hSW
       have hc0 := (hSW.cell (p := ⟨g, j, none⟩) HGL.out).trans C1.out
       go_simp
       try with_reducible rfl
      try simp only [PT]
      refine wpAnyH_take (i := 9) (oi := { dst := some 27, op := Op.move (Operand.tmp 0), type := 27, pos := "zsortanyfunc.go:12", after := #[{ on := 3, ground := Ground.guard }], guard := some (3, true) }) (v := ?v9_1010) rfl (by kernel_rfl) (by kernel_rfl) (by kernel_rfl) (fun _ _ _ h => h) (Or.inl ⟨by rfl, ?h9_1010⟩) (by assumption) ?r9_1010
      case h9_1010 =>
       intro W hSW
       try dsimp only at hSW
       go_simp
       try with_reducible rfl
      try simp only [PT]
      refine wpAnyH_take (i := 10) (oi := { dst := some 28, op := Op.move (Operand.tmp 9), type := 3, pos := "zsortanyfunc.go:12", after := #[{ on := 3, ground := Ground.guard }], guard := some (3, true) }) (v := ?v10_1011) rfl (by kernel_rfl) (by kernel_rfl) (by kernel_rfl) (fun _ _ _ h => h) (Or.inl ⟨by rfl, ?h10_1011⟩) (by assumption) ?r10_1011
      case h10_1011 =>
       intro W hSW
       try dsimp only at hSW
       go_simp
       try with_reducible rfl
      try simp only [PT]
      refine wpAnyH_take (i := 11) (oi := { dst := some 29, op := Op.binOp BinOp.sub 3 (Operand.tmp 28) (Operand.const (Value.int IntKind.i64 1)) 3, type := 3, pos := "zsortanyfunc.go:12", after := #[{ on := 10, ground := Ground.data }, { on := 3, ground := Ground.guard }], guard := some (3, true) }) (v := ?v11_1012) rfl (by kernel_rfl) (by kernel_rfl) (by kernel_rfl) (fun _ _ _ h => h) (Or.inl ⟨by rfl, ?h11_1012⟩) (by assumption) ?r11_1012
      case h11_1012 =>
       intro W hSW
       try dsimp only at hSW
       go_simp
       try with_reducible rfl
      try simp only [PT]
      refine wpAnyH_take (i := 12) (oi := { dst := some 30, op := Op.indexAddr 27 (Operand.tmp 27) (Operand.tmp 29), type := 0, pos := "zsortanyfunc.go:12", after := #[{ on := 9, ground := Ground.data }, { on := 11, ground := Ground.data }, { on := 3, ground := Ground.guard }], guard := some (3, true) }) (v := ?v12_1013) rfl (by kernel_rfl) (by kernel_rfl) (by kernel_rfl) (fun _ _ _ h => h) (Or.inl ⟨by rfl, ?h12_1013⟩) (by assumption) ?r12_1013
      case h12_1013 =>
       intro W hSW
       try dsimp only at hSW
       go_simp
       try with_reducible rfl
      try simp only [PT]
      refine wpAnyH_take (i := 13) (oi := { dst := some 31, op := Op.load 3 (Operand.tmp 30), type := 3, pos := "zsortanyfunc.go:12", after := #[{ on := 12, ground := Ground.data }, { on := 3, ground := Ground.guard }], guard := some (3, true) }) (v := ?v13_1014) rfl (by kernel_rfl) (by kernel_rfl) (by kernel_rfl) (fun _ _ _ h => h) (Or.inl ⟨by rfl, ?h13_1014⟩) (by assumption) ?r13_1014
      case h13_1014 =>
       intro W hSW
       try dsimp only at hSW
       have hc0 := (hSW.cell (p := ⟨g, j', none⟩) HGL.out).trans C2.out
       go_simp
       try with_reducible rfl
      try simp only [PT]
      refine wpAnyH_ready (rs := [14]) (by kernel_rfl) (by simp) ?_
      refine AllReadyH.cons (o := { dst := some 32, op := Op.call { callee := Callee.value (Operand.tmp 22), args := #[Operand.tmp 26, Operand.tmp 31], argTypes := #[3, 3] }, type := 3, pos := "zsortanyfunc.go:12", after := #[{ on := 4, ground := Ground.data }, { on := 8, ground := Ground.data }, { on := 13, ground := Ground.data }, { on := 3, ground := Ground.chain }, { on := 3, ground := Ground.guard }], guard := some (3, true) }) rfl (fun K hK => ?_) AllReadyH.nil
      go_simp
      refine (HCM.out _ hv0).mono ?_
      rintro e w1 ⟨cc, rfl, hcc2, b1⟩
      have hv1 : Below wx.heap.size wx w1 := hv0.trans (b1.mono hv0.size)
      go_wp2_with fail
      refine hK.out _ _ (hv1) (fun hHeld => ?_)
      clear hK K
      try simp only [PT]
      refine wpAnyH_take (i := 15) (oi := { dst := some 33, op := Op.binOp BinOp.lss 3 (Operand.tmp 32) (Operand.const (Value.int IntKind.i64 0)) 3, type := 4, pos := "zsortanyfunc.go:12", after := #[{ on := 14, ground := Ground.data }, { on := 3, ground := Ground.guard }], guard := some (3, true) }) (v := ?v15_1015) rfl (by kernel_rfl) (by kernel_rfl) (by kernel_rfl) (fun _ _ _ h => h) (Or.inl ⟨by rfl, ?h15_1015⟩) (by assumption) ?r15_1015
      case h15_1015 =>
       intro W hSW
       try dsimp only at hSW
       go_simp
       try with_reducible rfl
      try simp only [PT]
      refine wpAnyH_take (i := 16) (oi := { dst := some 34, op := Op.pick (Operand.tmp 21) (Operand.tmp 33) (Operand.const (Value.bool false)), type := 4, pos := "zsortanyfunc.go:12", after := #[{ on := 3, ground := Ground.data }, { on := 15, ground := Ground.data }], guard := none }) (v := ?v16_1016) rfl (by kernel_rfl) (by kernel_rfl) (by kernel_rfl) (fun _ _ _ h => h) (Or.inl ⟨by rfl, ?h16_1016⟩) (by assumption) ?r16_1016
      case h16_1016 =>
       intro W hSW
       try dsimp only at hSW
       go_simp
       try with_reducible rfl
      try simp only [PT]
      refine wpAnyH_done (by kernel_rfl) ?_ _
      have F5 := HFJ.out.below hv1
      have G5 := HGJ.out.trans (grownBy_of_below hv1).any
      have HN := Lib.hid (So.merge_r HO.out HTW.out rfl haj hji (fun _ => by rw [HJJ.out, HXY.out.1, HXY.out.2.1]; exact HXY.out.2.2) HLJ.out)
      clear hHeld
      go_wp2_with fail
      go_roundw
      case rel => exact ⟨ii, _, by have := HII.out; omega, by have := HII.out; omega, by go_num, F5, by rw [← HII.out]; exact HN.out.1, by rw [← HII.out]; exact (HM.out.mono (Nat.le_refl _) (by omega)).trans HN.out.2, G5⟩
      case measure => have := HII.out; simp [intOf]; omega
     | true =>
      go_wp2_with fail
      have hv0 : Below wx.heap.size wx wx.drew := (Below.refl _ _).drew
      refine wp_region_held_drew (S := fun W => Below wx.heap.size wx W) (by kernel_rfl) (hv0) (fun hHeld => ?_)
      refine wpAnyH_take (i := 0) (oi := { dst := some 18, op := Op.move (Operand.tmp 9), type := 3, pos := "zsortanyfunc.go:12", after := #[], guard := none }) (v := ?v0_2001) rfl (by kernel_rfl) (by kernel_rfl) (by kernel_rfl) (fun _ _ _ h => h) (Or.inl ⟨by rfl, ?h0_2001⟩) (by assumption) ?r0_2001
      case h0_2001 =>
       intro W hSW
       try dsimp only at hSW
       go_simp
       try with_reducible rfl
      try simp only [PT]
      refine wpAnyH_take (i := 1) (oi := { dst := some 19, op := Op.move (Operand.tmp 1), type := 3, pos := "zsortanyfunc.go:12", after := #[], guard := none }) (v := ?v1_2002) rfl (by kernel_rfl) (by kernel_rfl) (by kernel_rfl) (fun _ _ _ h => h) (Or.inl ⟨by rfl, ?h1_2002⟩) (by assumption) ?r1_2002
      case h1_2002 =>
       intro W hSW
       try dsimp only at hSW
       go_simp
       try with_reducible rfl
      try simp only [PT]
      refine wpAnyH_take (i := 2) (oi := { dst := some 20, op := Op.binOp BinOp.gtr 3 (Operand.tmp 18) (Operand.tmp 19) 3, type := 4, pos := "zsortanyfunc.go:12", after := #[{ on := 0, ground := Ground.data }, { on := 1, ground := Ground.data }], guard := none }) (v := ?v2_2003) rfl (by kernel_rfl) (by kernel_rfl) (by kernel_rfl) (fun _ _ _ h => h) (Or.inl ⟨by rfl, ?h2_2003⟩) (by assumption) ?r2_2003
      case h2_2003 =>
       intro W hSW
       try dsimp only at hSW
       go_simp
       try with_reducible rfl
      try simp only [PT]
      refine wpAnyH_take (i := 3) (oi := { dst := some 21, op := Op.move (Operand.tmp 20), type := 4, pos := "zsortanyfunc.go:12", after := #[{ on := 2, ground := Ground.data }], guard := none }) (v := ?v3_2004) rfl (by kernel_rfl) (by kernel_rfl) (by kernel_rfl) (fun _ _ _ h => h) (Or.inl ⟨by rfl, ?h3_2004⟩) (by assumption) ?r3_2004
      case h3_2004 =>
       intro W hSW
       try dsimp only at hSW
       go_simp
       try with_reducible rfl
      try simp only [PT]
      refine wpAnyH_take (i := 4) (oi := { dst := some 22, op := Op.move (Operand.tmp 3), type := 140, pos := "zsortanyfunc.go:12", after := #[{ on := 3, ground := Ground.guard }], guard := some (3, true) }) (v := ?v4_2005) rfl (by kernel_rfl) (by kernel_rfl) (by kernel_rfl) (fun _ _ _ h => h) (Or.inl ⟨by rfl, ?h4_2005⟩) (by assumption) ?r4_2005
      case h4_2005 =>
       intro W hSW
       try dsimp only at hSW
       go_simp
       try with_reducible rfl
      try simp only [PT]
      refine wpAnyH_take (i := 5) (oi := { dst := some 23, op := Op.move (Operand.tmp 0), type := 27, pos := "zsortanyfunc.go:12", after := #[{ on := 3, ground := Ground.guard }], guard := some (3, true) }) (v := ?v5_2006) rfl (by kernel_rfl) (by kernel_rfl) (by kernel_rfl) (fun _ _ _ h => h) (Or.inl ⟨by rfl, ?h5_2006⟩) (by assumption) ?r5_2006
      case h5_2006 =>
       intro W hSW
       try dsimp only at hSW
       go_simp
       try with_reducible rfl
      try simp only [PT]
      refine wpAnyH_take (i := 6) (oi := { dst := some 24, op := Op.move (Operand.tmp 9), type := 3, pos := "zsortanyfunc.go:12", after := #[{ on := 3, ground := Ground.guard }], guard := some (3, true) }) (v := ?v6_2007) rfl (by kernel_rfl) (by kernel_rfl) (by kernel_rfl) (fun _ _ _ h => h) (Or.inl ⟨by rfl, ?h6_2007⟩) (by assumption) ?r6_2007
      case h6_2007 =>
       intro W hSW
       try dsimp only at hSW
       go_simp
       try with_reducible rfl
      try simp only [PT]
      refine wpAnyH_take (i := 7) (oi := { dst := some 25, op := Op.indexAddr 27 (Operand.tmp 23) (Operand.tmp 24), type := 0, pos := "zsortanyfunc.go:12", after := #[{ on := 5, ground := Ground.data }, { on := 6, ground := Ground.data }, { on := 3, ground := Ground.guard }], guard := some (3, true) }) (v := ?v7_2008) rfl (by kernel_rfl) (by kernel_rfl) (by kernel_rfl) (fun _ _ _ h => h) (Or.inl ⟨by rfl, ?h7_2008⟩) (by assumption) ?r7_2008
      case h7_2008 =>
       intro W hSW
       try dsimp only at hSW
       go_simp
       try with_reducible rfl
      try simp only [PT]
      refine wpAnyH_take (i := 8) (oi := { dst := some 26, op := Op.load 3 (Operand.tmp 25), type := 3, pos := "zsortanyfunc.go:12", after := #[{ on := 7, ground := Ground.data }, { on := 3, ground := Ground.guard }], guard := some (3, true) }) (v := ?v8_2009) rfl (by kernel_rfl) (by kernel_rfl) (by kernel_rfl) (fun _ _ _ h => h) (Or.inl ⟨by rfl, ?h8_2009⟩) (by assumption) ?r8_2009
      case h8_2009 =>
       intro W hSW
       try dsimp only at hSW
       have hc0 := (hSW.cell (p := ⟨g, j, none⟩) HGL.out).trans C1.out
       go_simp
       try with_reducible rfl
      try simp only [PT]
      refine wpAnyH_take (i := 9) (oi := { dst := some 27, op := Op.move (Operand.tmp 0), type := 27, pos := "zsortanyfunc.go:12", after := #[{ on := 3, ground := Ground.guard }], guard := some (3, true) }) (v := ?v9_2010) rfl (by kernel_rfl) (by kernel_rfl) (by kernel_rfl) (fun _ _ _ h => h) (Or.inl ⟨by rfl, ?h9_2010⟩) (by assumption) ?r9_2010
      case h9_2010 =>
       intro W hSW
       try dsimp only at hSW
       go_simp
       try with_reducible rfl
      try simp only [PT]
      refine wpAnyH_take (i := 10) (oi := { dst := some 28, op := Op.move (Operand.tmp 9), type := 3, pos := "zsortanyfunc.go:12", after := #[{ on := 3, ground := Ground.guard }], guard := some (3, true) }) (v := ?v10_2011) rfl (by kernel_rfl) (by kernel_rfl) (by kernel_rfl) (fun _ _ _ h => h) (Or.inl ⟨by rfl, ?h10_2011⟩) (by assumption) ?r10_2011
      case h10_2011 =>
       intro W hSW
       try dsimp only at hSW
       go_simp
       try with_reducible rfl
      try simp only [PT]
      refine wpAnyH_take (i := 11) (oi := { dst := some 29, op := Op.binOp BinOp.sub 3 (Operand.tmp 28) (Operand.const (Value.int IntKind.i64 1)) 3, type := 3, pos := "zsortanyfunc.go:12", after := #[{ on := 10, ground := Ground.data }, { on := 3, ground := Ground.guard }], guard := some (3, true) }) (v := ?v11_2012) rfl (by kernel_rfl) (by kernel_rfl) (by kernel_rfl) (fun _ _ _ h => h) (Or.inl ⟨by rfl, ?h11_2012⟩) (by assumption) ?r11_2012
      case h11_2012 =>
       intro W hSW
       try dsimp only at hSW
       go_simp
       try with_reducible rfl
      try simp only [PT]
      refine wpAnyH_take (i := 12) (oi := { dst := some 30, op := Op.indexAddr 27 (Operand.tmp 27) (Operand.tmp 29), type := 0, pos := "zsortanyfunc.go:12", after := #[{ on := 9, ground := Ground.data }, { on := 11, ground := Ground.data }, { on := 3, ground := Ground.guard }], guard := some (3, true) }) (v := ?v12_2013) rfl (by kernel_rfl) (by kernel_rfl) (by kernel_rfl) (fun _ _ _ h => h) (Or.inl ⟨by rfl, ?h12_2013⟩) (by assumption) ?r12_2013
      case h12_2013 =>
       intro W hSW
       try dsimp only at hSW
       go_simp
       try with_reducible rfl
      try simp only [PT]
      refine wpAnyH_take (i := 13) (oi := { dst := some 31, op := Op.load 3 (Operand.tmp 30), type := 3, pos := "zsortanyfunc.go:12", after := #[{ on := 12, ground := Ground.data }, { on := 3, ground := Ground.guard }], guard := some (3, true) }) (v := ?v13_2014) rfl (by kernel_rfl) (by kernel_rfl) (by kernel_rfl) (fun _ _ _ h => h) (Or.inl ⟨by rfl, ?h13_2014⟩) (by assumption) ?r13_2014
      case h13_2014 =>
       intro W hSW
       try dsimp only at hSW
       have hc0 := (hSW.cell (p := ⟨g, j', none⟩) HGL.out).trans C2.out
       go_simp
       try with_reducible rfl
      try simp only [PT]
      refine wpAnyH_ready (rs := [14]) (by kernel_rfl) (by simp) ?_
      refine AllReadyH.cons (o := { dst := some 32, op := Op.call { callee := Callee.value (Operand.tmp 22), args := #[Operand.tmp 26, Operand.tmp 31], argTypes := #[3, 3] }, type := 3, pos := "zsortanyfunc.go:12", after := #[{ on := 4, ground := Ground.data }, { on := 8, ground := Ground.data }, { on := 13, ground := Ground.data }, { on := 3, ground := Ground.chain }, { on := 3, ground := Ground.guard }], guard := some (3, true) }) rfl (fun K hK => ?_) AllReadyH.nil
      go_simp
      refine (HCM.out _ hv0).mono ?_
      rintro e w1 ⟨cc, rfl, hcc2, b1⟩
      have hv1 : Below wx.heap.size wx w1 := hv0.trans (b1.mono hv0.size)
      go_wp2_with fail
      refine hK.out _ _ (hv1) (fun hHeld => ?_)
      clear hK K
      try simp only [PT]
      refine wpAnyH_take (i := 15) (oi := { dst := some 33, op := Op.binOp BinOp.lss 3 (Operand.tmp 32) (Operand.const (Value.int IntKind.i64 0)) 3, type := 4, pos := "zsortanyfunc.go:12", after := #[{ on := 14, ground := Ground.data }, { on := 3, ground := Ground.guard }], guard := some (3, true) }) (v := ?v15_2015) rfl (by kernel_rfl) (by kernel_rfl) (by kernel_rfl) (fun _ _ _ h => h) (Or.inl ⟨by rfl, ?h15_2015⟩) (by assumption) ?r15_2015
      case h15_2015 =>
       intro W hSW
       try dsimp only at hSW
       go_simp
       try with_reducible rfl
      try simp only [PT]
      refine wpAnyH_take (i := 16) (oi := { dst := some 34, op := Op.pick (Operand.tmp 21) (Operand.tmp 33) (Operand.const (Value.bool false)), type := 4, pos := "zsortanyfunc.go:12", after := #[{ on := 3, ground := Ground.data }, { on := 15, ground := Ground.data }], guard := none }) (v := ?v16_2016) rfl (by kernel_rfl) (by kernel_rfl) (by kernel_rfl) (fun _ _ _ h => h) (Or.inl ⟨by rfl, ?h16_2016⟩) (by assumption) ?r16_2016
      case h16_2016 =>
       intro W hSW
       try dsimp only at hSW
       go_simp
       try with_reducible rfl
      try simp only [PT]
      refine wpAnyH_done (by kernel_rfl) ?_ _
      have F5 := HFJ.out.below hv1
      have G5 := HGJ.out.trans (grownBy_of_below hv1).any
      have c1 := F5.cell j hjn
      have c2 := F5.cell j' hjn'
      have f1 := F5.free j hjn
      have f2 := F5.free j' hjn'
      have hne : j ≠ j' := by have := HJJ.out; omega
      have HSW := Lib.hid (F5.swap hjn hjn')
      clear hHeld F5
      go_wp2_with fail
      go_region
      all_goals go_wp2
      go_roundw
      case rel =>
       have hj' := HJJ.out
       refine ⟨_, j', rfl, by omega, by omega, by go_num, ?_, fun _ => by rw [HXY.out.1, HXY.out.2.1]; exact HXY.out.2.2, ?_⟩
       ·
        refine FRow.congr (d := fun t => if t = j' then So.rot row j i (i + 1) j else if t = j then So.rot row j i (i + 1) j' else So.rot row j i (i + 1) t) (by first | exact HSW.out.1 | exact HSW.out.1.drewN _) fun t _ => ?_
        obtain rfl : j = j' + 1 := by omega
        rw [So.rot_down row (show j' + 1 ≤ i by omega) t]
        by_cases e1 : t = j'
        ·
         rw [if_neg (by omega), if_pos e1, if_pos e1]
        ·
         rw [if_neg e1, if_neg e1]
       ·
        exact G5.trans (by first | exact HSW.out.2 | exact grown_drewN HSW.out.2 _)
      case measure => have := HJJ.out; simp [intOf]; omega
    ·
     obtain rfl : j = a := by omega
     have j1 : ¬ ((j : Int) < (j : Int)) := by omega
     have HN := Lib.hid (So.merge_r HO.out HTW.out rfl (Nat.le_refl j) hji (fun h => absurd h (Nat.lt_irrefl _)) HLJ.out)
     clear hgj
     go_wp2_with fail
     have hv0 : Below wx.heap.size wx wx.drew := (Below.refl _ _).drew
     refine wp_region_held_drew (S := fun W => Below wx.heap.size wx W) (by kernel_rfl) (hv0) (fun hHeld => ?_)
     refine wpAnyH_take (i := 0) (oi := { dst := some 18, op := Op.move (Operand.tmp 9), type := 3, pos := "zsortanyfunc.go:12", after := #[], guard := none }) (v := ?v0_3001) rfl (by kernel_rfl) (by kernel_rfl) (by kernel_rfl) (fun _ _ _ h => h) (Or.inl ⟨by rfl, ?h0_3001⟩) (by assumption) ?r0_3001
     case h0_3001 =>
      intro W hSW
      try dsimp only at hSW
      go_simp
      try with_reducible rfl
     try simp only [PT]
     refine wpAnyH_take (i := 1) (oi := { dst := some 19, op := Op.move (Operand.tmp 1), type := 3, pos := "zsortanyfunc.go:12", after := #[], guard := none }) (v := ?v1_3002) rfl (by kernel_rfl) (by kernel_rfl) (by kernel_rfl) (fun _ _ _ h => h) (Or.inl ⟨by rfl, ?h1_3002⟩) (by assumption) ?r1_3002
     case h1_3002 =>
      intro W hSW
      try dsimp only at hSW
      go_simp
      try with_reducible rfl
     try simp only [PT]
     refine wpAnyH_take (i := 2) (oi := { dst := some 20, op := Op.binOp BinOp.gtr 3 (Operand.tmp 18) (Operand.tmp 19) 3, type := 4, pos := "zsortanyfunc.go:12", after := #[{ on := 0, ground := Ground.data }, { on := 1, ground := Ground.data }], guard := none }) (v := ?v2_3003) rfl (by kernel_rfl) (by kernel_rfl) (by kernel_rfl) (fun _ _ _ h => h) (Or.inl ⟨by rfl, ?h2_3003⟩) (by assumption) ?r2_3003
     case h2_3003 =>
      intro W hSW
      try dsimp only at hSW
      go_simp
      try with_reducible rfl
     try simp only [PT]
     refine wpAnyH_take (i := 3) (oi := { dst := some 21, op := Op.move (Operand.tmp 20), type := 4, pos := "zsortanyfunc.go:12", after := #[{ on := 2, ground := Ground.data }], guard := none }) (v := ?v3_3004) rfl (by kernel_rfl) (by kernel_rfl) (by kernel_rfl) (fun _ _ _ h => h) (Or.inl ⟨by rfl, ?h3_3004⟩) (by assumption) ?r3_3004
     case h3_3004 =>
      intro W hSW
      try dsimp only at hSW
      go_simp
      try with_reducible rfl
     try simp only [PT]
     refine wpAnyH_take (i := 4) (oi := { dst := some 22, op := Op.move (Operand.tmp 3), type := 140, pos := "zsortanyfunc.go:12", after := #[{ on := 3, ground := Ground.guard }], guard := some (3, true) }) (v := undef) rfl (by kernel_rfl) (by kernel_rfl) (by kernel_rfl) (fun _ _ _ h => h) (Or.inr ⟨by rfl, rfl⟩) (by assumption) ?_
     try simp only [PT]
     refine wpAnyH_take (i := 5) (oi := { dst := some 23, op := Op.move (Operand.tmp 0), type := 27, pos := "zsortanyfunc.go:12", after := #[{ on := 3, ground := Ground.guard }], guard := some (3, true) }) (v := undef) rfl (by kernel_rfl) (by kernel_rfl) (by kernel_rfl) (fun _ _ _ h => h) (Or.inr ⟨by rfl, rfl⟩) (by assumption) ?_
     try simp only [PT]
     refine wpAnyH_take (i := 6) (oi := { dst := some 24, op := Op.move (Operand.tmp 9), type := 3, pos := "zsortanyfunc.go:12", after := #[{ on := 3, ground := Ground.guard }], guard := some (3, true) }) (v := undef) rfl (by kernel_rfl) (by kernel_rfl) (by kernel_rfl) (fun _ _ _ h => h) (Or.inr ⟨by rfl, rfl⟩) (by assumption) ?_
     try simp only [PT]
     refine wpAnyH_take (i := 7) (oi := { dst := some 25, op := Op.indexAddr 27 (Operand.tmp 23) (Operand.tmp 24), type := 0, pos := "zsortanyfunc.go:12", after := #[{ on := 5, ground := Ground.data }, { on := 6, ground := Ground.data }, { on := 3, ground := Ground.guard }], guard := some (3, true) }) (v := undef) rfl (by kernel_rfl) (by kernel_rfl) (by kernel_rfl) (fun _ _ _ h => h) (Or.inr ⟨by rfl, rfl⟩) (by assumption) ?_
     try simp only [PT]
     refine wpAnyH_take (i := 8) (oi := { dst := some 26, op := Op.load 3 (Operand.tmp 25), type := 3, pos := "zsortanyfunc.go:12", after := #[{ on := 7, ground := Ground.data }, { on := 3, ground := Ground.guard }], guard := some (3, true) }) (v := undef) rfl (by kernel_rfl) (by kernel_rfl) (by kernel_rfl) (fun _ _ _ h => h) (Or.inr ⟨by rfl, rfl⟩) (by assumption) ?_
     try simp only [PT]
     refine wpAnyH_take (i := 9) (oi := { dst := some 27, op := Op.move (Operand.tmp 0), type := 27, pos := "zsortanyfunc.go:12", after := #[{ on := 3, ground := Ground.guard }], guard := some (3, true) }) (v := undef) rfl (by kernel_rfl) (by kernel_rfl) (by kernel_rfl) (fun _ _ _ h => h) (Or.inr ⟨by rfl, rfl⟩) (by assumption) ?_
     try simp only [PT]
     refine wpAnyH_take (i := 10) (oi := { dst := some 28, op := Op.move (Operand.tmp 9), type := 3, pos := "zsortanyfunc.go:12", after := #[{ on := 3, ground := Ground.guard }], guard := some (3, true) }) (v := undef) rfl (by kernel_rfl) (by kernel_rfl) (by kernel_rfl) (fun _ _ _ h => h) (Or.inr ⟨by rfl, rfl⟩) (by assumption) ?_
     try simp only [PT]
     refine wpAnyH_take (i := 11) (oi := { dst := some 29, op := Op.binOp BinOp.sub 3 (Operand.tmp 28) (Operand.const (Value.int IntKind.i64 1)) 3, type := 3, pos := "zsortanyfunc.go:12", after := #[{ on := 10, ground := Ground.data }, { on := 3, ground := Ground.guard }], guard := some (3, true) }) (v := undef) rfl (by kernel_rfl) (by kernel_rfl) (by kernel_rfl) (fun _ _ _ h => h) (Or.inr ⟨by rfl, rfl⟩) (by assumption) ?_
     try simp only [PT]
     refine wpAnyH_take (i := 12) (oi := { dst := some 30, op := Op.indexAddr 27 (Operand.tmp 27) (Operand.tmp 29), type := 0, pos := "zsortanyfunc.go:12", after := #[{ on := 9, ground := Ground.data }, { on := 11, ground := Ground.data }, { on := 3, ground := Ground.guard }], guard := some (3, true) }) (v := undef) rfl (by kernel_rfl) (by kernel_rfl) (by kernel_rfl) (fun _ _ _ h => h) (Or.inr ⟨by rfl, rfl⟩) (by assumption) ?_
     try simp only [PT]
     refine wpAnyH_take (i := 13) (oi := { dst := some 31, op := Op.load 3 (Operand.tmp 30), type := 3, pos := "zsortanyfunc.go:12", after := #[{ on := 12, ground := Ground.data }, { on := 3, ground := Ground.guard }], guard := some (3, true) }) (v := undef) rfl (by kernel_rfl) (by kernel_rfl) (by kernel_rfl) (fun _ _ _ h => h) (Or.inr ⟨by rfl, rfl⟩) (by assumption) ?_
     try simp only [PT]
     refine wpAnyH_take (i := 14) (oi := { dst := some 32, op := Op.call { callee := Callee.value (Operand.tmp 22), args := #[Operand.tmp 26, Operand.tmp 31], argTypes := #[3, 3] }, type := 3, pos := "zsortanyfunc.go:12", after := #[{ on := 4, ground := Ground.data }, { on := 8, ground := Ground.data }, { on := 13, ground := Ground.data }, { on := 3, ground := Ground.chain }, { on := 3, ground := Ground.guard }], guard := some (3, true) }) (v := undef) rfl (by kernel_rfl) (by kernel_rfl) (by kernel_rfl) (fun _ _ _ h => h) (Or.inr ⟨by rfl, rfl⟩) (by assumption) ?_
     try simp only [PT]
     refine wpAnyH_take (i := 15) (oi := { dst := some 33, op := Op.binOp BinOp.lss 3 (Operand.tmp 32) (Operand.const (Value.int IntKind.i64 0)) 3, type := 4, pos := "zsortanyfunc.go:12", after := #[{ on := 14, ground := Ground.data }, { on := 3, ground := Ground.guard }], guard := some (3, true) }) (v := undef) rfl (by kernel_rfl) (by kernel_rfl) (by kernel_rfl) (fun _ _ _ h => h) (Or.inr ⟨by rfl, rfl⟩) (by assumption) ?_
     try simp only [PT]
     refine wpAnyH_take (i := 16) (oi := { dst := some 34, op := Op.pick (Operand.tmp 21) (Operand.tmp 33) (Operand.const (Value.bool false)), type := 4, pos := "zsortanyfunc.go:12", after := #[{ on := 3, ground := Ground.data }, { on := 15, ground := Ground.data }], guard := none }) (v := ?v16_3017) rfl (by kernel_rfl) (by kernel_rfl) (by kernel_rfl) (fun _ _ _ h => h) (Or.inl ⟨by rfl, ?h16_3017⟩) (by assumption) ?r16_3017
     case h16_3017 =>
      intro W hSW
      try dsimp only at hSW
      go_simp
      try with_reducible rfl
     try simp only [PT]
     refine wpAnyH_done (by kernel_rfl) ?_ _
     have F5 := HFJ.out.below hv0
     have G5 := HGJ.out.trans (grownBy_of_below hv0).any
     clear hHeld
     go_wp2_with fail
     go_roundw
     case rel => exact ⟨ii, _, by have := HII.out; omega, by have := HII.out; omega, by go_num, F5, by rw [← HII.out]; exact HN.out.1, by rw [← HII.out]; exact (HM.out.mono (Nat.le_refl _) (by omega)).trans HN.out.2, G5⟩
     case measure => have := HII.out; simp [intOf]; omega
  ·
   obtain rfl : i = b := by omega
   clear hg
   go_wp2_with fail
   go_end0
   exact ⟨rfl, row, HF.out, HM.out, HS.out, HG.out⟩
end W
end
end Go.Proofs.YtfllkaeaanahmaaGreat
