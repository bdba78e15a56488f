/- Joined texts: ChkA, ChkK, ChkT, ChkC, ChkD, ChkD2, ChkF. Conditions: as each part says. -/
import Derived.Test.YtfllkaeaanahmaaGreatRows
import Derived.Test.YtfllkaeaanahmaaGreatMaps
import Derived.Test.YtfllkaeaanahmaaGreatRow
import Derived.Test.YtfllkaeaanahmaaGreatHeld2
import Derived.Test.YtfllkaeaanahmaaGreatChkPl
import Derived.WalkKit
import Derived.WalkSpells
import Derived.WalkLawsBesides
import Derived.Deep.QuietTactic
import Derived.BigQuiet
import Derived.RegionTactic
import Derived.Deep.DeepCutAuto
import Derived.StillTailTactics
import Derived.LoopN
import Derived.Lib.SliceRun
import Derived.Outline
import Derived.Stop.BytesEq
namespace Go.Proofs.YtfllkaeaanahmaaGreat
set_option linter.unusedVariables false
set_option linter.unusedSimpArgs false
section
open Go.RowKit
theorem isNaN_any (x : Int) (w : World) : Calls Tryz.prog 112 #[.int .i64 x] w fun e w' => e = .returned (.bool false) ∧ w' = w := by
 go_enter Tryz.func112, Tryz.ntmps112
 go_wp2
 go_ret
 exact ⟨rfl, rfl⟩
def cmpI (a b : Int) : Int := if a < b then -1 else if b < a then 1 else 0
theorem cmp_any (a b : Int) (w : World) : Calls Tryz.prog 85 #[.int .i64 a, .int .i64 b] w fun e w' => e = .returned (.int .i64 (cmpI a b)) ∧ w' = w := by
 unfold cmpI
 by_cases h1 : a < b
 ·
  rw [if_pos h1]
  go_enter Tryz.func85, Tryz.ntmps85
  go_wp2_with (go_at_call 112; refine (isNaN_any _ _).mono ?_; rintro e w' ⟨rfl, rfl⟩)
  go_ret
  exact ⟨rfl, rfl⟩
 ·
  rw [if_neg h1]
  by_cases h2 : b < a
  ·
   rw [if_pos h2]
   go_enter Tryz.func85, Tryz.ntmps85
   go_wp2_with (go_at_call 112; refine (isNaN_any _ _).mono ?_; rintro e w' ⟨rfl, rfl⟩)
   go_ret
   exact ⟨rfl, rfl⟩
  ·
   rw [if_neg h2]
   go_enter Tryz.func85, Tryz.ntmps85
   go_wp2_with (go_at_call 112; refine (isNaN_any _ _).mono ?_; rintro e w' ⟨rfl, rfl⟩)
   go_ret
   exact ⟨rfl, rfl⟩
theorem cmpI_neg (a b : Int) : cmpI a b < 0 ↔ a < b := by unfold cmpI; split <;> (try split) <;> omega
theorem cmpI_zero (a b : Int) : cmpI a b = 0 ↔ a = b := by unfold cmpI; split <;> (try split) <;> omega
theorem lb_iff {ks : List Int} (hu : Chk.Up ks) {h : Nat} {a : Int} (ha : ks[h]? = some a) (x : Int) : a < x ↔ h < Chk.lb ks x := by
 constructor
 ·
  intro hlt
  rcases Nat.lt_or_ge h (Chk.lb ks x) with h1 | h1
  ·
   exact h1
  ·
   have hl : Chk.lb ks x < ks.length := by have := (List.getElem?_eq_some_iff.1 ha).1; omega
   have h2 := Chk.lb_above ks x _ (List.getElem?_eq_getElem hl)
   rcases Nat.lt_or_ge (Chk.lb ks x) h with h3 | h3
   ·
    have := hu.lt h3 (List.getElem?_eq_getElem hl) ha; omega
   ·
    have e : Chk.lb ks x = h := by omega
    have : ks[Chk.lb ks x]? = some a := by rw [e]; exact ha
    rw [List.getElem?_eq_getElem hl] at this
    have := Option.some.inj this
    omega
 ·
  intro h1; exact Chk.lb_below ks x h a h1 ha
theorem wpList_load_midG {P : Program} {w : World} {ops : Array Oper} {rest : List Oper} {o : Oper} {a : Act} {Q : Exit → Act → World → Prop} (hw : Region.wanted o (yielded ops a.tmps) = true) (ty : TypeId) (x : Operand) (ho : o.op = .load ty x) (b off : Nat) (hx : a.eval x = .pointer (some ⟨b, off, none⟩)) (l : List Value) (ud : TypeDesc) (hr : w.rangeAt b off l)
  (hu : P.underlying ty = some ud) (ha : ud.isRow = true) (hi : (P.info? ty).map (·.size) = some l.length) (h : wpList P ops Q rest (a.put o.dst (.agg l.toArray)) w) : wpList P ops Q (o :: rest) a w :=
 wpList_step fun K hK => by
  rw [if_pos hw]
  exact wp_load_mid ty x ho b off hx l _ hr hu ha hi (hK _ _ h)
theorem bvs_length (l : List UInt8) : (bvs l).length = l.length := by simp
structure CR where
 c : Chk.Ck
 A : Option Addr
 n : Nat
 k : Nat
def ckCells (c : Chk.Ck) (v : Value) : List Value := [.int .i64 c.id] ++ (bvs c.dg ++ [.int .u32 c.pr, .int .i64 c.at_.r, .int .i64 c.at_.g, .int .i64 c.at_.u, .bool c.lost, v])
def CR.cells (x : CR) : List Value := ckCells x.c (.slice x.A x.n x.k)
theorem ckCells_len {c : Chk.Ck} (h : c.dg.length = 16) (v : Value) : (ckCells c v).length = 23 := by
 unfold ckCells
 rw [List.length_append, List.length_append, bvs_length, h]; rfl
theorem ckCells_one (c : Chk.Ck) (v : Value) (hv : v.oneCell' = true) : ∀ u ∈ ckCells c v, u.oneCell' = true := by
 intro u hu
 unfold ckCells at hu
 rcases List.mem_append.1 hu with hu | hu
 ·
  obtain rfl := List.mem_singleton.1 hu; rfl
 ·
  rcases List.mem_append.1 hu with hu | hu
  ·
   exact bvs_one _ u hu
  ·
   simp only [List.mem_cons, List.not_mem_nil, or_false] at hu
   rcases hu with rfl | rfl | rfl | rfl | rfl | rfl
   ·
    rfl
   ·
    rfl
   ·
    rfl
   ·
    rfl
   ·
    rfl
   ·
    exact hv
theorem ckCells_at (c : Chk.Ck) (v : Value) (h : c.dg.length = 16) : (ckCells c v)[0]? = some (.int .i64 c.id) ∧ (ckCells c v)[17]? = some (.int .u32 c.pr) ∧ (ckCells c v)[18]? = some (.int .i64 c.at_.r) ∧ (ckCells c v)[19]? = some (.int .i64 c.at_.g) ∧ (ckCells c v)[20]? = some (.int .i64 c.at_.u) ∧ (ckCells c v)[21]? = some (.bool c.lost) ∧ (ckCells c v)[22]? = some v := by
 have hl : (bvs c.dg).length = 16 := by rw [bvs_length, h]
 have key : ∀ j, (ckCells c v)[17 + j]? = ([.int .u32 c.pr, .int .i64 c.at_.r, .int .i64 c.at_.g, .int .i64 c.at_.u, .bool c.lost, v] : List Value)[j]? := fun j => by
  unfold ckCells
  rw [List.getElem?_append_right (by show 1 ≤ 17 + j; omega), List.getElem?_append_right (by rw [hl]; show 16 ≤ 17 + j - 1; omega), hl]
  congr 1
  show 17 + j - 1 - 16 = j; omega
 exact ⟨rfl, key 0, key 1, key 2, key 3, key 4, key 5⟩
def rfCells (r : Chk.Rf) : List Value := [.int .i64 r.t, .int .i64 r.n]
abbrev crs (D : List CR) : List Value := D.flatMap CR.cells
abbrev rfs (l : List Chk.Rf) : List Value := l.flatMap rfCells
theorem rfs_len (l : List Chk.Rf) : (rfs l).length = l.length * 2 := flatMap_len (fun _ _ => rfl)
theorem sizeCk : (Tryz.prog.info? 68).map (·.size) = some 23 := by kernel_rfl
theorem sizeRf : (Tryz.prog.info? 76).map (·.size) = some 2 := by kernel_rfl
theorem cmpCk_any (cs : List Value) (a x : Int) (h0 : cs[0]? = some (.int .i64 a)) (w : World) :
  Calls Tryz.prog 103 #[.agg cs.toArray, .int .i64 x] w fun e w' => e = .returned (.int .i64 (cmpI a x)) ∧ Below w.heap.size w w' := by
 have R0 := (IsRow.new w 68 cs).cell 0
 rw [h0] at R0
 have hb0 : Below w.heap.size w (w.alloc (.cells cs.toArray 68)) := (Below.refl _ w).alloc (Nat.le_refl _) _
 generalize cs.toArray = va at *
 obtain ⟨w0, hw0⟩ : ∃ w0, w.alloc (.cells va 68) = w0 := ⟨_, rfl⟩
 rw [hw0] at R0 hb0
 have HW0 := Lib.hid hw0
 clear hw0 h0
 go_enter Tryz.func103, Tryz.ntmps103
 go_upto_region 1 with fail
 rw [HW0.out]
 go_wp2_with (go_at_call 85; refine (cmp_any _ _ _).mono ?_; rintro e w' ⟨rfl, rfl⟩)
 go_ret
 exact ⟨rfl, hb0⟩
set_option maxRecDepth 100000 in
set_option maxHeartbeats 1600000 in
theorem bsCk_any (A : Option Addr) (n c : Nat) (hnc : n ≤ c) (hn40 : n ≤ 1099511627776) (B : Nat) (L : List (List Value)) (ks : List Int) (hL : L.length = n) (hks : ks.length = n) (hl : ∀ x ∈ L, x.length = 23) (hk : ∀ (j : Nat) (x : List Value), L[j]? = some x → x[0]? = some (.int .i64 (ks.getD j 0))) (hup : Chk.Up ks) (x : Int) (w : World) (hB : B ≤ w.heap.size)
  (hr : Rd w B 23 A n (L.flatMap id)) (S : Bool) (hS : decide (ks[Chk.lb ks x]? = some x) = S) :
  Calls Tryz.prog 102 #[.slice A n c, .int .i64 x, .func (.func 103) #[] #[]] w fun e w' => e = .returned (.tuple #[.int .i64 (Chk.lb ks x : Nat), .bool S]) ∧ Below w.heap.size w w' := by
 have HL := Lib.hid (And.intro hL (And.intro hks (And.intro hl hk)))
 have HUP := Lib.hid hup
 have HR := Lib.hid hr
 have HS := Lib.hid hS
 have HLB := Lib.hid (Chk.lb_le ks x)
 clear hL hks hl hk hup hr hS
 go_enter Tryz.func102, Tryz.ntmps102
 go_upto_region 3 with fail
 go_loopw [9, 10, 11] (fun u9 u10 u11 wr => ∃ i j : Nat, i ≤ j ∧ j ≤ n ∧ u9 = .int .i64 (i : Int) ∧ u10 = .int .i64 (j : Int) ∧ Hid (Below w.heap.size w wr) ∧ Hid (i ≤ Chk.lb ks x ∧ Chk.lb ks x ≤ j)) (fun u9 u10 _ _ => (intOf u10 - intOf u9).toNat)
 case atStart => exact ⟨0, n, Nat.zero_le _, Nat.le_refl _, rfl, rfl, Lib.hid (Below.refl _ _), Lib.hid ⟨Nat.zero_le _, by have := HLB.out; have := HL.out.2.1; omega⟩⟩
 case round =>
  obtain ⟨i, j, hij, hjn, rfl, rfl, HB, HI⟩ := hrel
  by_cases hlt : i < j
  ·
   obtain ⟨s, hs⟩ : ∃ s : Nat, i + j = s := ⟨_, rfl⟩
   have e1 : (i : Int) + (j : Int) = (s : Int) := by omega
   have e2 : IntKind.i64.wrap (s : Int) = (s : Int) := IntWalk.i64_in _ (by omega)
   have e3 : IntKind.u64.wrap (s : Int) = (s : Int) := by rw [IntKind.wrap_u64]; omega
   obtain ⟨h, hh⟩ : ∃ h : Nat, s / 2 = h := ⟨_, rfl⟩
   have e4 : (s : Int) / 2 = (h : Int) := by omega
   have hb1 : i ≤ h ∧ h < j := by omega
   have HH := Lib.hid hb1
   have e5 : (0 : Int) ≤ (h : Int) := by omega
   have e6 : (h : Int) < (n : Int) := by omega
   have e7 : IntKind.i64.wrap ((h : Int) + 1) = (h : Int) + 1 := IntWalk.i64_in _ (by omega)
   obtain ⟨hL, hks, hl, hk⟩ := HL.out
   have hhl : h < L.length := by omega
   obtain ⟨b, off, rfl, hbb, hrg⟩ := HR.out.elem (f := id) hl hhl (by omega)
   have hcs := hk h L[h] (List.getElem?_eq_getElem hhl)
   have hlen := hl L[h] (List.getElem_mem hhl)
   have ha : ks[h]? = some (ks.getD h 0) := by rw [List.getD, List.getElem?_eq_getElem (by omega)]; rfl
   have HA := Lib.hid (lb_iff HUP.out ha x)
   have hrw : wr.rangeAt b (off + h * 23) L[h] := fun k u hu => (HB.out.cell (p := ⟨b, off + h * 23 + k, none⟩) (show b < w.heap.size by omega)).trans (hrg k u hu)
   obtain ⟨cs, hcs2⟩ : ∃ cs, L[h] = cs := ⟨_, rfl⟩
   obtain ⟨a, ha2⟩ : ∃ a, ks.getD h 0 = a := ⟨_, rfl⟩
   rw [hcs2] at hcs hlen hrw
   rw [ha2] at hcs HA
   have HCM := Lib.hid (fun W => cmpCk_any cs a x hcs W)
   obtain ⟨q, hq⟩ : ∃ q, cmpI a x = q := ⟨_, rfl⟩
   have HQ := Lib.hid (cmpI_neg a x)
   rw [hq] at HCM HQ
   have HLEN := Lib.hid hlen
   clear hs hh hb1 hL hks hl hk hhl hbb hrg ha hcs2 ha2 hcs hq hlen
   by_cases hq0 : q < 0
   ·
    have HI2 := Lib.hid (HA.out.1 (HQ.out.1 hq0))
    go_wp2_with (first
     | (refine wpList_load_mid rfl _ (.tmp 27) rfl b (off + h * 23) rfl cs _ hrw Tryz.underlying68 rfl (by rw [HLEN.out]; exact sizeCk) ?_)
     | (go_at_call 103; refine (HCM.out _).mono ?_; rintro e w1 ⟨rfl, b1⟩))
    go_roundw
    case rel => exact ⟨h + 1, j, by have := HH.out; omega, hjn, by go_num, rfl, Lib.hid (HB.out.trans (b1.mono HB.out.size)), Lib.hid ⟨HI2.out, HI.out.2⟩⟩
    case measure => have := HH.out; simp [intOf]; omega
   ·
    have HI2 := Lib.hid (show ¬ h < Chk.lb ks x from fun e => hq0 (HQ.out.2 (HA.out.2 e)))
    go_wp2_with (first
     | (refine wpList_load_mid rfl _ (.tmp 27) rfl b (off + h * 23) rfl cs _ hrw Tryz.underlying68 rfl (by rw [HLEN.out]; exact sizeCk) ?_)
     | (go_at_call 103; refine (HCM.out _).mono ?_; rintro e w1 ⟨rfl, b1⟩))
    go_roundw
    case rel => exact ⟨i, h, by have := HH.out; omega, by have := HH.out; omega, rfl, rfl, Lib.hid (HB.out.trans (b1.mono HB.out.size)), Lib.hid ⟨HI.out.1, by have := HI2.out; omega⟩⟩
    case measure => have := HH.out; simp [intOf]; omega
  ·
   obtain rfl : i = j := by omega
   have hlb : Chk.lb ks x = i := by have := HI.out; omega
   have HLB2 := Lib.hid hlb
   rw [hlb] at HS

   by_cases hin : i < n
   ·
    have e5 : (0 : Int) ≤ (i : Int) := by omega
    have e6 : (i : Int) < (n : Int) := by omega
    obtain ⟨hL, hks, hl, hk⟩ := HL.out
    have hhl : i < L.length := by omega
    obtain ⟨b, off, rfl, hbb, hrg⟩ := HR.out.elem (f := id) hl hhl (by omega)
    have hcs := hk i L[i] (List.getElem?_eq_getElem hhl)
    have hlen := hl L[i] (List.getElem_mem hhl)
    have ha : ks[i]? = some (ks.getD i 0) := by rw [List.getD, List.getElem?_eq_getElem (by omega)]; rfl
    have hrw : wr.rangeAt b (off + i * 23) L[i] := fun k u hu => (HB.out.cell (p := ⟨b, off + i * 23 + k, none⟩) (show b < w.heap.size by omega)).trans (hrg k u hu)
    obtain ⟨cs, hcs2⟩ : ∃ cs, L[i] = cs := ⟨_, rfl⟩
    obtain ⟨a, ha2⟩ : ∃ a, ks.getD i 0 = a := ⟨_, rfl⟩
    rw [hcs2] at hcs hlen hrw
    rw [ha2] at hcs ha
    have HCM := Lib.hid (fun W => cmpCk_any cs a x hcs W)
    obtain ⟨q, hq⟩ : ∃ q, cmpI a x = q := ⟨_, rfl⟩
    have hqs : (q == 0) = S := by
     rw [← HS.out, ha, ← hq]
     by_cases e : a = x
     ·
      subst e; simp [(cmpI_zero a a).2 rfl]
     ·
      have : cmpI a x ≠ 0 := fun h => e ((cmpI_zero a x).1 h)
      simp [e, this]
    rw [hq] at HCM
    have HLEN := Lib.hid hlen
    clear hL hks hl hk hhl hbb hrg ha hcs2 ha2 hcs hq hlen hlb
    go_wp2_with (first
     | (refine wpList_load_midG (by rfl) _ (.tmp 43) rfl b (off + i * 23) rfl cs _ hrw Tryz.underlying68 rfl (by rw [HLEN.out]; exact sizeCk) ?_)
     | (go_at_call 103; refine (HCM.out _).mono ?_; rintro e w1 ⟨rfl, b1⟩))
    go_ret2
    rw [HLB2.out]
    exact ⟨rfl, HB.out.trans (b1.mono HB.out.size)⟩
   ·
    have hS : S = false := by
     rw [← HS.out, List.getElem?_eq_none (by have := HL.out.2.1; omega)]; rfl
    subst hS
    clear hlb
    have e6 : ¬ (i : Int) < (n : Int) := by omega
    go_wp2_with fail
    go_ret2
    rw [HLB2.out]
    exact ⟨rfl, HB.out⟩
theorem cmpRf_any (cs : List Value) (a x : Int) (h0 : cs[0]? = some (.int .i64 a)) (w : World) :
  Calls Tryz.prog 116 #[.agg cs.toArray, .int .i64 x] w fun e w' => e = .returned (.int .i64 (cmpI a x)) ∧ Below w.heap.size w w' := by
 have R0 := (IsRow.new w 76 cs).cell 0
 rw [h0] at R0
 have hb0 : Below w.heap.size w (w.alloc (.cells cs.toArray 76)) := (Below.refl _ w).alloc (Nat.le_refl _) _
 generalize cs.toArray = va at *
 obtain ⟨w0, hw0⟩ : ∃ w0, w.alloc (.cells va 76) = w0 := ⟨_, rfl⟩
 rw [hw0] at R0 hb0
 have HW0 := Lib.hid hw0
 clear hw0 h0
 go_enter Tryz.func116, Tryz.ntmps116
 go_upto_region 1 with fail
 rw [HW0.out]
 go_wp2_with (go_at_call 85; refine (cmp_any _ _ _).mono ?_; rintro e w' ⟨rfl, rfl⟩)
 go_ret
 exact ⟨rfl, hb0⟩
set_option maxRecDepth 100000 in
set_option maxHeartbeats 1600000 in
theorem bsRf_any (A : Option Addr) (n c : Nat) (hnc : n ≤ c) (hn40 : n ≤ 1099511627776) (B : Nat) (L : List (List Value)) (ks : List Int) (hL : L.length = n) (hks : ks.length = n) (hl : ∀ x ∈ L, x.length = 2) (hk : ∀ (j : Nat) (x : List Value), L[j]? = some x → x[0]? = some (.int .i64 (ks.getD j 0))) (hup : Chk.Up ks) (x : Int) (w : World) (hB : B ≤ w.heap.size)
  (hr : Rd w B 2 A n (L.flatMap id)) (S : Bool) (hS : decide (ks[Chk.lb ks x]? = some x) = S) :
  Calls Tryz.prog 115 #[.slice A n c, .int .i64 x, .func (.func 116) #[] #[]] w fun e w' => e = .returned (.tuple #[.int .i64 (Chk.lb ks x : Nat), .bool S]) ∧ Below w.heap.size w w' := by
 have HL := Lib.hid (And.intro hL (And.intro hks (And.intro hl hk)))
 have HUP := Lib.hid hup
 have HR := Lib.hid hr
 have HS := Lib.hid hS
 have HLB := Lib.hid (Chk.lb_le ks x)
 clear hL hks hl hk hup hr hS
 go_enter Tryz.func115, Tryz.ntmps115
 go_upto_region 3 with fail
 go_loopw [9, 10, 11] (fun u9 u10 u11 wr => ∃ i j : Nat, i ≤ j ∧ j ≤ n ∧ u9 = .int .i64 (i : Int) ∧ u10 = .int .i64 (j : Int) ∧ Hid (Below w.heap.size w wr) ∧ Hid (i ≤ Chk.lb ks x ∧ Chk.lb ks x ≤ j)) (fun u9 u10 _ _ => (intOf u10 - intOf u9).toNat)
 case atStart => exact ⟨0, n, Nat.zero_le _, Nat.le_refl _, rfl, rfl, Lib.hid (Below.refl _ _), Lib.hid ⟨Nat.zero_le _, by have := HLB.out; have := HL.out.2.1; omega⟩⟩
 case round =>
  obtain ⟨i, j, hij, hjn, rfl, rfl, HB, HI⟩ := hrel
  by_cases hlt : i < j
  ·
   obtain ⟨s, hs⟩ : ∃ s : Nat, i + j = s := ⟨_, rfl⟩
   have e1 : (i : Int) + (j : Int) = (s : Int) := by omega
   have e2 : IntKind.i64.wrap (s : Int) = (s : Int) := IntWalk.i64_in _ (by omega)
   have e3 : IntKind.u64.wrap (s : Int) = (s : Int) := by rw [IntKind.wrap_u64]; omega
   obtain ⟨h, hh⟩ : ∃ h : Nat, s / 2 = h := ⟨_, rfl⟩
   have e4 : (s : Int) / 2 = (h : Int) := by omega
   have hb1 : i ≤ h ∧ h < j := by omega
   have HH := Lib.hid hb1
   have e5 : (0 : Int) ≤ (h : Int) := by omega
   have e6 : (h : Int) < (n : Int) := by omega
   have e7 : IntKind.i64.wrap ((h : Int) + 1) = (h : Int) + 1 := IntWalk.i64_in _ (by omega)
   obtain ⟨hL, hks, hl, hk⟩ := HL.out
   have hhl : h < L.length := by omega
   obtain ⟨b, off, rfl, hbb, hrg⟩ := HR.out.elem (f := id) hl hhl (by omega)
   have hcs := hk h L[h] (List.getElem?_eq_getElem hhl)
   have hlen := hl L[h] (List.getElem_mem hhl)
   have ha : ks[h]? = some (ks.getD h 0) := by rw [List.getD, List.getElem?_eq_getElem (by omega)]; rfl
   have HA := Lib.hid (lb_iff HUP.out ha x)
   have hrw : wr.rangeAt b (off + h * 2) L[h] := fun k u hu => (HB.out.cell (p := ⟨b, off + h * 2 + k, none⟩) (show b < w.heap.size by omega)).trans (hrg k u hu)
   obtain ⟨cs, hcs2⟩ : ∃ cs, L[h] = cs := ⟨_, rfl⟩
   obtain ⟨a, ha2⟩ : ∃ a, ks.getD h 0 = a := ⟨_, rfl⟩
   rw [hcs2] at hcs hlen hrw
   rw [ha2] at hcs HA
   have HCM := Lib.hid (fun W => cmpRf_any cs a x hcs W)
   obtain ⟨q, hq⟩ : ∃ q, cmpI a x = q := ⟨_, rfl⟩
   have HQ := Lib.hid (cmpI_neg a x)
   rw [hq] at HCM HQ
   have HLEN := Lib.hid hlen
   clear hs hh hb1 hL hks hl hk hhl hbb hrg ha hcs2 ha2 hcs hq hlen
   by_cases hq0 : q < 0
   ·
    have HI2 := Lib.hid (HA.out.1 (HQ.out.1 hq0))
    go_wp2_with (first
     | (refine wpList_load_mid rfl _ (.tmp 27) rfl b (off + h * 2) rfl cs _ hrw Tryz.underlying76 rfl (by rw [HLEN.out]; exact sizeRf) ?_)
     | (go_at_call 116; refine (HCM.out _).mono ?_; rintro e w1 ⟨rfl, b1⟩))
    go_roundw
    case rel => exact ⟨h + 1, j, by have := HH.out; omega, hjn, by go_num, rfl, Lib.hid (HB.out.trans (b1.mono HB.out.size)), Lib.hid ⟨HI2.out, HI.out.2⟩⟩
    case measure => have := HH.out; simp [intOf]; omega
   ·
    have HI2 := Lib.hid (show ¬ h < Chk.lb ks x from fun e => hq0 (HQ.out.2 (HA.out.2 e)))
    go_wp2_with (first
     | (refine wpList_load_mid rfl _ (.tmp 27) rfl b (off + h * 2) rfl cs _ hrw Tryz.underlying76 rfl (by rw [HLEN.out]; exact sizeRf) ?_)
     | (go_at_call 116; refine (HCM.out _).mono ?_; rintro e w1 ⟨rfl, b1⟩))
    go_roundw
    case rel => exact ⟨i, h, by have := HH.out; omega, by have := HH.out; omega, rfl, rfl, Lib.hid (HB.out.trans (b1.mono HB.out.size)), Lib.hid ⟨HI.out.1, by have := HI2.out; omega⟩⟩
    case measure => have := HH.out; simp [intOf]; omega
  ·
   obtain rfl : i = j := by omega
   have hlb : Chk.lb ks x = i := by have := HI.out; omega
   have HLB2 := Lib.hid hlb
   rw [hlb] at HS

   by_cases hin : i < n
   ·
    have e5 : (0 : Int) ≤ (i : Int) := by omega
    have e6 : (i : Int) < (n : Int) := by omega
    obtain ⟨hL, hks, hl, hk⟩ := HL.out
    have hhl : i < L.length := by omega
    obtain ⟨b, off, rfl, hbb, hrg⟩ := HR.out.elem (f := id) hl hhl (by omega)
    have hcs := hk i L[i] (List.getElem?_eq_getElem hhl)
    have hlen := hl L[i] (List.getElem_mem hhl)
    have ha : ks[i]? = some (ks.getD i 0) := by rw [List.getD, List.getElem?_eq_getElem (by omega)]; rfl
    have hrw : wr.rangeAt b (off + i * 2) L[i] := fun k u hu => (HB.out.cell (p := ⟨b, off + i * 2 + k, none⟩) (show b < w.heap.size by omega)).trans (hrg k u hu)
    obtain ⟨cs, hcs2⟩ : ∃ cs, L[i] = cs := ⟨_, rfl⟩
    obtain ⟨a, ha2⟩ : ∃ a, ks.getD i 0 = a := ⟨_, rfl⟩
    rw [hcs2] at hcs hlen hrw
    rw [ha2] at hcs ha
    have HCM := Lib.hid (fun W => cmpRf_any cs a x hcs W)
    obtain ⟨q, hq⟩ : ∃ q, cmpI a x = q := ⟨_, rfl⟩
    have hqs : (q == 0) = S := by
     rw [← HS.out, ha, ← hq]
     by_cases e : a = x
     ·
      subst e; simp [(cmpI_zero a a).2 rfl]
     ·
      have : cmpI a x ≠ 0 := fun h => e ((cmpI_zero a x).1 h)
      simp [e, this]
    rw [hq] at HCM
    have HLEN := Lib.hid hlen
    clear hL hks hl hk hhl hbb hrg ha hcs2 ha2 hcs hq hlen hlb
    go_wp2_with (first
     | (refine wpList_load_midG (by rfl) _ (.tmp 43) rfl b (off + i * 2) rfl cs _ hrw Tryz.underlying76 rfl (by rw [HLEN.out]; exact sizeRf) ?_)
     | (go_at_call 116; refine (HCM.out _).mono ?_; rintro e w1 ⟨rfl, b1⟩))
    go_ret2
    rw [HLB2.out]
    exact ⟨rfl, HB.out.trans (b1.mono HB.out.size)⟩
   ·
    have hS : S = false := by
     rw [← HS.out, List.getElem?_eq_none (by have := HL.out.2.1; omega)]; rfl
    subst hS
    clear hlb
    have e6 : ¬ (i : Int) < (n : Int) := by omega
    go_wp2_with fail
    go_ret2
    rw [HLB2.out]
    exact ⟨rfl, HB.out⟩
end
section
open Go.RowKit
def unV (u : Chk.Un) : Value := .agg #[.int .i64 u.r, .int .i64 u.g, .int .i64 u.u]
def stV (r g : Int) : Value := .agg #[.int .i64 r, .int .i64 g]
theorem part_st (w : World) (r g u : Int) : (part 63 #[.int .i64 r, .int .i64 g, .int .i64 u] 0).run Tryz.prog w = .ok (stV r g) w := by kernel_rfl
theorem part_un (w : World) (r g u : Int) : (part 3 #[.int .i64 r, .int .i64 g, .int .i64 u] 2).run Tryz.prog w = .ok (.int .i64 u) w := by kernel_rfl
theorem part_row (w : World) (r g : Int) : (part 3 #[.int .i64 r, .int .i64 g] 0).run Tryz.prog w = .ok (.int .i64 r) w := by kernel_rfl
theorem part_grp (w : World) (r g : Int) : (part 3 #[.int .i64 r, .int .i64 g] 1).run Tryz.prog w = .ok (.int .i64 g) w := by kernel_rfl
theorem unFields : ∃ f0 f1 : Field, Tryz.prog.underlying 65 = some (.struct #[f0, f1]) ∧ (f0.type = 63 ∧ f0.offset = 0 ∧ f0.name ≠ "_") ∧ (f1.type = 3 ∧ f1.offset = 2 ∧ f1.name ≠ "_") :=
 ⟨_, _, Tryz.underlying65, ⟨rfl, rfl, by decide⟩, ⟨rfl, rfl, by decide⟩⟩
theorem stFields : ∃ f0 f1 : Field, Tryz.prog.underlying 63 = some (.struct #[f0, f1]) ∧ (f0.type = 3 ∧ f0.offset = 0 ∧ f0.name ≠ "_") ∧ (f1.type = 3 ∧ f1.offset = 1 ∧ f1.name ≠ "_") :=
 ⟨_, _, Tryz.underlying63, ⟨rfl, rfl, by decide⟩, ⟨rfl, rfl, by decide⟩⟩
theorem run_equalIn_st (d : Nat) (r g r' g' : Int) (w : World) : (Op.equalIn (d + 2) 63 (stV r g) (stV r' g')).run Tryz.prog w = .ok (decide (r = r' ∧ g = g')) w := by
 obtain ⟨f0, f1, hu, ⟨a1, a2, a3⟩, ⟨b1, b2, b3⟩⟩ := stFields
 have hf : Tryz.prog.fieldsOf 63 = #[f0, f1] := by unfold Program.fieldsOf; rw [hu]
 unfold stV
 rw [run_equalIn_struct w (d + 1) _ _ _ (by rw [hf]; exact hu) (by kernel_rfl), hf]
 simp only [Op.eqFields, a1, a2, b1, b2, ne_eq, a3, b3, not_false_eq_true, if_true, Sem.run_bind, part_row, part_grp, Result.andThen_ok, run_equalIn_int w d _ .i64 .i64 _ _ Tryz.underlying3, Sem.run_ite, Sem.run_pure]
 by_cases h1 : r = r'
 ·
  by_cases h2 : g = g'
  ·
   subst h1 h2; simp
  ·
   simp [h1, h2]
 ·
  simp [h1]
theorem run_equal_un (x y : Chk.Un) (w : World) : (Op.equal 65 (unV x) (unV y)).run Tryz.prog w = .ok (decide (x = y)) w := by
 obtain ⟨f0, f1, hu, ⟨a1, a2, a3⟩, ⟨b1, b2, b3⟩⟩ := unFields
 have hf : Tryz.prog.fieldsOf 65 = #[f0, f1] := by unfold Program.fieldsOf; rw [hu]
 have h : (x = y) ↔ ((x.r = y.r ∧ x.g = y.g) ∧ x.u = y.u) := by
  cases x; cases y; simp [and_assoc]
 show (Op.equalIn (9997 + 3) 65 (unV x) (unV y)).run Tryz.prog w = _
 unfold unV
 rw [run_equalIn_struct w (9997 + 2) _ _ _ (by rw [hf]; exact hu) (by kernel_rfl), hf]
 simp only [Op.eqFields, a1, a2, b1, b2, ne_eq, a3, b3, not_false_eq_true, if_true, Sem.run_bind, part_st, part_un, Result.andThen_ok, run_equalIn_st, run_equalIn_int w (9997 + 1) _ .i64 .i64 _ _ Tryz.underlying3, Sem.run_ite, Sem.run_pure]
 by_cases h1 : x.r = y.r ∧ x.g = y.g
 ·
  by_cases h2 : x.u = y.u
  ·
   have : x = y := h.2 ⟨h1, h2⟩
   subst this; simp
  ·
   have : ¬ x = y := fun e => h2 (h.1 e).2
   simp [h1, h2, this]
 ·
  have : ¬ x = y := fun e => h1 (h.1 e).1
  simp [h1, this]
theorem findAsking_un (x : Chk.Un) : ∀ (L : List (Chk.Un × Value)) (es : List MapEntry) (i : Nat) (w : World), es.map (fun e => (e.key, e.val)) = L.map (fun p => (unV p.1, p.2)) → (Instr.findAsking 65 (unV x) es i).run Tryz.prog w = .ok (findIn x L i) w
 | [], [], i, w, _ => by simp [Instr.findAsking, findIn]
 | [], e :: es, i, w, h => by simp at h
 | p :: L, [], i, w, h => by simp at h
 | (y, v) :: L, e :: es, i, w, h => by
  simp only [List.map_cons, List.cons.injEq, Prod.mk.injEq] at h
  obtain ⟨⟨h1, h2⟩, h3⟩ := h
  have ih := findAsking_un x L es (i + 1) w h3
  simp only [Instr.findAsking, Sem.run_bind, h1, run_equal_un, Result.andThen_ok, Sem.run_ite, Sem.run_pure, findIn, h2]
  by_cases e1 : x = y
  ·
   subst e1; simp
  ·
   rw [if_neg e1]; simp only [e1, decide_false, Bool.false_eq_true, if_false]; exact ih
theorem keyT_un : KeyT Tryz.prog 65 unV where
 check := fun w emp x => by
  obtain ⟨f0, f1, hu, ⟨a1, a2, a3⟩, ⟨b1, b2, b3⟩⟩ := unFields
  obtain ⟨g0, g1, hs, ⟨c1, c2, c3⟩, ⟨d1, d2, d3⟩⟩ := stFields
  have hint : ∀ (n : Nat) (v : Int) (w : World), (Instr.checkKey emp (n + 1) 3 (.int .i64 v)).run Tryz.prog w = .ok () w := fun n v w => by simp [Instr.checkKey, run_underlying Tryz.underlying3]
  have hst : ∀ (n : Nat) (r g : Int) (w : World), (Instr.checkKey emp (n + 2) 63 (stV r g)).run Tryz.prog w = .ok () w := fun n r g w => by
   simp [Instr.checkKey, run_underlying hs, stV, c1, c2, c3, d1, d2, d3, part_row, part_grp, hint, Result.andThen]
  have h : ∀ n, (Instr.checkKey emp (n + 3) 65 (unV x)).run Tryz.prog w = .ok () w := fun n => by
   have hst := hst n
   have hint := hint (n + 1)
   rw [show n + 3 = (n + 2) + 1 from rfl, Instr.checkKey]
   simp [run_underlying hu, unV, a1, a2, a3, b1, b2, b3, part_st, part_un, Result.andThen]
   rw [hst]
   exact hint _ _
  exact h 9997
 find := fun w x L es h => by
  unfold Instr.findKey
  simp only [Sem.run_bind, run_underlying Tryz.underlying65, Result.andThen_ok]
  cases es with
  | nil =>
   cases L with
   | nil => simp [Instr.findNow, findIn]
   | cons p L => simp at h
  | cons e es =>
   simp only [Instr.findNow, Instr.sameNow]
   exact findAsking_un x L (e :: es) 0 w h
 bits := fun x => by
  have h : ∀ n, Instr.sameBits (n + 2) (unV x) (unV x) = true := fun n => by simp [Instr.sameBits, unV]
  exact h 9998
end
section
open Go.RowKit
structure CRok (w : World) (F : Nat → Prop) (x : CR) : Prop where
 rd : Rd w w.heap.size 2 x.A x.n (rfs x.c.refs)
 n : x.c.refs.length = x.n
 k : x.n ≤ x.k
 km : x.k ≤ maxLen
 f : ∀ a, x.A = some a → F a.block
theorem CRok.lt {w : World} {F : Nat → Prop} {x : CR} (h : CRok w F x) (hn : 0 < x.n) : ∃ b off, x.A = some ⟨b, off, none⟩ ∧ b < w.heap.size := by
 obtain ⟨b, off, e, hb, _⟩ := h.rd.2 hn; exact ⟨b, off, e, hb⟩
theorem CRok.keep {w w' : World} {F S : Nat → Prop} {x : CR} (h : CRok w F x) (hk : Keep S w w') (hd : ∀ b, F b → ¬ S b) : CRok w' F x :=
 ⟨(h.rd.keepS hk (Nat.le_refl _) (fun a ha => hd _ (h.f a ha))).more hk.size, h.n, h.k, h.km, h.f⟩
theorem CRok.mono {w : World} {F F' : Nat → Prop} {x : CR} (h : CRok w F x) (hf : ∀ b, F b → F' b) : CRok w F' x := ⟨h.rd, h.n, h.k, h.km, fun a ha => hf _ (h.f a ha)⟩
structure TM where
 A : Option Addr
 n : Nat
 c : Nat
 m : Nat
 N : Nat
 D : List CR
def unM (l : List Chk.Ck) : Chk.Un → Option Value := fun u => (Chk.unitAt l u).map (Value.int .i64)
structure TAt (w : World) (F S : Nat → Prop) (a : Nat) (t : TM) (l : List Chk.Ck) : Prop where
 row : IsRow w a 116 [.slice t.A t.n t.c, .map (some t.m)]
 own : w.ownsRow 0 68 23 (.slice t.A t.n t.c) t.n (crs t.D)
 d : t.D.map CR.c = l
 map : MapIs w t.m unV (unM l) t.N
 ok : ∀ x ∈ t.D, CRok w F x
 sa : S a
 sm : S t.m
 sg : ∀ g, t.A = some g → S g.block
 am : a ≠ t.m
 ag : ∀ g, t.A = some g → g.block ≠ a ∧ g.block ≠ t.m
 fs : ∀ b, F b → ¬ S b
 inv : Chk.Inv l
section
variable {w w' : World} {F S : Nat → Prop} {a : Nat} {t : TM} {l : List Chk.Ck}
theorem TAt.len (h : TAt w F S a t l) : l.length = t.n ∧ t.D.length = t.n := by
 have h1 := h.own.1
 have h2 : t.D.length = l.length := by rw [← h.d, List.length_map]
 have h3 : (crs t.D).length = t.D.length * 23 := flatMap_len fun x hx => ckCells_len ((h.inv.ok x.c (by rw [← h.d]; exact List.mem_map_of_mem hx)).dg) _
 omega
theorem TAt.dl (h : TAt w F S a t l) : ∀ x ∈ t.D, x.cells.length = 23 := fun x hx => ckCells_len ((h.inv.ok x.c (by rw [← h.d]; exact List.mem_map_of_mem hx)).dg) _
theorem TAt.max (h : TAt w F S a t l) : t.n ≤ 65536 := by
 have hl := h.len.1
 rcases Nat.eq_zero_or_pos t.n with h0 | h0
 ·
  omega
 ·
  have hk : t.n - 1 < l.length := by omega
  have h1 := h.inv.up.pos_ge (b := 0) (fun x hx => by obtain ⟨c, hc, rfl⟩ := List.mem_map.1 hx; have := (h.inv.ok c hc).id1; omega) (t.n - 1) (Chk.nth l (t.n - 1)).id (by rw [List.getElem?_map, Chk.nth_get hk]; rfl)
  have h2 := (h.inv.nth hk).id2
  omega
theorem TAt.cap (h : TAt w F S a t l) : t.n ≤ t.c ∧ t.c ≤ maxLen := own_cap h.own
theorem TAt.keep {T : Nat → Prop} (h : TAt w F S a t l) (hk : Keep T w w') (hs : ∀ b, S b → ¬ T b) (hf : ∀ b, F b → ¬ T b) : TAt w' F S a t l := by
 refine ⟨h.row.keep (hk.block a h.row.lt (hs a h.sa)), ?_, h.d, h.map.keep hk (hs _ h.sm), fun x hx => (h.ok x hx).keep hk hf, h.sa, h.sm, h.sg, h.am, h.ag, h.fs, h.inv⟩
 refine ⟨h.own.1, ?_⟩
 rcases h.own.2 with h0 | ⟨g, cap, cur, hv, hg, hh, r⟩
 ·
  exact .inl h0
 ·
  have hA : t.A = some ⟨g, 0, none⟩ := by injection hv
  exact .inr ⟨g, cap, cur, hv, hg, (hk.block g (Array.getElem?_eq_some_iff.1 hh).1 (hs g (h.sg _ hA))).trans hh, r⟩
theorem TAt.below (h : TAt w F S a t l) (hb : Below w.heap.size w w') : TAt w' F S a t l :=
 h.keep (Keep.of_below (S := fun _ => False) hb) (fun _ _ e => e) (fun _ _ e => e)
theorem TAt.cells (h : TAt w F S a t l) : w.cell? ⟨a, 0, none⟩ = some (.slice t.A t.n t.c) ∧ w.cell? ⟨a, 1, none⟩ = some (.map (some t.m)) := ⟨h.row.cell 0, h.row.cell 1⟩
theorem crs_id (D : List CR) : (D.map CR.cells).flatMap id = crs D := by unfold crs; rw [List.flatMap_map]; rfl
theorem TAt.at (h : TAt w F S a t l) {k : Nat} (hk : k < t.n) : ∃ g x, t.A = some ⟨g, 0, none⟩ ∧ g < w.heap.size ∧ t.D[k]? = some x ∧ l[k]? = some x.c ∧ x ∈ t.D ∧ w.rangeAt g (k * 23) x.cells := by
 have hD : k < t.D.length := by rw [h.len.2]; exact hk
 obtain ⟨g, cap, hv, _, hlt⟩ := h.own.form (by omega)
 have hA : t.A = some ⟨g, 0, none⟩ := by injection hv
 refine ⟨g, t.D[k], hA, hlt, List.getElem?_eq_getElem hD, by rw [← h.d, List.getElem?_map, List.getElem?_eq_getElem hD]; rfl, List.getElem_mem hD, fun j v hv2 => ?_⟩
 obtain ⟨b, off, e, _, hr⟩ := (Rd.of_own h.own).elem (f := CR.cells) h.dl hD hk
 have e2 := e.symm.trans hA
 have e3 := Option.some.inj e2
 have hb : b = g := congrArg Addr.block e3
 have ho : off = 0 := congrArg Addr.off e3
 subst hb ho
 have := hr j v hv2
 rwa [Nat.zero_add] at this
end
theorem find_bs {w : World} {F S : Nat → Prop} {a : Nat} {t : TM} {l : List Chk.Ck} (h : TAt w F S a t l) (id : Int) (Sf : Bool) (hS : decide ((Chk.ids l)[Chk.lb (Chk.ids l) id]? = some id) = Sf) :
  Calls Tryz.prog 102 #[.slice t.A t.n t.c, .int .i64 id, .func (.func 103) #[] #[]] w fun e w' => e = .returned (.tuple #[.int .i64 (Chk.lb (Chk.ids l) id : Nat), .bool Sf]) ∧ Below w.heap.size w w' := by
 have hm := h.max
 refine bsCk_any t.A t.n t.c h.cap.1 (by omega) w.heap.size (t.D.map CR.cells) (Chk.ids l) (by rw [List.length_map, h.len.2]) (by simp [h.len.1]) (fun x hx => by obtain ⟨y, hy, rfl⟩ := List.mem_map.1 hx; exact h.dl y hy) (fun j x hj => ?_) h.inv.up id w (Nat.le_refl _) (by rw [crs_id]; exact Rd.of_own h.own) Sf hS
 rw [List.getElem?_map] at hj
 obtain ⟨y, hy, rfl⟩ := Option.map_eq_some_iff.1 hj
 have e1 : (Chk.ids l).getD j 0 = y.c.id := by
  rw [← h.d]; unfold Chk.ids; rw [List.map_map, List.getD, List.getElem?_map, hy]; rfl
 rw [e1]; rfl
set_option maxHeartbeats 1600000 in
theorem find_none {w : World} {F S : Nat → Prop} {a : Nat} {t : TM} {l : List Chk.Ck} (h : TAt w F S a t l) (id : Int) (hp : Chk.pos (Chk.ids l) id = none) :
  Calls Tryz.prog 73 #[.pointer (some ⟨a, 0, none⟩), .int .i64 id] w fun e w' => e = .returned (.pointer none) ∧ Below w.heap.size w w' := by
 have hS : decide ((Chk.ids l)[Chk.lb (Chk.ids l) id]? = some id) = false := by
  rw [Chk.pos_lb h.inv.up] at hp
  refine decide_eq_false fun e => ?_
  rw [if_pos e] at hp; cases hp
 have HF := Lib.hid (find_bs h id false hS)
 obtain ⟨c0, _⟩ := h.cells
 generalize Chk.lb (Chk.ids l) id = q at HF
 clear hS hp h
 go_enter Tryz.func73, Tryz.ntmps73
 go_wp2_with (go_at_call 102; refine HF.out.mono ?_; rintro e w1 ⟨rfl, b1⟩)
 go_ret
 exact ⟨rfl, b1⟩
set_option maxHeartbeats 1600000 in
theorem find_some {w : World} {F S : Nat → Prop} {a : Nat} {t : TM} {l : List Chk.Ck} (h : TAt w F S a t l) (id : Int) (k : Nat) (hp : Chk.pos (Chk.ids l) id = some k) (g : Nat) (hA : t.A = some ⟨g, 0, none⟩) :
  Calls Tryz.prog 73 #[.pointer (some ⟨a, 0, none⟩), .int .i64 id] w fun e w' => e = .returned (.pointer (some ⟨g, k * 23, none⟩)) ∧ Below w.heap.size w w' := by
 have hkl := (Chk.pos_lt hp).1
 have hkn : k < t.n := by rw [← h.len.1]; exact hkl
 have hS : decide ((Chk.ids l)[Chk.lb (Chk.ids l) id]? = some id) = true ∧ Chk.lb (Chk.ids l) id = k := by
  rw [Chk.pos_lb h.inv.up] at hp
  by_cases e : (Chk.ids l)[Chk.lb (Chk.ids l) id]? = some id
  ·
   rw [if_pos e] at hp; exact ⟨decide_eq_true e, Option.some.inj hp⟩
  ·
   rw [if_neg e] at hp; cases hp
 have HF := Lib.hid (find_bs h id true hS.1)
 rw [hS.2] at HF
 obtain ⟨c0, _⟩ := h.cells
 rw [hA] at c0 HF
 have e1 : (0 : Int) ≤ (k : Int) := by omega
 have e2 : (k : Int) < (t.n : Int) := by omega
 have HT := Lib.hid h
 obtain ⟨n, hn⟩ : ∃ n, t.n = n := ⟨_, rfl⟩
 obtain ⟨c, hc⟩ : ∃ c, t.c = c := ⟨_, rfl⟩
 rw [hn] at c0 HF e2
 rw [hc] at c0 HF
 have HA := Lib.hid hA
 have HN := Lib.hid hn
 have HC := Lib.hid hc
 clear hS hp h hkl hkn hA hn hc
 go_enter Tryz.func73, Tryz.ntmps73
 go_wp2_with (go_at_call 102; refine HF.out.mono ?_; rintro e w1 ⟨rfl, b1⟩; have c01 : w1.cell? ⟨a, 0, none⟩ = some (.slice (some ⟨g, 0, none⟩) n c) := by have := (HT.out.below b1).cells.1; rw [HA.out, HN.out, HC.out] at this; exact this)
 go_ret
 exact ⟨by simp, b1⟩
end
section
open Go.RowKit
theorem refT : ElemT Tryz.prog 66 76 (.agg #[.int .i64 0, .int .i64 0]) 2 16 := ⟨Tryz.underlying66, by kernel_rfl, rfl, by decide, by decide⟩
theorem chunkT : ElemT Tryz.prog 56 68 (.agg (ckCells ⟨0, List.replicate 16 0, 0, Chk.z, false, []⟩ (.slice none 0 0)).toArray) 23 88 := ⟨Tryz.underlying56, by kernel_rfl, by kernel_rfl, by decide, by decide⟩
theorem intsT : ElemT Tryz.prog 27 3 (.int .i64 0) 1 8 := ⟨Tryz.underlying27, by kernel_rfl, rfl, by decide, by decide⟩
theorem rfs_one (l : List Chk.Rf) : ∀ u ∈ rfs l, u.oneCell' = true := by
 intro u hu
 obtain ⟨r, _, hu⟩ := List.mem_flatMap.1 hu
 simp only [rfCells, List.mem_cons, List.not_mem_nil, or_false] at hu
 rcases hu with rfl | rfl <;> rfl
theorem own_zero' (w : World) (e : TypeId) (size : Nat) : (w.alloc (.cells #[] e)).ownsRow w.heap.size e size (.slice (some ⟨w.heap.size, 0, none⟩) 0 0) 0 [] :=
 ⟨by simp, .inr ⟨w.heap.size, 0, #[], rfl, Nat.le_refl _, heap_alloc_new w _, Nat.le_refl _, by unfold maxLen; omega, by simp, by simp⟩⟩
set_option maxHeartbeats 800000 in
theorem cloneR (A : Option Addr) (n c : Nat) (l : List Chk.Rf) (hl : l.length = n) (hn : n ≤ 65536) (B : Nat) (w : World) (hr : Rd w B 2 A n (rfs l)) (hB : B ≤ w.heap.size) :
  Calls Tryz.prog 100 #[.slice A n c] w fun e w' => ∃ A' c', e = .returned (.slice A' n c') ∧ w'.ownsRow w.heap.size 76 2 (.slice A' n c') n (rfs l) ∧ Below w.heap.size w w' := by
 have he := fun w => Lib.run_eql_slice_nil (P := Tryz.prog) w 66 76 A n c 0 0 Tryz.underlying66
 cases A with
 | none =>
  have h0 : n = 0 := by
   rcases Nat.eq_zero_or_pos n with h | h
   ·
    exact h
   ·
    obtain ⟨b, off, e, _⟩ := hr.2 h; cases e
  subst h0
  obtain rfl : l = [] := List.eq_nil_of_length_eq_zero hl
  go_enter Tryz.func100, Tryz.ntmps100
  go_wp2
  go_ret
  exact ⟨none, 0, rfl, World.ownsRow_nil _ _ _ _, Below.refl _ _⟩
 | some ad =>
  have he := fun w => (he w).trans (show _ = Result.ok (Value.bool false) w from rfl)
  clear hl
  go_enter Tryz.func100, Tryz.ntmps100
  go_wp2_with (at_builtin; refine wpList_appR rfl (.tmp 5) (.tmp 6) 66 rfl w.heap.size 76 _ 2 16 refT (some ⟨w.heap.size, 0, none⟩) 0 0 [] (some ad) n c (rfs l) rfl rfl (own_zero' w _ 2) ((hr.more hB).alloc (Nat.le_refl _) _) (rfs_one _) ((Below.refl _ _).alloc (Nat.le_refl _) _) (by omega) (Nat.le_refl _) (by simp) ?_; intro A1 c1 w1 own1 hb1; simp only [Nat.zero_add, List.nil_append] at own1; simp only [Nat.zero_add])
  go_ret
  exact ⟨A1, c1, rfl, own1, hb1⟩
theorem rfs_id (l : List Chk.Rf) : (l.map rfCells).flatMap id = rfs l := by unfold rfs; rw [List.flatMap_map]; rfl
theorem place_any (A : Option Addr) (n c : Nat) (l : List Chk.Rf) (hl : l.length = n) (hn : n ≤ 65536) (hnc : n ≤ c) (hup : Chk.Up (Chk.keys l)) (B : Nat) (w : World) (hr : Rd w B 2 A n (rfs l)) (hB : B ≤ w.heap.size) (t : Int) (Sf : Bool) (hS : decide ((Chk.keys l)[Chk.lb (Chk.keys l) t]? = some t) = Sf) :
  Calls Tryz.prog 97 #[.slice A n c, .int .i64 t] w fun e w' => e = .returned (.tuple #[.int .i64 (Chk.lb (Chk.keys l) t : Nat), .bool Sf]) ∧ Below w.heap.size w w' := by
 have HB := Lib.hid (bsRf_any A n c hnc (by omega) B (l.map rfCells) (Chk.keys l) (by rw [List.length_map, hl]) (by simp [Chk.keys, hl]) (fun x hx => by obtain ⟨y, _, rfl⟩ := List.mem_map.1 hx; rfl) (fun j x hj => by
  rw [List.getElem?_map] at hj
  obtain ⟨y, hy, rfl⟩ := Option.map_eq_some_iff.1 hj
  have e1 : (Chk.keys l).getD j 0 = y.t := by unfold Chk.keys; rw [List.getD, List.getElem?_map, hy]; rfl
  rw [e1]; rfl) hup t w hB (by rw [rfs_id]; exact hr) Sf hS)
 generalize Chk.lb (Chk.keys l) t = q at HB
 clear hS hup hr
 go_enter Tryz.func97, Tryz.ntmps97
 go_wp2_with (go_at_call 115; refine HB.out.mono ?_; rintro e w1 ⟨rfl, b1⟩)
 go_ret2
 exact ⟨rfl, b1⟩
set_option maxHeartbeats 800000 in
theorem held_any (A : Option Addr) (n c : Nat) (l : List Chk.Rf) (hl : l.length = n) (hn : n ≤ 65536) (hnc : n ≤ c) (hup : Chk.Up (Chk.keys l)) (B : Nat) (w : World) (hr : Rd w B 2 A n (rfs l)) (hB : B ≤ w.heap.size) (t : Int) :
  Calls Tryz.prog 69 #[.slice A n c, .int .i64 t] w fun e w' => e = .returned (.int .i64 (Chk.held l t)) ∧ Below w.heap.size w w' := by
 have HP := Lib.hid (fun Sf hS => place_any A n c l hl hn hnc hup B w hr hB t Sf hS)
 rw [Chk.held_lb hup]
 by_cases hf : (Chk.keys l)[Chk.lb (Chk.keys l) t]? = some t
 ·
  have hlt : Chk.lb (Chk.keys l) t < l.length := by have := (List.getElem?_eq_some_iff.1 hf).1; simpa [Chk.keys] using this
  rw [if_pos hf]
  have HP := Lib.hid (HP.out true (decide_eq_true hf))
  generalize Chk.lb (Chk.keys l) t = q at *
  obtain ⟨b, off, rfl, hb, hrg⟩ := hr.elem (f := rfCells) (fun _ _ => rfl) hlt (by omega)
  obtain ⟨v, hv⟩ : ∃ v, (l.getD q ⟨0, 0⟩).n = v := ⟨_, rfl⟩
  have h1 := hrg 1 (.int .i64 v) (by rw [← hv, List.getD, List.getElem?_eq_getElem hlt]; rfl)
  have HC := Lib.hid (And.intro h1 (show b < w.heap.size by omega))
  rw [hv]
  have e1 : (0 : Int) ≤ (q : Int) := by omega
  have e2 : (q : Int) < (n : Int) := by omega
  clear hv h1 hrg hr hl hf hup hb
  go_enter Tryz.func69, Tryz.ntmps69
  go_wp2_with (go_at_call 97; refine HP.out.mono ?_; rintro e w1 ⟨rfl, b1⟩; have k1 : w1.cell? ⟨b, off + q * 2 + 1, none⟩ = some (.int .i64 v) := (b1.cell (p := ⟨b, off + q * 2 + 1, none⟩) HC.out.2).trans HC.out.1)
  go_ret
  exact ⟨rfl, b1⟩
 ·
  rw [if_neg hf]
  have HP := Lib.hid (HP.out false (decide_eq_false hf))
  generalize Chk.lb (Chk.keys l) t = q at *
  clear hr hl hf hup
  go_enter Tryz.func69, Tryz.ntmps69
  go_wp2_with (go_at_call 97; refine HP.out.mono ?_; rintro e w1 ⟨rfl, b1⟩)
  go_ret
  exact ⟨rfl, b1⟩
theorem total_take (l : List Chk.Rf) {j : Nat} (hj : j < l.length) : Chk.total (l.take (j + 1)) = Chk.total (l.take j) + (l.getD j ⟨0, 0⟩).n := by
 rw [List.take_succ_eq_append_getElem hj, Chk.total_app, List.getD, List.getElem?_eq_getElem hj]; simp [Chk.total]
set_option maxHeartbeats 1600000 in
theorem total_any (A : Option Addr) (n c : Nat) (l : List Chk.Rf) (hl : l.length = n) (hn : n ≤ 65536) (hp : ∀ r ∈ l, 1 ≤ r.n) (ht : Chk.total l ≤ Chk.most) (B : Nat) (w : World) (hr : Rd w B 2 A n (rfs l)) (hB : B ≤ w.heap.size) :
  Calls Tryz.prog 67 #[.slice A n c] w fun e w' => e = .returned (.int .i64 (Chk.total l)) ∧ Below w.heap.size w w' := by
 have HL := Lib.hid (And.intro hl (And.intro hp ht))
 have HR := Lib.hid hr
 clear hl hp ht hr
 go_enter Tryz.func67, Tryz.ntmps67
 go_upto_region 3 with fail
 go_loopw [3, 8] (fun u3 u8 wr => ∃ j : Nat, j ≤ n ∧ u8 = .int .i64 (j : Int) ∧ u3 = .int .i64 (Chk.total (l.take j)) ∧ Hid (Below w.heap.size w wr)) (fun _ u8 _ => n - (intOf u8).toNat)
 case atStart => exact ⟨0, Nat.zero_le _, rfl, rfl, Lib.hid (Below.refl _ _)⟩
 case round =>
  obtain ⟨j, hj, rfl, rfl, HB⟩ := hrel
  obtain ⟨hl, hp, ht⟩ := HL.out
  by_cases hlt : j < n
  ·
   have hjl : j < l.length := by omega
   obtain ⟨b, off, rfl, hb, hrg⟩ := HR.out.elem (f := rfCells) (fun _ _ => rfl) hjl hlt
   have ht1 := total_take l hjl
   have hsub : ∀ i, Chk.total (l.take i) ≤ Chk.total l ∧ 0 ≤ Chk.total (l.take i) := fun i => by
    have h1 := Chk.total_app (l.take i) (l.drop i)
    rw [List.take_append_drop] at h1
    have h2 := Chk.total_nonneg (l := l.drop i) fun r hr => hp r (List.mem_of_mem_drop hr)
    have h3 := Chk.total_nonneg (l := l.take i) fun r hr => hp r (List.mem_of_mem_take hr)
    omega
   have hs0 := hsub j
   have hs1 := hsub (j + 1)
   obtain ⟨r, hr2⟩ : ∃ r, l.getD j ⟨0, 0⟩ = r := ⟨_, rfl⟩
   have hrw : l[j] = r := by rw [← hr2, List.getD, List.getElem?_eq_getElem hjl]; rfl
   rw [hrw] at hrg
   rw [hr2] at ht1
   have k0 : wr.cell? ⟨b, off + j * 2, none⟩ = some (.int .i64 r.t) := (HB.out.cell (p := ⟨b, off + j * 2, none⟩) (show b < w.heap.size by omega)).trans (hrg 0 _ rfl)
   have k1 : wr.cell? ⟨b, off + j * 2 + 1, none⟩ = some (.int .i64 r.n) := (HB.out.cell (p := ⟨b, off + j * 2 + 1, none⟩) (show b < w.heap.size by omega)).trans (hrg 1 _ rfl)
   obtain ⟨T0, hT0⟩ : ∃ x, Chk.total (l.take j) = x := ⟨_, rfl⟩
   obtain ⟨T1, hT1⟩ : ∃ x, Chk.total (l.take (j + 1)) = x := ⟨_, rfl⟩
   rw [hT0] at ht1 hs0
   rw [hT1] at ht1 hs1
   try rw [hT0]
   have e1 : (0 : Int) ≤ (j : Int) := by omega
   have e2 : (j : Int) < (n : Int) := by omega
   have e3 : IntKind.i64.wrap (T0 + r.n) = T1 := by rw [← ht1]; exact IntWalk.i64_in _ (by have : Chk.most = 2147483647 := rfl; omega)
   have HT1 := Lib.hid hT1
   clear hrw hr2 hrg hsub hs0 hs1 ht1 hT0 hT1 hl hp ht hjl hb
   go_wp2_with fail
   go_roundw
   case rel => exact ⟨j + 1, by omega, by go_num, by rw [HT1.out], Lib.hid (HB.out.alloc HB.out.size _)⟩
   case measure => simp [intOf]; omega
  ·
   obtain rfl : j = n := by omega
   have HE : Hid (Chk.total (l.take j) = Chk.total l) := Lib.hid (by rw [List.take_of_length_le (by omega)])
   clear hl hp ht
   go_wp2_with fail
   go_ret
   exact ⟨by rw [HE.out]; rfl, HB.out⟩
end
section
open Go.RowKit
abbrev zCk : List Value := ckCells ⟨0, List.replicate 16 0, 0, Chk.z, false, []⟩ (.slice none 0 0)
theorem infoCk' : (Tryz.prog.info? 68).map (fun i => (i.zero, i.size)) = some (some (.agg zCk.toArray), zCk.length) := by kernel_rfl
end
section
open Go.RowKit
theorem up_len : ∀ {l : List Int} {lo : Int}, Chk.Up l → (∀ a ∈ l, lo ≤ a ∧ a < 16) → lo ≤ 16 → (l.length : Int) ≤ 16 - lo
 | [], lo, _, _, h => by simp; omega
 | b :: l, lo, hu, ha, h => by
  have h2 := List.pairwise_cons.1 hu
  have hb := ha b (List.mem_cons_self ..)
  have := up_len (lo := b + 1) h2.2 (fun a hm => ⟨by have := h2.1 a hm; omega, (ha a (List.mem_cons_of_mem _ hm)).2⟩) (by omega)
  rw [List.length_cons]; push_cast; omega
theorem refs_len {l : List Chk.Rf} (h : Chk.RefsOk l) : l.length ≤ 16 := by
 have := up_len (lo := 0) h.up (fun a ha => by
  obtain ⟨r, hr, rfl⟩ := List.mem_map.1 ha
  have := h.ten r hr
  unfold Chk.tenant Chk.inR at this
  omega) (by decide)
 simp [Chk.keys] at this
 omega
theorem size16d : (Tryz.prog.info? 60).map (·.size) = some 16 := by kernel_rfl
end
section
open Go.RowKit
theorem within_any (n m : Int) (w : World) (S : Bool) (hS : decide (Chk.inR n m) = S) : Calls Tryz.prog 94 #[.int .i64 n, .int .i64 m] w fun e w' => e = .returned (.bool S) ∧ w' = w := by
 by_cases h0 : 0 ≤ n
 ·
  by_cases h1 : n < m
  ·
   obtain rfl : S = true := by rw [← hS]; exact decide_eq_true ⟨h0, h1⟩
   clear hS
   go_enter Tryz.func94, Tryz.ntmps94
   go_wp2
   go_ret
   exact ⟨rfl, rfl⟩
  ·
   obtain rfl : S = false := by rw [← hS]; exact decide_eq_false fun e => h1 e.2
   clear hS
   go_enter Tryz.func94, Tryz.ntmps94
   go_wp2
   go_ret
   exact ⟨rfl, rfl⟩
 ·
  obtain rfl : S = false := by rw [← hS]; exact decide_eq_false fun e => h0 e.1
  clear hS
  go_enter Tryz.func94, Tryz.ntmps94
  go_wp2
  go_ret
  exact ⟨rfl, rfl⟩
theorem tenant_any (n : Int) (w : World) (S : Bool) (hS : decide (Chk.tenant n) = S) : Calls Tryz.prog 62 #[.int .i64 n] w fun e w' => e = .returned (.bool S) ∧ w' = w := by
 by_cases h0 : 0 ≤ n
 ·
  by_cases h1 : n < 16
  ·
   obtain rfl : S = true := by rw [← hS]; exact decide_eq_true ⟨h0, h1⟩
   clear hS
   go_enter Tryz.func62, Tryz.ntmps62
   go_wp2
   go_ret
   exact ⟨rfl, rfl⟩
  ·
   obtain rfl : S = false := by rw [← hS]; exact decide_eq_false fun e => h1 e.2
   clear hS
   go_enter Tryz.func62, Tryz.ntmps62
   go_wp2
   go_ret
   exact ⟨rfl, rfl⟩
 ·
  obtain rfl : S = false := by rw [← hS]; exact decide_eq_false fun e => h0 e.1
  clear hS
  go_enter Tryz.func62, Tryz.ntmps62
  go_wp2
  go_ret
  exact ⟨rfl, rfl⟩
set_option maxHeartbeats 800000 in
theorem valid_any (u : Chk.Un) (w : World) (S : Bool) (hS : decide (Chk.valid u) = S) : Calls Tryz.prog 61 #[unV u] w fun e w' => e = .returned (.bool S) ∧ Below w.heap.size w w' := by
 obtain ⟨r, g, n⟩ := u
 unfold unV
 obtain ⟨s1, h1⟩ : ∃ s, decide (Chk.inR r 4096) = s := ⟨_, rfl⟩
 obtain ⟨s2, h2⟩ : ∃ s, decide (Chk.inR g 64) = s := ⟨_, rfl⟩
 obtain ⟨s3, h3⟩ : ∃ s, decide (Chk.inR n 32) = s := ⟨_, rfl⟩
 have HS : Hid (S = (s1 && (s2 && s3))) := Lib.hid (by
  rw [← hS, ← h1, ← h2, ← h3]
  unfold Chk.valid
  rw [Bool.eq_iff_iff]
  simp only [Bool.and_eq_true, decide_eq_true_eq]
  exact ⟨fun h => of_decide_eq_true h, fun h => decide_eq_true h⟩)
 have H1 := Lib.hid (fun W => within_any r 4096 W s1 h1)
 have H2 := Lib.hid (fun W => within_any g 64 W s2 h2)
 have H3 := Lib.hid (fun W => within_any n 32 W s3 h3)
 clear hS h1 h2 h3
 cases s1
 ·
  obtain rfl : S = false := HS.out
  go_enter Tryz.func61, Tryz.ntmps61
  go_wp2_with (go_at_call 94; refine (H1.out _).mono ?_; rintro e w' ⟨rfl, rfl⟩)
  go_ret
  exact ⟨rfl, (Below.refl _ _).alloc (Nat.le_refl _) _⟩
 ·
  cases s2
  ·
   obtain rfl : S = false := HS.out
   go_enter Tryz.func61, Tryz.ntmps61
   go_wp2_with (first
    | (go_at_call 94; ((with_reducible refine (H1.out _).mono ?_); rintro e w' ⟨rfl, rfl⟩))
    | (go_at_call 94; refine (H2.out _).mono ?_; rintro e w' ⟨rfl, rfl⟩))
   go_ret
   exact ⟨rfl, (Below.refl _ _).alloc (Nat.le_refl _) _⟩
  ·
   obtain rfl : S = s3 := HS.out
   go_enter Tryz.func61, Tryz.ntmps61
   go_wp2_with (first
    | (go_at_call 94; ((with_reducible refine (H1.out _).mono ?_); rintro e w' ⟨rfl, rfl⟩))
    | (go_at_call 94; ((with_reducible refine (H2.out _).mono ?_); rintro e w' ⟨rfl, rfl⟩))
    | (go_at_call 94; refine (H3.out _).mono ?_; rintro e w' ⟨rfl, rfl⟩))
   go_ret
   exact ⟨rfl, (Below.refl _ _).alloc (Nat.le_refl _) _⟩
theorem zeroInt (w : World) : (zeroValue 3).run Tryz.prog w = .ok (.int .i64 0) w := by kernel_rfl
theorem TAt.look {w : World} {F S : Nat → Prop} {a : Nat} {t : TM} {l : List Chk.Ck} (h : TAt w F S a t l) (u : Chk.Un) (W : World) (hW : Below w.heap.size w W) :
  (Instr.lookup 114 (.map (some t.m)) (unV u) true).run Tryz.prog W = .ok (.tuple #[.int .i64 ((Chk.unitAt l u).getD 0), .bool (Chk.unitAt l u).isSome]) W := by
 have := (h.below hW).map.look keyT_un Tryz.underlying114 (zeroInt W) u true
 rw [this]
 unfold unM
 cases Chk.unitAt l u <;> rfl
def Chk.live (l : List Chk.Ck) (r g : Int) : List Int := (List.range 32).flatMap fun n => (Chk.unitAt l ⟨r, g, (n : Nat)⟩).toList
def liveN (l : List Chk.Ck) (r g : Int) (k : Nat) : List Int := (List.range k).flatMap fun n => (Chk.unitAt l ⟨r, g, (n : Nat)⟩).toList
theorem liveN_succ (l : List Chk.Ck) (r g : Int) (k : Nat) : liveN l r g (k + 1) = liveN l r g k ++ (Chk.unitAt l ⟨r, g, (k : Nat)⟩).toList := by
 unfold liveN; rw [List.range_succ, List.flatMap_append]; simp
theorem liveN_le (l : List Chk.Ck) (r g : Int) : ∀ k, (liveN l r g k).length ≤ k
 | 0 => by simp [liveN]
 | k + 1 => by
  rw [liveN_succ, List.length_append]
  have := liveN_le l r g k
  have : (Chk.unitAt l ⟨r, g, (k : Nat)⟩).toList.length ≤ 1 := by cases Chk.unitAt l ⟨r, g, (k : Nat)⟩ <;> simp
  omega
set_option maxRecDepth 100000 in
set_option maxHeartbeats 1600000 in
theorem live_any {w : World} {F S : Nat → Prop} {a : Nat} {t : TM} {l : List Chk.Ck} (h : TAt w F S a t l) (r g : Int) :
  Calls Tryz.prog 107 #[.pointer (some ⟨a, 0, none⟩), .agg #[.int .i64 r, .int .i64 g]] w fun e w' => ∃ A c, e = .returned (.slice A (Chk.live l r g).length c) ∧ w'.ownsRow w.heap.size 3 1 (.slice A (Chk.live l r g).length c) (Chk.live l r g).length (ivs (Chk.live l r g)) ∧ Below w.heap.size w w' := by
 have hlt := h.row.lt
 obtain ⟨_, c1⟩ := h.cells
 have HK := Lib.hid (fun u W hW => h.look u W hW)
 obtain ⟨m, hm⟩ : ∃ m, t.m = m := ⟨_, rfl⟩
 rw [hm] at c1 HK
 have HC := Lib.hid (And.intro c1 hlt)
 have hb0 : Below w.heap.size w (w.alloc (.cells #[.int .i64 r, .int .i64 g] 63)) := (Below.refl _ w).alloc (Nat.le_refl _) _
 have k0 : (w.alloc (.cells #[.int .i64 r, .int .i64 g] 63)).cell? ⟨w.heap.size, 0, none⟩ = some (.int .i64 r) := (IsRow.new w 63 [.int .i64 r, .int .i64 g]).cell 0
 have k1 : (w.alloc (.cells #[.int .i64 r, .int .i64 g] 63)).cell? ⟨w.heap.size, 1, none⟩ = some (.int .i64 g) := (IsRow.new w 63 [.int .i64 r, .int .i64 g]).cell 1
 obtain ⟨w0, hw0⟩ : ∃ x, w.alloc (.cells #[.int .i64 r, .int .i64 g] 63) = x := ⟨_, rfl⟩
 rw [hw0] at hb0 k0 k1
 have hs0 : w0.heap.size = w.heap.size + 1 := by rw [← hw0]; simp
 have HW0 := Lib.hid hw0
 have HB0 := Lib.hid hb0
 have HS0 := Lib.hid hs0
 have HKK := Lib.hid (And.intro k0 k1)
 clear hw0 hb0 hs0 k0 k1 c1 hlt hm h
 go_enter Tryz.func107, Tryz.ntmps107
 go_upto_region 1 with fail
 rw [HW0.out]
 go_upto_region 3 with fail
 go_loopw [5, 9] (fun u5 u9 wr => ∃ (j M : Nat) (A3 : Option Addr) (c3 : Nat), j ≤ 32 ∧ u9 = .int .i64 (j : Int) ∧ u5 = .slice A3 M c3 ∧ Hid (M = (liveN l r g j).length) ∧ Hid (wr.ownsRow w0.heap.size 3 1 (.slice A3 M c3) M (ivs (liveN l r g j))) ∧ Hid (Below w0.heap.size w0 wr)) (fun _ u9 _ => 32 - (intOf u9).toNat)
 case atStart => exact ⟨0, 0, none, 0, Nat.zero_le _, rfl, rfl, Lib.hid rfl, Lib.hid (World.ownsRow_nil _ _ _ _), Lib.hid (Below.refl _ _)⟩
 case round =>
  obtain ⟨j, M, A3, c3, hj, rfl, rfl, HM, HO, HBX⟩ := hrel
  have HB := Lib.hid (HB0.out.trans (HBX.out.mono HB0.out.size))
  by_cases hlt : j < 32
  ·
   have q0 : wr.cell? ⟨w.heap.size, 0, none⟩ = some (.int .i64 r) := (HBX.out.cell (p := ⟨w.heap.size, 0, none⟩) (show w.heap.size < _ by have := HS0.out; omega)).trans HKK.out.1
   have q1 : wr.cell? ⟨w.heap.size, 1, none⟩ = some (.int .i64 g) := (HBX.out.cell (p := ⟨w.heap.size, 1, none⟩) (show w.heap.size < _ by have := HS0.out; omega)).trans HKK.out.2
   have q2 : wr.cell? ⟨a, 1, none⟩ = some (.map (some m)) := (HB.out.cell (p := ⟨a, 1, none⟩) HC.out.2).trans HC.out.1
   have e2 : (j : Int) < 32 := by omega
   have hk := fun n => HK.out ⟨r, g, (j : Nat)⟩ (wr.drewN n) (below_drewN HB.out n)
   unfold unV at hk
   have hln := liveN_succ l r g j
   have hle := liveN_le l r g j
   have HML := Lib.hid (show M ≤ 32 by rw [HM.out]; omega)
   cases hu : Chk.unitAt l ⟨r, g, (j : Nat)⟩ with
   | none =>
    rw [hu] at hk hln
    have hk : ∀ n, (Instr.lookup 114 (.map (some m)) (.agg #[.int .i64 r, .int .i64 g, .int .i64 (j : Int)]) true).run Tryz.prog (wr.drewN n) = .ok (.tuple #[.int .i64 0, .bool false]) (wr.drewN n) := hk
    have HLN : Hid (liveN l r g (j + 1) = liveN l r g j) := Lib.hid (by rw [hln]; simp)
    clear hln hle hu
    go_wp2_with fail
    go_quiet (fail)
    go_wp2_with fail
    go_roundw
    case rel => exact ⟨j + 1, M, A3, c3, by omega, by go_num, rfl, Lib.hid (by rw [HLN.out]; exact HM.out), Lib.hid (by rw [HLN.out]; exact own_drewN HO.out _), Lib.hid (below_drewN HBX.out _)⟩
    case measure => simp [intOf]; omega
   | some v =>
    rw [hu] at hk hln
    have hk : ∀ n, (Instr.lookup 114 (.map (some m)) (.agg #[.int .i64 r, .int .i64 g, .int .i64 (j : Int)]) true).run Tryz.prog (wr.drewN n) = .ok (.tuple #[.int .i64 v, .bool true]) (wr.drewN n) := hk
    have HLN : Hid (liveN l r g (j + 1) = liveN l r g j ++ [v]) := Lib.hid (by rw [hln]; simp)
    clear hln hle hu
    go_wp2_with fail
    go_quiet (fail)
    go_wp2_with (at_builtin; refine wpList_app1 rfl (.tmp 24) (.tmp 26) 27 rfl w0.heap.size 3 _ 8 intsT A3 M c3 (ivs (liveN l r g j)) (.int .i64 v) rfl rfl (own_drewN HO.out _) (below_drewN HBX.out _) rfl (by have := HML.out; omega) (Nat.le_refl _) HBX.out.size ?_; intro g4 c4 w4 own4 hb4 hg4; rw [ivs_snoc _ v rfl, ← HLN.out] at own4; have HO4 := Lib.hid own4; have HB4 := Lib.hid hb4; clear own4 hb4 hg4)
    go_roundw
    case rel => exact ⟨j + 1, M + 1, some ⟨g4, 0, none⟩, c4, by omega, by go_num, rfl, Lib.hid (by rw [HLN.out, List.length_append, ← HM.out]; rfl), HO4, HB4⟩
    case measure => simp [intOf]; omega
  ·
   obtain rfl : j = 32 := by omega
   go_wp2_with fail
   go_ret
   have hm := HM.out
   have ho := HO.out
   have e : liveN l r g 32 = Chk.live l r g := rfl
   rw [e] at hm ho
   subst hm
   exact ⟨A3, c3, rfl, own_base ho (by have := HS0.out; omega), HB.out⟩
end
end Go.Proofs.YtfllkaeaanahmaaGreat
