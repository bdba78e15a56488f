/- Joined texts: ChkRD, ChkRE. Conditions: as each part says. -/
import Derived.Test.YtfllkaeaanahmaaGreatChkR1
namespace Go.Proofs.YtfllkaeaanahmaaGreat
set_option linter.unusedVariables false
set_option linter.unusedSimpArgs false
section
open Go.RowKit
theorem rtenant_any (n : Int) (w : World) (S : Bool) (hS : decide (Chk.tenant n) = S) : Calls Tryz.prog 90 #[.int .i64 n] w fun e w' => e = .returned (.bool S) ∧ w' = w := by
 by_cases h0 : 0 ≤ n
 ·
  by_cases h1 : n < 16
  ·
   obtain rfl : S = true := by rw [← hS]; exact decide_eq_true ⟨h0, h1⟩
   clear hS
   go_enter Tryz.func90, Tryz.ntmps90
   go_wp2
   go_ret
   exact ⟨rfl, rfl⟩
  ·
   obtain rfl : S = false := by rw [← hS]; exact decide_eq_false fun e => h1 e.2
   clear hS
   go_enter Tryz.func90, Tryz.ntmps90
   go_wp2
   go_ret
   exact ⟨rfl, rfl⟩
 ·
  obtain rfl : S = false := by rw [← hS]; exact decide_eq_false fun e => h0 e.1
  clear hS
  go_enter Tryz.func90, Tryz.ntmps90
  go_wp2
  go_ret
  exact ⟨rfl, rfl⟩
set_option maxHeartbeats 1600000 in
theorem rtotal_any (A : Option Addr) (n c : Nat) (l : List Chk.Rf) (hl : l.length = n) (hn : n ≤ 65536) (hp : ∀ r ∈ l, 1 ≤ r.n) (ht : Chk.total l ≤ Chk.most) (B : Nat) (w : World) (hr : Rd w B 2 A n (rfs l)) (T : Int) (hT : Chk.total l = T) :
  Calls Tryz.prog 91 #[.slice A n c] w fun e w' => e = .returned (.int .i64 T) ∧ w' = w := by
 have HL := Lib.hid (And.intro hl (And.intro hp ht))
 have HR := Lib.hid hr
 have HT := Lib.hid hT
 clear hl hp ht hr hT
 go_enter Tryz.func91, Tryz.ntmps91
 go_upto_region 3 with fail
 go_loop [3, 4] (fun u3 u4 => ∃ j : Nat, j ≤ n ∧ u4 = .int .i64 (j : Int) ∧ u3 = .int .i64 (Chk.total (l.take j))) (fun _ u4 => n - (intOf u4).toNat)
 case atStart => exact ⟨0, Nat.zero_le _, rfl, rfl⟩
 case round =>
  obtain ⟨j, hj, rfl, rfl⟩ := hrel
  obtain ⟨hl, hp, ht⟩ := HL.out
  by_cases hlt : j < n
  ·
   have hjl : j < l.length := by omega
   obtain ⟨b, off, rfl, hb, hrg⟩ := HR.out.elem (f := rfCells) (fun _ _ => rfl) hjl hlt
   have ht1 := total_take l hjl
   have hsub : ∀ i, Chk.total (l.take i) ≤ Chk.total l ∧ 0 ≤ Chk.total (l.take i) := fun i => by
    have h1 := Chk.total_app (l.take i) (l.drop i)
    rw [List.take_append_drop] at h1
    have h2 := Chk.total_nonneg (l := l.drop i) fun r hr => hp r (List.mem_of_mem_drop hr)
    have h3 := Chk.total_nonneg (l := l.take i) fun r hr => hp r (List.mem_of_mem_take hr)
    omega
   have hs0 := hsub j
   have hs1 := hsub (j + 1)
   obtain ⟨r, hr2⟩ : ∃ r, l.getD j ⟨0, 0⟩ = r := ⟨_, rfl⟩
   have hrw : l[j] = r := by rw [← hr2, List.getD, List.getElem?_eq_getElem hjl]; rfl
   rw [hrw] at hrg
   rw [hr2] at ht1
   have k1 : w.cell? ⟨b, off + j * 2 + 1, none⟩ = some (.int .i64 r.n) := hrg 1 _ rfl
   obtain ⟨T0, hT0⟩ : ∃ x, Chk.total (l.take j) = x := ⟨_, rfl⟩
   obtain ⟨T1, hT1⟩ : ∃ x, Chk.total (l.take (j + 1)) = x := ⟨_, rfl⟩
   rw [hT0] at ht1 hs0
   rw [hT1] at ht1 hs1
   try rw [hT0]
   have e1 : (0 : Int) ≤ (j : Int) := by omega
   have e2 : (j : Int) < (n : Int) := by omega
   have e3 : IntKind.i64.wrap (T0 + r.n) = T1 := by rw [← ht1]; exact IntWalk.i64_in _ (by have : Chk.most = 2147483647 := rfl; omega)
   have HT1 := Lib.hid hT1
   clear hrw hr2 hrg hsub hs0 hs1 ht1 hT0 hT1 hl hp ht hjl hb
   go_wp2
   go_round
   case rel => exact ⟨j + 1, by omega, by go_num, by rw [HT1.out]⟩
   case measure => simp [intOf]; omega
  ·
   obtain rfl : j = n := by omega
   have HE : Hid (Chk.total (l.take j) = T) := Lib.hid (by rw [List.take_of_length_le (by omega)]; exact HT.out)
   clear hl hp ht
   go_wp2
   go_ret
   exact ⟨by rw [HE.out]; rfl, rfl⟩
namespace Chk
def withJ (l : List Rf) (t n : Int) (j : Nat) : List Rf := l.takeWhile (fun r => decide (r.t < t)) ++ ((if 0 < n then [⟨t, n⟩] else []) ++ (l.take j).filter (fun r => decide (t < r.t)))
theorem withJ_all {l : List Rf} {t n : Int} {j : Nat} (h : l.length ≤ j) : withJ l t n j = withR l t n := by unfold withJ withR; rw [List.take_of_length_le h]
theorem withJ_yes {l : List Rf} {t n : Int} {j : Nat} (h : j < l.length) (ht : t < l[j].t) : withJ l t n (j + 1) = withJ l t n j ++ [l[j]] := by
 unfold withJ
 rw [List.take_succ_eq_append_getElem h, List.filter_append, List.append_assoc, List.append_assoc]
 congr 2
 rw [List.filter_cons, if_pos (by simpa using ht)]; rfl
theorem withJ_no {l : List Rf} {t n : Int} {j : Nat} (h : j < l.length) (ht : ¬ t < l[j].t) : withJ l t n (j + 1) = withJ l t n j := by
 unfold withJ
 have e : List.filter (fun r : Rf => decide (t < r.t)) [l[j]] = [] := by rw [List.filter_cons_of_neg (by simpa using ht)]; rfl
 rw [List.take_succ_eq_append_getElem h, List.filter_append, e, List.append_nil]
theorem withJ_len (l : List Rf) (t n : Int) (j : Nat) : (withJ l t n j).length ≤ l.length + 1 + j := by
 unfold withJ
 rw [List.length_append, List.length_append]
 have h1 := (List.takeWhile_sublist (l := l) (fun r => decide (r.t < t))).length_le
 have h2 : ((if 0 < n then [(⟨t, n⟩ : Rf)] else [])).length ≤ 1 := by by_cases h : 0 < n <;> simp [h]
 have h3 := List.length_filter_le (fun r : Rf => decide (t < r.t)) (l.take j)
 rw [List.length_take] at h3
 omega
theorem tw_take {l : List Rf} {t : Int} {p : Nat} (hp : (l.takeWhile (fun r => decide (r.t < t))).length = p) : l.takeWhile (fun r => decide (r.t < t)) = l.take p := by
 subst hp
 have := List.takeWhile_prefix (l := l) (fun r => decide (r.t < t))
 exact (List.prefix_iff_eq_take.1 this)
theorem tw_lt {l : List Rf} {t : Int} {p : Nat} (hp : (l.takeWhile (fun r => decide (r.t < t))).length = p) {j : Nat} (hj : j < p) (hl : j < l.length) : l[j].t < t := by
 have h1 : l[j] ∈ l.takeWhile (fun r => decide (r.t < t)) := by
  rw [tw_take hp]
  exact List.mem_take_iff_getElem.2 ⟨j, by omega, rfl⟩
 exact mem_takeWhile_lt _ h1
theorem tw_ge : ∀ {l : List Rf} {t : Int} {p : Nat}, (l.takeWhile (fun r => decide (r.t < t))).length = p → (hl : p < l.length) → ¬ l[p].t < t
 | [], _, _, _, hl => by simp at hl
 | r :: l, t, p, hp, hl => by
  rw [List.takeWhile_cons] at hp
  by_cases h : r.t < t
  ·
   rw [if_pos (by simpa using h), List.length_cons] at hp
   cases p with
   | zero => omega
   | succ p => exact tw_ge (l := l) (by omega) (by simpa using hl)
  ·
   rw [if_neg (by simpa using h)] at hp
   simp at hp; subst hp; exact h
theorem tw_le (l : List Rf) (t : Int) : (l.takeWhile (fun r => decide (r.t < t))).length ≤ l.length := (List.takeWhile_sublist _).length_le
end Chk
theorem rf_one (x y : Int) : ∀ u ∈ ([.int .i64 x, .int .i64 y] : List Value), u.oneCell' = true := by
 intro u hu; simp only [List.mem_cons, List.not_mem_nil, or_false] at hu; rcases hu with rfl | rfl <;> rfl
def RWithRes (w : World) (l : List Chk.Rf) (e : Ending) (w' : World) : Prop := ∃ A c, e = .returned (.slice A l.length c) ∧ w'.ownsRow w.heap.size 76 2 (.slice A l.length c) l.length (rfs l) ∧ Below w.heap.size w w'
set_option maxRecDepth 100000 in
set_option maxHeartbeats 3200000 in
theorem rwith_fp (A : Option Addr) (n c : Nat) (l : List Chk.Rf) (hl : l.length = n) (hn : n ≤ 1000) (w : World) (hr : Rd w w.heap.size 2 A n (rfs l)) (t m : Int) (p : Nat) (hp : (l.takeWhile (fun r => decide (r.t < t))).length = p) (hpn : p = n) (hm : 0 < m) :
  Calls Tryz.prog 92 #[.slice A n c, .int .i64 t, .int .i64 m] w (RWithRes w (Chk.withR l t m)) := by
 have HR := Lib.hid hr
 have HL := Lib.hid hl
 have HP := Lib.hid hp
 have HMID : Hid (Chk.withJ l t m 0 = l.take p ++ [⟨t, m⟩]) := Lib.hid (by unfold Chk.withJ; rw [Chk.tw_take hp, if_pos hm]; simp)
 subst hpn
 clear hr hl hp
 go_enter Tryz.func92, Tryz.ntmps92
 go_upto_region 3 with fail
 go_loopw [7, 8] (fun u7 u8 wr => ∃ (j : Nat) (A3 : Option Addr) (c3 : Nat), j ≤ p ∧ u8 = .int .i64 (j : Int) ∧ u7 = .slice A3 j c3 ∧ Hid (wr.ownsRow w.heap.size 76 2 (.slice A3 j c3) j (rfs (l.take j))) ∧ Hid (Below w.heap.size w wr)) (fun _ u8 _ => p - (intOf u8).toNat)
 case atStart => exact ⟨0, none, 0, Nat.zero_le _, rfl, rfl, Lib.hid (World.ownsRow_nil _ _ _ _), Lib.hid (Below.refl _ _)⟩
 case round =>
  obtain ⟨j, A3, c3, hj, rfl, rfl, HO, HB⟩ := hrel
  by_cases hlt : j < p
  ·
   have hjl : j < l.length := by rw [HL.out]; omega
   have hjn : j < p := by omega
   obtain ⟨b, off, rfl, hbb, hrg⟩ := HR.out.elem (f := rfCells) (fun _ _ => rfl) hjl hjn
   have k0 : wr.cell? ⟨b, off + j * 2, none⟩ = some (.int .i64 (l[j]).t) := (HB.out.cell (p := ⟨b, off + j * 2, none⟩) hbb).trans (hrg 0 _ rfl)
   have k1 : wr.cell? ⟨b, off + j * 2 + 1, none⟩ = some (.int .i64 (l[j]).n) := (HB.out.cell (p := ⟨b, off + j * 2 + 1, none⟩) hbb).trans (hrg 1 _ rfl)
   have hx := Chk.tw_lt HP.out hlt hjl
   have hsn : rfs (l.take (j + 1)) = rfs (l.take j) ++ [.int .i64 (l[j]).t, .int .i64 (l[j]).n] := by rw [List.take_succ_eq_append_getElem hjl, rfs_app]; rfl
   obtain ⟨x, hxx⟩ : ∃ y, (l[j]).t = y := ⟨_, rfl⟩
   obtain ⟨y, hyy⟩ : ∃ y, (l[j]).n = y := ⟨_, rfl⟩
   rw [hxx] at k0 hx hsn
   rw [hyy] at k1 hsn
   have HSN := Lib.hid hsn
   have e1 : (0 : Int) ≤ (j : Int) := by omega
   have e2 : (j : Int) < (p : Int) := by omega
   clear hrg hxx hyy hsn hjl hbb
   go_wp2_with (at_builtin; refine wpList_appN rfl (.tmp 25) (.tmp 30) 66 rfl w.heap.size 76 _ 2 16 refT A3 j c3 (rfs (l.take j)) [.int .i64 x, .int .i64 y] _ rfl rfl rfl HO.out HB.out rfl (rf_one _ _) (by omega) (Nat.le_refl _) HB.out.size ?_; intro g4 c4 w4 own4 hb4 hg4; rw [← HSN.out] at own4; have HO4 := Lib.hid own4; have HB4 := Lib.hid hb4; clear own4 hb4 hg4)
   go_roundw
   case rel => exact ⟨j + 1, some ⟨g4, 0, none⟩, c4, by omega, by go_num, rfl, HO4, HB4⟩
   case measure => simp [intOf]; omega
  ·
   obtain rfl : j = p := by omega
   go_upto_region 9 with (at_builtin; refine wpList_appN rfl (.tmp 34) (.tmp 38) 66 rfl w.heap.size 76 _ 2 16 refT A3 j c3 (rfs (l.take j)) [.int .i64 t, .int .i64 m] _ rfl rfl rfl HO.out HB.out rfl (rf_one _ _) (by omega) (Nat.le_refl _) HB.out.size ?_; intro g4 c4 w4 own4 hb4 hg4; have HO4 : Hid (w4.ownsRow w.heap.size 76 2 (.slice (some ⟨g4, 0, none⟩) (j + 1) c4) (j + 1) (rfs (Chk.withJ l t m 0))) := Lib.hid (by rw [HMID.out, rfs_app]; exact own4); have HB4 := Lib.hid hb4; clear own4 hb4 hg4)
   go_loopw [7, 9] (fun u7 u9 wx => ∃ (wy : World) (i L : Nat) (A5 : Option Addr) (c5 : Nat), wy = wx ∧ i ≤ j ∧ u9 = .int .i64 (i : Int) ∧ u7 = .slice A5 L c5 ∧ Hid (L = (Chk.withJ l t m i).length) ∧ Hid (wy.ownsRow w.heap.size 76 2 (.slice A5 L c5) L (rfs (Chk.withJ l t m i))) ∧ Hid (Below w.heap.size w wy)) (fun _ u9 _ => j - (intOf u9).toNat)
   case atStart => exact ⟨_, 0, j + 1, some ⟨g4, 0, none⟩, c4, rfl, Nat.zero_le _, rfl, by go_num, Lib.hid (by rw [HMID.out]; simp; rw [HL.out]; omega), HO4, HB4⟩
   case round =>
    obtain ⟨wy, i, L, A5, c5, rfl, hi, rfl, rfl, HLL, HO5, HB5⟩ := hrel
    by_cases hil : i < j
    ·
     have hjl : i < l.length := by rw [HL.out]; omega
     obtain ⟨b, off, rfl, hbb, hrg⟩ := HR.out.elem (f := rfCells) (fun _ _ => rfl) hjl hil
     have k0 : wy.cell? ⟨b, off + i * 2, none⟩ = some (.int .i64 (l[i]).t) := (HB5.out.cell (p := ⟨b, off + i * 2, none⟩) hbb).trans (hrg 0 _ rfl)
     have k1 : wy.cell? ⟨b, off + i * 2 + 1, none⟩ = some (.int .i64 (l[i]).n) := (HB5.out.cell (p := ⟨b, off + i * 2 + 1, none⟩) hbb).trans (hrg 1 _ rfl)
     have hyes := Chk.withJ_yes (t := t) (n := m) hjl
     have hno := Chk.withJ_no (t := t) (n := m) hjl
     have hle := Chk.withJ_len l t m i
     have HLB : Hid (L ≤ 4000) := Lib.hid (by rw [HLL.out]; rw [HL.out] at hle; omega)
     have hcell : rfs [l[i]] = [.int .i64 (l[i]).t, .int .i64 (l[i]).n] := rfl
     obtain ⟨rr, hrr⟩ : ∃ y, l[i] = y := ⟨_, rfl⟩
     rw [hrr] at k0 k1 hyes hno hcell
     obtain ⟨x, hxx⟩ : ∃ y, rr.t = y := ⟨_, rfl⟩
     obtain ⟨y, hyy⟩ : ∃ y, rr.n = y := ⟨_, rfl⟩
     rw [hxx] at k0 hyes hno hcell
     rw [hyy] at k1 hcell
     have e1 : (0 : Int) ≤ (i : Int) := by omega
     have e2 : (i : Int) < (j : Int) := by omega
     by_cases hx : t < x
     ·
      have HY : Hid (Chk.withJ l t m (i + 1) = Chk.withJ l t m i ++ [rr] ∧ rfs [rr] = [.int .i64 x, .int .i64 y]) := Lib.hid ⟨hyes hx, hcell⟩
      have hlb := HLB.out
      clear hrg hxx hyy hyes hno hcell hrr hle hjl hbb
      go_wp2_with (at_builtin; refine wpList_appN rfl (.tmp 53) (.tmp 58) 66 rfl w.heap.size 76 _ 2 16 refT A5 L c5 (rfs (Chk.withJ l t m i)) [.int .i64 x, .int .i64 y] _ rfl rfl rfl HO5.out HB5.out rfl (rf_one _ _) (by omega) (Nat.le_refl _) HB5.out.size ?_; intro g6 c6 w6 own4 hb4 hg6; rw [← HY.out.2, ← rfs_app, ← HY.out.1] at own4; have HO6 := Lib.hid own4; have HB6 := Lib.hid hb4; clear own4 hb4 hg6)
      go_roundw
      case rel => exact ⟨_, i + 1, L + 1, some ⟨g6, 0, none⟩, c6, rfl, by omega, by go_num, rfl, Lib.hid (by rw [HY.out.1, List.length_append, ← HLL.out]; rfl), HO6, HB6⟩
      case measure => simp [intOf]; omega
     ·
      have HY : Hid (Chk.withJ l t m (i + 1) = Chk.withJ l t m i) := Lib.hid (hno hx)
      clear hrg hxx hyy hyes hno hcell hrr hle hjl hbb
      go_wp2_with fail
      go_roundw
      case rel => exact ⟨_, i + 1, L, A5, c5, rfl, by omega, by go_num, rfl, Lib.hid (by rw [HY.out]; exact HLL.out), Lib.hid (by rw [HY.out]; exact HO5.out), HB5⟩
      case measure => simp [intOf]; omega
    ·
     obtain rfl : i = j := by omega
     have HE := Lib.hid (Chk.withJ_all (l := l) (t := t) (n := m) (j := i) (by rw [HL.out]; exact Nat.le_refl _))
     go_wp2_with fail
     go_ret
     have h1 := HLL.out
     have h2 := HO5.out
     rw [HE.out] at h1 h2
     subst h1
     exact ⟨A5, c5, rfl, h2, HB5.out⟩
set_option maxRecDepth 100000 in
set_option maxHeartbeats 3200000 in
theorem rwith_fz (A : Option Addr) (n c : Nat) (l : List Chk.Rf) (hl : l.length = n) (hn : n ≤ 1000) (w : World) (hr : Rd w w.heap.size 2 A n (rfs l)) (t m : Int) (p : Nat) (hp : (l.takeWhile (fun r => decide (r.t < t))).length = p) (hpn : p = n) (hm : ¬ 0 < m) :
  Calls Tryz.prog 92 #[.slice A n c, .int .i64 t, .int .i64 m] w (RWithRes w (Chk.withR l t m)) := by
 have HR := Lib.hid hr
 have HL := Lib.hid hl
 have HP := Lib.hid hp
 have HMID : Hid (Chk.withJ l t m 0 = l.take p) := Lib.hid (by unfold Chk.withJ; rw [Chk.tw_take hp, if_neg hm]; simp)
 subst hpn
 clear hr hl hp
 go_enter Tryz.func92, Tryz.ntmps92
 go_upto_region 3 with fail
 go_loopw [7, 8] (fun u7 u8 wr => ∃ (j : Nat) (A3 : Option Addr) (c3 : Nat), j ≤ p ∧ u8 = .int .i64 (j : Int) ∧ u7 = .slice A3 j c3 ∧ Hid (wr.ownsRow w.heap.size 76 2 (.slice A3 j c3) j (rfs (l.take j))) ∧ Hid (Below w.heap.size w wr)) (fun _ u8 _ => p - (intOf u8).toNat)
 case atStart => exact ⟨0, none, 0, Nat.zero_le _, rfl, rfl, Lib.hid (World.ownsRow_nil _ _ _ _), Lib.hid (Below.refl _ _)⟩
 case round =>
  obtain ⟨j, A3, c3, hj, rfl, rfl, HO, HB⟩ := hrel
  by_cases hlt : j < p
  ·
   have hjl : j < l.length := by rw [HL.out]; omega
   have hjn : j < p := by omega
   obtain ⟨b, off, rfl, hbb, hrg⟩ := HR.out.elem (f := rfCells) (fun _ _ => rfl) hjl hjn
   have k0 : wr.cell? ⟨b, off + j * 2, none⟩ = some (.int .i64 (l[j]).t) := (HB.out.cell (p := ⟨b, off + j * 2, none⟩) hbb).trans (hrg 0 _ rfl)
   have k1 : wr.cell? ⟨b, off + j * 2 + 1, none⟩ = some (.int .i64 (l[j]).n) := (HB.out.cell (p := ⟨b, off + j * 2 + 1, none⟩) hbb).trans (hrg 1 _ rfl)
   have hx := Chk.tw_lt HP.out hlt hjl
   have hsn : rfs (l.take (j + 1)) = rfs (l.take j) ++ [.int .i64 (l[j]).t, .int .i64 (l[j]).n] := by rw [List.take_succ_eq_append_getElem hjl, rfs_app]; rfl
   obtain ⟨x, hxx⟩ : ∃ y, (l[j]).t = y := ⟨_, rfl⟩
   obtain ⟨y, hyy⟩ : ∃ y, (l[j]).n = y := ⟨_, rfl⟩
   rw [hxx] at k0 hx hsn
   rw [hyy] at k1 hsn
   have HSN := Lib.hid hsn
   have e1 : (0 : Int) ≤ (j : Int) := by omega
   have e2 : (j : Int) < (p : Int) := by omega
   clear hrg hxx hyy hsn hjl hbb
   go_wp2_with (at_builtin; refine wpList_appN rfl (.tmp 25) (.tmp 30) 66 rfl w.heap.size 76 _ 2 16 refT A3 j c3 (rfs (l.take j)) [.int .i64 x, .int .i64 y] _ rfl rfl rfl HO.out HB.out rfl (rf_one _ _) (by omega) (Nat.le_refl _) HB.out.size ?_; intro g4 c4 w4 own4 hb4 hg4; rw [← HSN.out] at own4; have HO4 := Lib.hid own4; have HB4 := Lib.hid hb4; clear own4 hb4 hg4)
   go_roundw
   case rel => exact ⟨j + 1, some ⟨g4, 0, none⟩, c4, by omega, by go_num, rfl, HO4, HB4⟩
   case measure => simp [intOf]; omega
  ·
   obtain rfl : j = p := by omega
   go_upto_region 9 with fail
   have HO4 : Hid (wr.ownsRow w.heap.size 76 2 (.slice A3 j c3) j (rfs (Chk.withJ l t m 0))) := Lib.hid (by rw [HMID.out]; exact HO.out)
   go_loopw [7, 9] (fun u7 u9 wx => ∃ (wy : World) (i L : Nat) (A5 : Option Addr) (c5 : Nat), wy = wx ∧ i ≤ j ∧ u9 = .int .i64 (i : Int) ∧ u7 = .slice A5 L c5 ∧ Hid (L = (Chk.withJ l t m i).length) ∧ Hid (wy.ownsRow w.heap.size 76 2 (.slice A5 L c5) L (rfs (Chk.withJ l t m i))) ∧ Hid (Below w.heap.size w wy)) (fun _ u9 _ => j - (intOf u9).toNat)
   case atStart => exact ⟨_, 0, j, A3, c3, rfl, Nat.zero_le _, rfl, rfl, Lib.hid (by rw [HMID.out]; simp; rw [HL.out]; omega), HO4, HB⟩
   case round =>
    obtain ⟨wy, i, L, A5, c5, rfl, hi, rfl, rfl, HLL, HO5, HB5⟩ := hrel
    by_cases hil : i < j
    ·
     have hjl : i < l.length := by rw [HL.out]; omega
     obtain ⟨b, off, rfl, hbb, hrg⟩ := HR.out.elem (f := rfCells) (fun _ _ => rfl) hjl hil
     have k0 : wy.cell? ⟨b, off + i * 2, none⟩ = some (.int .i64 (l[i]).t) := (HB5.out.cell (p := ⟨b, off + i * 2, none⟩) hbb).trans (hrg 0 _ rfl)
     have k1 : wy.cell? ⟨b, off + i * 2 + 1, none⟩ = some (.int .i64 (l[i]).n) := (HB5.out.cell (p := ⟨b, off + i * 2 + 1, none⟩) hbb).trans (hrg 1 _ rfl)
     have hyes := Chk.withJ_yes (t := t) (n := m) hjl
     have hno := Chk.withJ_no (t := t) (n := m) hjl
     have hle := Chk.withJ_len l t m i
     have HLB : Hid (L ≤ 4000) := Lib.hid (by rw [HLL.out]; rw [HL.out] at hle; omega)
     have hcell : rfs [l[i]] = [.int .i64 (l[i]).t, .int .i64 (l[i]).n] := rfl
     obtain ⟨rr, hrr⟩ : ∃ y, l[i] = y := ⟨_, rfl⟩
     rw [hrr] at k0 k1 hyes hno hcell
     obtain ⟨x, hxx⟩ : ∃ y, rr.t = y := ⟨_, rfl⟩
     obtain ⟨y, hyy⟩ : ∃ y, rr.n = y := ⟨_, rfl⟩
     rw [hxx] at k0 hyes hno hcell
     rw [hyy] at k1 hcell
     have e1 : (0 : Int) ≤ (i : Int) := by omega
     have e2 : (i : Int) < (j : Int) := by omega
     by_cases hx : t < x
     ·
      have HY : Hid (Chk.withJ l t m (i + 1) = Chk.withJ l t m i ++ [rr] ∧ rfs [rr] = [.int .i64 x, .int .i64 y]) := Lib.hid ⟨hyes hx, hcell⟩
      have hlb := HLB.out
      clear hrg hxx hyy hyes hno hcell hrr hle hjl hbb
      go_wp2_with (at_builtin; refine wpList_appN rfl (.tmp 53) (.tmp 58) 66 rfl w.heap.size 76 _ 2 16 refT A5 L c5 (rfs (Chk.withJ l t m i)) [.int .i64 x, .int .i64 y] _ rfl rfl rfl HO5.out HB5.out rfl (rf_one _ _) (by omega) (Nat.le_refl _) HB5.out.size ?_; intro g6 c6 w6 own4 hb4 hg6; rw [← HY.out.2, ← rfs_app, ← HY.out.1] at own4; have HO6 := Lib.hid own4; have HB6 := Lib.hid hb4; clear own4 hb4 hg6)
      go_roundw
      case rel => exact ⟨_, i + 1, L + 1, some ⟨g6, 0, none⟩, c6, rfl, by omega, by go_num, rfl, Lib.hid (by rw [HY.out.1, List.length_append, ← HLL.out]; rfl), HO6, HB6⟩
      case measure => simp [intOf]; omega
     ·
      have HY : Hid (Chk.withJ l t m (i + 1) = Chk.withJ l t m i) := Lib.hid (hno hx)
      clear hrg hxx hyy hyes hno hcell hrr hle hjl hbb
      go_wp2_with fail
      go_roundw
      case rel => exact ⟨_, i + 1, L, A5, c5, rfl, by omega, by go_num, rfl, Lib.hid (by rw [HY.out]; exact HLL.out), Lib.hid (by rw [HY.out]; exact HO5.out), HB5⟩
      case measure => simp [intOf]; omega
    ·
     obtain rfl : i = j := by omega
     have HE := Lib.hid (Chk.withJ_all (l := l) (t := t) (n := m) (j := i) (by rw [HL.out]; exact Nat.le_refl _))
     go_wp2_with fail
     go_ret
     have h1 := HLL.out
     have h2 := HO5.out
     rw [HE.out] at h1 h2
     subst h1
     exact ⟨A5, c5, rfl, h2, HB5.out⟩
set_option maxRecDepth 100000 in
set_option maxHeartbeats 3200000 in
theorem rwith_sp (A : Option Addr) (n c : Nat) (l : List Chk.Rf) (hl : l.length = n) (hn : n ≤ 1000) (w : World) (hr : Rd w w.heap.size 2 A n (rfs l)) (t m : Int) (p : Nat) (hp : (l.takeWhile (fun r => decide (r.t < t))).length = p) (hpn : p < n) (hm : 0 < m) :
  Calls Tryz.prog 92 #[.slice A n c, .int .i64 t, .int .i64 m] w (RWithRes w (Chk.withR l t m)) := by
 have HR := Lib.hid hr
 have HL := Lib.hid hl
 have HP := Lib.hid hp
 have HMID : Hid (Chk.withJ l t m 0 = l.take p ++ [⟨t, m⟩]) := Lib.hid (by unfold Chk.withJ; rw [Chk.tw_take hp, if_pos hm]; simp)
 have hge : ¬ (l[p]'(by omega)).t < t := Chk.tw_ge hp (by omega)
 obtain ⟨b0, off0, hA0, hb0, hrg0⟩ := hr.elem (f := rfCells) (fun _ _ => rfl) (show p < l.length by omega) hpn
 have hk0 := hrg0 0 _ rfl
 obtain ⟨y0, hy0⟩ : ∃ y, (l[p]'(by omega)).t = y := ⟨_, rfl⟩
 rw [hy0] at hge hk0
 have HK0 := Lib.hid (And.intro hk0 hb0)
 subst hA0
 have ef1 : (0 : Int) ≤ (p : Int) := by omega
 have ef2 : (p : Int) < (n : Int) := by omega
 clear hrg0 hk0 hb0 hy0
 clear hr hl hp
 go_enter Tryz.func92, Tryz.ntmps92
 go_upto_region 3 with fail
 go_loopw [7, 8] (fun u7 u8 wr => ∃ (j : Nat) (A3 : Option Addr) (c3 : Nat), j ≤ p ∧ u8 = .int .i64 (j : Int) ∧ u7 = .slice A3 j c3 ∧ Hid (wr.ownsRow w.heap.size 76 2 (.slice A3 j c3) j (rfs (l.take j))) ∧ Hid (Below w.heap.size w wr)) (fun _ u8 _ => p - (intOf u8).toNat)
 case atStart => exact ⟨0, none, 0, Nat.zero_le _, rfl, rfl, Lib.hid (World.ownsRow_nil _ _ _ _), Lib.hid (Below.refl _ _)⟩
 case round =>
  obtain ⟨j, A3, c3, hj, rfl, rfl, HO, HB⟩ := hrel
  by_cases hlt : j < p
  ·
   have hjl : j < l.length := by rw [HL.out]; omega
   have hjn : j < n := by omega
   obtain ⟨b, off, hbo, hbb, hrg⟩ := HR.out.elem (f := rfCells) (fun _ _ => rfl) hjl hjn
   obtain ⟨rfl, rfl⟩ : b0 = b ∧ off0 = off := by have := Option.some.inj hbo; exact ⟨congrArg Addr.block this, congrArg Addr.off this⟩
   have k0 : wr.cell? ⟨b0, off0 + j * 2, none⟩ = some (.int .i64 (l[j]).t) := (HB.out.cell (p := ⟨b0, off0 + j * 2, none⟩) hbb).trans (hrg 0 _ rfl)
   have k1 : wr.cell? ⟨b0, off0 + j * 2 + 1, none⟩ = some (.int .i64 (l[j]).n) := (HB.out.cell (p := ⟨b0, off0 + j * 2 + 1, none⟩) hbb).trans (hrg 1 _ rfl)
   have hx := Chk.tw_lt HP.out hlt hjl
   have hsn : rfs (l.take (j + 1)) = rfs (l.take j) ++ [.int .i64 (l[j]).t, .int .i64 (l[j]).n] := by rw [List.take_succ_eq_append_getElem hjl, rfs_app]; rfl
   obtain ⟨x, hxx⟩ : ∃ y, (l[j]).t = y := ⟨_, rfl⟩
   obtain ⟨y, hyy⟩ : ∃ y, (l[j]).n = y := ⟨_, rfl⟩
   rw [hxx] at k0 hx hsn
   rw [hyy] at k1 hsn
   have HSN := Lib.hid hsn
   have e1 : (0 : Int) ≤ (j : Int) := by omega
   have e2 : (j : Int) < (n : Int) := by omega
   clear hrg hxx hyy hsn hjl hbb hbo
   go_wp2_with (at_builtin; refine wpList_appN rfl (.tmp 25) (.tmp 30) 66 rfl w.heap.size 76 _ 2 16 refT A3 j c3 (rfs (l.take j)) [.int .i64 x, .int .i64 y] _ rfl rfl rfl HO.out HB.out rfl (rf_one _ _) (by omega) (Nat.le_refl _) HB.out.size ?_; intro g4 c4 w4 own4 hb4 hg4; rw [← HSN.out] at own4; have HO4 := Lib.hid own4; have HB4 := Lib.hid hb4; clear own4 hb4 hg4)
   go_roundw
   case rel => exact ⟨j + 1, some ⟨g4, 0, none⟩, c4, by omega, by go_num, rfl, HO4, HB4⟩
   case measure => simp [intOf]; omega
  ·
   obtain rfl : j = p := by omega
   have k00 : wr.cell? ⟨b0, off0 + j * 2, none⟩ = some (.int .i64 y0) := (HB.out.cell (p := ⟨b0, off0 + j * 2, none⟩) HK0.out.2).trans HK0.out.1
   go_upto_region 9 with (at_builtin; refine wpList_appN rfl (.tmp 34) (.tmp 38) 66 rfl w.heap.size 76 _ 2 16 refT A3 j c3 (rfs (l.take j)) [.int .i64 t, .int .i64 m] _ rfl rfl rfl HO.out HB.out rfl (rf_one _ _) (by omega) (Nat.le_refl _) HB.out.size ?_; intro g4 c4 w4 own4 hb4 hg4; have HO4 : Hid (w4.ownsRow w.heap.size 76 2 (.slice (some ⟨g4, 0, none⟩) (j + 1) c4) (j + 1) (rfs (Chk.withJ l t m 0))) := Lib.hid (by rw [HMID.out, rfs_app]; exact own4); have HB4 := Lib.hid hb4; clear own4 hb4 hg4)
   clear k00
   go_loopw [7, 9] (fun u7 u9 wx => ∃ (wy : World) (i L : Nat) (A5 : Option Addr) (c5 : Nat), wy = wx ∧ i ≤ n ∧ u9 = .int .i64 (i : Int) ∧ u7 = .slice A5 L c5 ∧ Hid (L = (Chk.withJ l t m i).length) ∧ Hid (wy.ownsRow w.heap.size 76 2 (.slice A5 L c5) L (rfs (Chk.withJ l t m i))) ∧ Hid (Below w.heap.size w wy)) (fun _ u9 _ => n - (intOf u9).toNat)
   case atStart => exact ⟨_, 0, j + 1, some ⟨g4, 0, none⟩, c4, rfl, Nat.zero_le _, rfl, by go_num, Lib.hid (by rw [HMID.out]; simp; rw [HL.out]; omega), HO4, HB4⟩
   case round =>
    obtain ⟨wy, i, L, A5, c5, rfl, hi, rfl, rfl, HLL, HO5, HB5⟩ := hrel
    by_cases hil : i < n
    ·
     have hjl : i < l.length := by rw [HL.out]; omega
     obtain ⟨b, off, hbo, hbb, hrg⟩ := HR.out.elem (f := rfCells) (fun _ _ => rfl) hjl hil
     obtain ⟨rfl, rfl⟩ : b0 = b ∧ off0 = off := by have := Option.some.inj hbo; exact ⟨congrArg Addr.block this, congrArg Addr.off this⟩
     have k0 : wy.cell? ⟨b0, off0 + i * 2, none⟩ = some (.int .i64 (l[i]).t) := (HB5.out.cell (p := ⟨b0, off0 + i * 2, none⟩) hbb).trans (hrg 0 _ rfl)
     have k1 : wy.cell? ⟨b0, off0 + i * 2 + 1, none⟩ = some (.int .i64 (l[i]).n) := (HB5.out.cell (p := ⟨b0, off0 + i * 2 + 1, none⟩) hbb).trans (hrg 1 _ rfl)
     have hyes := Chk.withJ_yes (t := t) (n := m) hjl
     have hno := Chk.withJ_no (t := t) (n := m) hjl
     have hle := Chk.withJ_len l t m i
     have HLB : Hid (L ≤ 4000) := Lib.hid (by rw [HLL.out]; rw [HL.out] at hle; omega)
     have hcell : rfs [l[i]] = [.int .i64 (l[i]).t, .int .i64 (l[i]).n] := rfl
     obtain ⟨rr, hrr⟩ : ∃ y, l[i] = y := ⟨_, rfl⟩
     rw [hrr] at k0 k1 hyes hno hcell
     obtain ⟨x, hxx⟩ : ∃ y, rr.t = y := ⟨_, rfl⟩
     obtain ⟨y, hyy⟩ : ∃ y, rr.n = y := ⟨_, rfl⟩
     rw [hxx] at k0 hyes hno hcell
     rw [hyy] at k1 hcell
     have e1 : (0 : Int) ≤ (i : Int) := by omega
     have e2 : (i : Int) < (n : Int) := by omega
     by_cases hx : t < x
     ·
      have HY : Hid (Chk.withJ l t m (i + 1) = Chk.withJ l t m i ++ [rr] ∧ rfs [rr] = [.int .i64 x, .int .i64 y]) := Lib.hid ⟨hyes hx, hcell⟩
      have hlb := HLB.out
      clear hrg hxx hyy hyes hno hcell hrr hle hjl hbb hbo
      go_wp2_with (at_builtin; refine wpList_appN rfl (.tmp 53) (.tmp 58) 66 rfl w.heap.size 76 _ 2 16 refT A5 L c5 (rfs (Chk.withJ l t m i)) [.int .i64 x, .int .i64 y] _ rfl rfl rfl HO5.out HB5.out rfl (rf_one _ _) (by omega) (Nat.le_refl _) HB5.out.size ?_; intro g6 c6 w6 own4 hb4 hg6; rw [← HY.out.2, ← rfs_app, ← HY.out.1] at own4; have HO6 := Lib.hid own4; have HB6 := Lib.hid hb4; clear own4 hb4 hg6)
      go_roundw
      case rel => exact ⟨_, i + 1, L + 1, some ⟨g6, 0, none⟩, c6, rfl, by omega, by go_num, rfl, Lib.hid (by rw [HY.out.1, List.length_append, ← HLL.out]; rfl), HO6, HB6⟩
      case measure => simp [intOf]; omega
     ·
      have HY : Hid (Chk.withJ l t m (i + 1) = Chk.withJ l t m i) := Lib.hid (hno hx)
      clear hrg hxx hyy hyes hno hcell hrr hle hjl hbb hbo
      go_wp2_with fail
      go_roundw
      case rel => exact ⟨_, i + 1, L, A5, c5, rfl, by omega, by go_num, rfl, Lib.hid (by rw [HY.out]; exact HLL.out), Lib.hid (by rw [HY.out]; exact HO5.out), HB5⟩
      case measure => simp [intOf]; omega
    ·
     obtain rfl : i = n := by omega
     have HE := Lib.hid (Chk.withJ_all (l := l) (t := t) (n := m) (j := i) (by rw [HL.out]; exact Nat.le_refl _))
     go_wp2_with fail
     go_ret
     have h1 := HLL.out
     have h2 := HO5.out
     rw [HE.out] at h1 h2
     subst h1
     exact ⟨A5, c5, rfl, h2, HB5.out⟩
set_option maxRecDepth 100000 in
set_option maxHeartbeats 3200000 in
theorem rwith_sz (A : Option Addr) (n c : Nat) (l : List Chk.Rf) (hl : l.length = n) (hn : n ≤ 1000) (w : World) (hr : Rd w w.heap.size 2 A n (rfs l)) (t m : Int) (p : Nat) (hp : (l.takeWhile (fun r => decide (r.t < t))).length = p) (hpn : p < n) (hm : ¬ 0 < m) :
  Calls Tryz.prog 92 #[.slice A n c, .int .i64 t, .int .i64 m] w (RWithRes w (Chk.withR l t m)) := by
 have HR := Lib.hid hr
 have HL := Lib.hid hl
 have HP := Lib.hid hp
 have HMID : Hid (Chk.withJ l t m 0 = l.take p) := Lib.hid (by unfold Chk.withJ; rw [Chk.tw_take hp, if_neg hm]; simp)
 have hge : ¬ (l[p]'(by omega)).t < t := Chk.tw_ge hp (by omega)
 obtain ⟨b0, off0, hA0, hb0, hrg0⟩ := hr.elem (f := rfCells) (fun _ _ => rfl) (show p < l.length by omega) hpn
 have hk0 := hrg0 0 _ rfl
 obtain ⟨y0, hy0⟩ : ∃ y, (l[p]'(by omega)).t = y := ⟨_, rfl⟩
 rw [hy0] at hge hk0
 have HK0 := Lib.hid (And.intro hk0 hb0)
 subst hA0
 have ef1 : (0 : Int) ≤ (p : Int) := by omega
 have ef2 : (p : Int) < (n : Int) := by omega
 clear hrg0 hk0 hb0 hy0
 clear hr hl hp
 go_enter Tryz.func92, Tryz.ntmps92
 go_upto_region 3 with fail
 go_loopw [7, 8] (fun u7 u8 wr => ∃ (j : Nat) (A3 : Option Addr) (c3 : Nat), j ≤ p ∧ u8 = .int .i64 (j : Int) ∧ u7 = .slice A3 j c3 ∧ Hid (wr.ownsRow w.heap.size 76 2 (.slice A3 j c3) j (rfs (l.take j))) ∧ Hid (Below w.heap.size w wr)) (fun _ u8 _ => p - (intOf u8).toNat)
 case atStart => exact ⟨0, none, 0, Nat.zero_le _, rfl, rfl, Lib.hid (World.ownsRow_nil _ _ _ _), Lib.hid (Below.refl _ _)⟩
 case round =>
  obtain ⟨j, A3, c3, hj, rfl, rfl, HO, HB⟩ := hrel
  by_cases hlt : j < p
  ·
   have hjl : j < l.length := by rw [HL.out]; omega
   have hjn : j < n := by omega
   obtain ⟨b, off, hbo, hbb, hrg⟩ := HR.out.elem (f := rfCells) (fun _ _ => rfl) hjl hjn
   obtain ⟨rfl, rfl⟩ : b0 = b ∧ off0 = off := by have := Option.some.inj hbo; exact ⟨congrArg Addr.block this, congrArg Addr.off this⟩
   have k0 : wr.cell? ⟨b0, off0 + j * 2, none⟩ = some (.int .i64 (l[j]).t) := (HB.out.cell (p := ⟨b0, off0 + j * 2, none⟩) hbb).trans (hrg 0 _ rfl)
   have k1 : wr.cell? ⟨b0, off0 + j * 2 + 1, none⟩ = some (.int .i64 (l[j]).n) := (HB.out.cell (p := ⟨b0, off0 + j * 2 + 1, none⟩) hbb).trans (hrg 1 _ rfl)
   have hx := Chk.tw_lt HP.out hlt hjl
   have hsn : rfs (l.take (j + 1)) = rfs (l.take j) ++ [.int .i64 (l[j]).t, .int .i64 (l[j]).n] := by rw [List.take_succ_eq_append_getElem hjl, rfs_app]; rfl
   obtain ⟨x, hxx⟩ : ∃ y, (l[j]).t = y := ⟨_, rfl⟩
   obtain ⟨y, hyy⟩ : ∃ y, (l[j]).n = y := ⟨_, rfl⟩
   rw [hxx] at k0 hx hsn
   rw [hyy] at k1 hsn
   have HSN := Lib.hid hsn
   have e1 : (0 : Int) ≤ (j : Int) := by omega
   have e2 : (j : Int) < (n : Int) := by omega
   clear hrg hxx hyy hsn hjl hbb hbo
   go_wp2_with (at_builtin; refine wpList_appN rfl (.tmp 25) (.tmp 30) 66 rfl w.heap.size 76 _ 2 16 refT A3 j c3 (rfs (l.take j)) [.int .i64 x, .int .i64 y] _ rfl rfl rfl HO.out HB.out rfl (rf_one _ _) (by omega) (Nat.le_refl _) HB.out.size ?_; intro g4 c4 w4 own4 hb4 hg4; rw [← HSN.out] at own4; have HO4 := Lib.hid own4; have HB4 := Lib.hid hb4; clear own4 hb4 hg4)
   go_roundw
   case rel => exact ⟨j + 1, some ⟨g4, 0, none⟩, c4, by omega, by go_num, rfl, HO4, HB4⟩
   case measure => simp [intOf]; omega
  ·
   obtain rfl : j = p := by omega
   have k00 : wr.cell? ⟨b0, off0 + j * 2, none⟩ = some (.int .i64 y0) := (HB.out.cell (p := ⟨b0, off0 + j * 2, none⟩) HK0.out.2).trans HK0.out.1
   go_upto_region 9 with fail
   have HO4 : Hid (wr.ownsRow w.heap.size 76 2 (.slice A3 j c3) j (rfs (Chk.withJ l t m 0))) := Lib.hid (by rw [HMID.out]; exact HO.out)
   clear k00
   go_loopw [7, 9] (fun u7 u9 wx => ∃ (wy : World) (i L : Nat) (A5 : Option Addr) (c5 : Nat), wy = wx ∧ i ≤ n ∧ u9 = .int .i64 (i : Int) ∧ u7 = .slice A5 L c5 ∧ Hid (L = (Chk.withJ l t m i).length) ∧ Hid (wy.ownsRow w.heap.size 76 2 (.slice A5 L c5) L (rfs (Chk.withJ l t m i))) ∧ Hid (Below w.heap.size w wy)) (fun _ u9 _ => n - (intOf u9).toNat)
   case atStart => exact ⟨_, 0, j, A3, c3, rfl, Nat.zero_le _, rfl, rfl, Lib.hid (by rw [HMID.out]; simp; rw [HL.out]; omega), HO4, HB⟩
   case round =>
    obtain ⟨wy, i, L, A5, c5, rfl, hi, rfl, rfl, HLL, HO5, HB5⟩ := hrel
    by_cases hil : i < n
    ·
     have hjl : i < l.length := by rw [HL.out]; omega
     obtain ⟨b, off, hbo, hbb, hrg⟩ := HR.out.elem (f := rfCells) (fun _ _ => rfl) hjl hil
     obtain ⟨rfl, rfl⟩ : b0 = b ∧ off0 = off := by have := Option.some.inj hbo; exact ⟨congrArg Addr.block this, congrArg Addr.off this⟩
     have k0 : wy.cell? ⟨b0, off0 + i * 2, none⟩ = some (.int .i64 (l[i]).t) := (HB5.out.cell (p := ⟨b0, off0 + i * 2, none⟩) hbb).trans (hrg 0 _ rfl)
     have k1 : wy.cell? ⟨b0, off0 + i * 2 + 1, none⟩ = some (.int .i64 (l[i]).n) := (HB5.out.cell (p := ⟨b0, off0 + i * 2 + 1, none⟩) hbb).trans (hrg 1 _ rfl)
     have hyes := Chk.withJ_yes (t := t) (n := m) hjl
     have hno := Chk.withJ_no (t := t) (n := m) hjl
     have hle := Chk.withJ_len l t m i
     have HLB : Hid (L ≤ 4000) := Lib.hid (by rw [HLL.out]; rw [HL.out] at hle; omega)
     have hcell : rfs [l[i]] = [.int .i64 (l[i]).t, .int .i64 (l[i]).n] := rfl
     obtain ⟨rr, hrr⟩ : ∃ y, l[i] = y := ⟨_, rfl⟩
     rw [hrr] at k0 k1 hyes hno hcell
     obtain ⟨x, hxx⟩ : ∃ y, rr.t = y := ⟨_, rfl⟩
     obtain ⟨y, hyy⟩ : ∃ y, rr.n = y := ⟨_, rfl⟩
     rw [hxx] at k0 hyes hno hcell
     rw [hyy] at k1 hcell
     have e1 : (0 : Int) ≤ (i : Int) := by omega
     have e2 : (i : Int) < (n : Int) := by omega
     by_cases hx : t < x
     ·
      have HY : Hid (Chk.withJ l t m (i + 1) = Chk.withJ l t m i ++ [rr] ∧ rfs [rr] = [.int .i64 x, .int .i64 y]) := Lib.hid ⟨hyes hx, hcell⟩
      have hlb := HLB.out
      clear hrg hxx hyy hyes hno hcell hrr hle hjl hbb hbo
      go_wp2_with (at_builtin; refine wpList_appN rfl (.tmp 53) (.tmp 58) 66 rfl w.heap.size 76 _ 2 16 refT A5 L c5 (rfs (Chk.withJ l t m i)) [.int .i64 x, .int .i64 y] _ rfl rfl rfl HO5.out HB5.out rfl (rf_one _ _) (by omega) (Nat.le_refl _) HB5.out.size ?_; intro g6 c6 w6 own4 hb4 hg6; rw [← HY.out.2, ← rfs_app, ← HY.out.1] at own4; have HO6 := Lib.hid own4; have HB6 := Lib.hid hb4; clear own4 hb4 hg6)
      go_roundw
      case rel => exact ⟨_, i + 1, L + 1, some ⟨g6, 0, none⟩, c6, rfl, by omega, by go_num, rfl, Lib.hid (by rw [HY.out.1, List.length_append, ← HLL.out]; rfl), HO6, HB6⟩
      case measure => simp [intOf]; omega
     ·
      have HY : Hid (Chk.withJ l t m (i + 1) = Chk.withJ l t m i) := Lib.hid (hno hx)
      clear hrg hxx hyy hyes hno hcell hrr hle hjl hbb hbo
      go_wp2_with fail
      go_roundw
      case rel => exact ⟨_, i + 1, L, A5, c5, rfl, by omega, by go_num, rfl, Lib.hid (by rw [HY.out]; exact HLL.out), Lib.hid (by rw [HY.out]; exact HO5.out), HB5⟩
      case measure => simp [intOf]; omega
    ·
     obtain rfl : i = n := by omega
     have HE := Lib.hid (Chk.withJ_all (l := l) (t := t) (n := m) (j := i) (by rw [HL.out]; exact Nat.le_refl _))
     go_wp2_with fail
     go_ret
     have h1 := HLL.out
     have h2 := HO5.out
     rw [HE.out] at h1 h2
     subst h1
     exact ⟨A5, c5, rfl, h2, HB5.out⟩
theorem rwith_any (A : Option Addr) (n c : Nat) (l : List Chk.Rf) (hl : l.length = n) (hn : n ≤ 1000) (w : World) (hr : Rd w w.heap.size 2 A n (rfs l)) (t m : Int) :
  Calls Tryz.prog 92 #[.slice A n c, .int .i64 t, .int .i64 m] w (RWithRes w (Chk.withR l t m)) := by
 have hle := Chk.tw_le l t
 rw [hl] at hle
 by_cases hm : 0 < m
 ·
  by_cases h : (l.takeWhile (fun r => decide (r.t < t))).length = n
  ·
   exact rwith_fp A n c l hl hn w hr t m _ rfl h hm
  ·
   exact rwith_sp A n c l hl hn w hr t m _ rfl (by omega) hm
 ·
  by_cases h : (l.takeWhile (fun r => decide (r.t < t))).length = n
  ·
   exact rwith_fz A n c l hl hn w hr t m _ rfl h hm
  ·
   exact rwith_sz A n c l hl hn w hr t m _ rfl (by omega) hm
end
section
open Go.RowKit
theorem RAt.refd {w W5 : World} {F S : Nat → Prop} {a : Nat} {t : RM} {l : List Chk.Ck} (h : RAt w F S a t l) (hb : ∀ b, F b ∨ S b → b < w.heap.size) {g k c' : Nat} {x : CR} {rs : List Chk.Rf} {A' : Option Addr} (hA : t.A = some ⟨g, 0, none⟩) (hx : t.D[k]? = some x) (hk : k < l.length)
  (hB5 : Below w.heap.size w W5) (ho : W5.ownsRow w.heap.size 76 2 (.slice A' rs.length c') rs.length (rfs rs)) (hr : Chk.RefsOk rs) (hne : rs ≠ []) :
  ∃ F' : Nat → Prop, (∃ t', RAt (W5.setCell ⟨g, k * 23 + 22, none⟩ (.slice A' rs.length c')) F' S a t' (Chk.setRefs l k rs)) ∧ Keep S w (W5.setCell ⟨g, k * 23 + 22, none⟩ (.slice A' rs.length c')) ∧ (∀ b, F' b ∨ S b → b < (W5.setCell ⟨g, k * 23 + 22, none⟩ (.slice A' rs.length c')).heap.size) ∧ (∀ b, F' b → F b ∨ w.heap.size ≤ b) := by
 have hgS := h.sg _ hA
 have hag := h.ag _ hA
 have h5 := h.below hB5
 have hs5 := hB5.size
 have hgw : g < w.heap.size := hb _ (.inr hgS)
 have hlx : l[k]? = some x.c := by rw [← h.d, List.getElem?_map, hx]; rfl
 have hnx : Chk.nth l k = x.c := by have := Chk.nth_get hk; rw [hlx] at this; exact (Option.some.inj this).symm
 have hok := h.inv.ok x.c (List.mem_of_getElem? hlx)
 obtain ⟨gr, cap, hv, hgr, hgrl⟩ := ho.form (by cases rs with | nil => exact absurd rfl hne | cons _ _ => simp)
 obtain rfl : A' = some ⟨gr, 0, none⟩ := by injection hv
 have hK : Keep S w (W5.setCell ⟨g, k * 23 + 22, none⟩ (.slice (some ⟨gr, 0, none⟩) rs.length c')) := (Keep.of_below hB5).setCell (a := ⟨g, k * 23 + 22, none⟩) (.inl hgS) _
 have hi := h.inv.setRefs hk hr hne
 have hsz : (W5.setCell ⟨g, k * 23 + 22, none⟩ (.slice (some ⟨gr, 0, none⟩) rs.length c')).heap.size = W5.heap.size := by simp [World.setCell]
 refine ⟨fun b => F b ∨ b = gr, ⟨{ t with D := t.D.set k ⟨{ x.c with refs := rs }, some ⟨gr, 0, none⟩, rs.length, c'⟩ }, ?_, ?_, ?_, fun z hz => ?_, h.sa, h.sg, h.ag, fun b hF hS => ?_, hi⟩, hK, fun b e => ?_, fun b e => ?_⟩
 ·
  exact (h5.row.setOther (p := ⟨g, k * 23 + 22, none⟩) hag _)
 ·
  have ho5 := h5.own
  rw [hA] at ho5
  obtain ⟨o1, _, _⟩ := own_step (y := ⟨{ x.c with refs := rs }, some ⟨gr, 0, none⟩, rs.length, c'⟩) (v := .slice (some ⟨gr, 0, none⟩) rs.length c') ho5 h.dl hx (j := 22) (by decide) (by
   show ckCells { x.c with refs := rs } _ = _
   rw [ckCells_refs]
   exact (ckCells_set x.c _ _ hok.dg).symm)
  show World.ownsRow _ 0 _ 23 (.slice t.A t.n t.c) t.n (crs (t.D.set k ⟨{ x.c with refs := rs }, some ⟨gr, 0, none⟩, rs.length, c'⟩))
  rw [hA]
  exact o1
 ·
  show (t.D.set k ⟨{ x.c with refs := rs }, some ⟨gr, 0, none⟩, rs.length, c'⟩).map CR.c = _
  rw [List.map_set, h.d]
  unfold Chk.setRefs
  rw [hnx]
 ·
  rcases List.mem_or_eq_of_mem_set hz with hz | rfl
  ·
   exact ((h.ok z hz).keep hK h.fs).mono fun b e => .inl e
  ·
   refine ⟨?_, rfl, (own_cap ho).1, (own_cap ho).2, fun p hp => .inr (by rw [← Option.some.inj hp])⟩
   have hrd := Rd.of_own ho
   rw [hsz]
   exact hrd.setCell_far (fun p hp => by rw [← Option.some.inj hp]; show gr ≠ g; omega) _
 ·
  rcases hF with hF | rfl
  ·
   exact h.fs b hF hS
  ·
   have := hb _ (.inr hS); omega
 ·
  rw [hsz]
  rcases e with (e | e) | e
  ·
   have := hb b (.inl e); omega
  ·
   omega
  ·
   have := hb b (.inr e); omega
 ·
  rcases e with e | rfl
  ·
   exact .inl e
  ·
   exact .inr hgr
def ROp (w : World) (F S : Nat → Prop) (a : Nat) (l : List Chk.Ck) (w' : World) : Prop :=
 ∃ F' S' : Nat → Prop, (∃ t', RAt w' F' S' a t' l) ∧ Keep S w w' ∧ (∀ b, F' b ∨ S' b → b < w'.heap.size) ∧ (∀ b, S' b → S b ∨ w.heap.size ≤ b) ∧ (∀ b, F' b → F b ∨ w.heap.size ≤ b)
theorem ROp.same {w w' : World} {F S : Nat → Prop} {a : Nat} {t : RM} {l : List Chk.Ck} (h : RAt w F S a t l) (hb : ∀ b, F b ∨ S b → b < w.heap.size) (hw : Below w.heap.size w w') : ROp w F S a l w' :=
 ⟨F, S, ⟨t, h.below hw⟩, Keep.of_below hw, fun b hb' => Nat.lt_of_lt_of_le (hb b hb') hw.size, fun _ h => .inl h, fun _ h => .inl h⟩
def RErr (w : World) (F S : Nat → Prop) (a : Nat) (l : List Chk.Ck) (c : Int) (e : Ending) (w' : World) : Prop := e = .returned (.int .i64 c) ∧ ROp w F S a l w'
theorem args_cases (tn n : Int) : (decide (Chk.tenant tn) = false) ∨ (decide (Chk.tenant tn) = true ∧ n < 1) ∨ (decide (Chk.tenant tn) = true ∧ 1 ≤ n ∧ 2147483647 < n) ∨ (Chk.tenant tn ∧ decide (Chk.tenant tn) = true ∧ 1 ≤ n ∧ n ≤ 2147483647) := by
 by_cases h : Chk.tenant tn
 ·
  have hd := decide_eq_true h
  by_cases h1 : n < 1
  ·
   exact .inr (.inl ⟨hd, h1⟩)
  ·
   by_cases h2 : 2147483647 < n
   ·
    exact .inr (.inr (.inl ⟨hd, by omega, h2⟩))
   ·
    exact .inr (.inr (.inr ⟨h, hd, by omega, by omega⟩))
 ·
  exact .inl (decide_eq_false h)
set_option maxRecDepth 100000 in
set_option maxHeartbeats 3200000 in
theorem rrefer_any {w : World} {F S : Nat → Prop} {a : Nat} {t : RM} {l : List Chk.Ck} (h : RAt w F S a t l) (hb : ∀ b, F b ∨ S b → b < w.heap.size) (id tn n : Int) :
  Calls Tryz.prog 57 #[.pointer (some ⟨a, 0, none⟩), .int .i64 id, .int .i64 tn, .int .i64 n] w (RErr w F S a (Chk.refer l id tn n).1 (Chk.refer l id tn n).2.2) := by
 have HF := Lib.hid (rfind_any h id _ rfl)
 have HTN := Lib.hid (fun W s hs => rtenant_any tn W s hs)
 cases hp : Chk.pos (Chk.ids l) id with
 | none =>
  have e : Chk.refer l id tn n = (l, 0, 12) := by unfold Chk.refer; rw [hp]
  rw [Chk.posI_none hp] at HF
  rw [e]
  have HE := Lib.hid (ROp.same h hb (Below.refl _ _))
  clear h hp e hb HTN
  go_enter Tryz.func57, Tryz.ntmps57
  go_wp2_with (go_at_call 54; refine HF.out.mono ?_; rintro e w1 ⟨rfl, hw1⟩; obtain rfl := hw1.symm)
  go_ret
  exact ⟨rfl, HE.out⟩
 | some k =>
  rw [Chk.posI_some hp] at HF
  have e3 : ¬ (k : Int) < 0 := by omega
  have hbad : ¬ (Chk.tenant tn ∧ 1 ≤ n ∧ n ≤ Chk.most) → Chk.refer l id tn n = (l, 0, 1) := fun hh => by unfold Chk.refer; rw [hp]; show ite _ _ _ = _; rw [if_pos hh]
  have HE := Lib.hid (ROp.same h hb (Below.refl _ _))
  have hmost : Chk.most = 2147483647 := rfl
  rcases args_cases tn n with hs | ⟨hs, h1⟩ | ⟨hs, h1, h2⟩ | ⟨hten, hs, h1, h2⟩
  ·
   have e := hbad (fun hh => by rw [decide_eq_true hh.1] at hs; cases hs)
   have HT2 := Lib.hid (fun W => HTN.out W _ hs)
   rw [e]
   clear h hp e hb HTN hbad hs hmost
   go_enter Tryz.func57, Tryz.ntmps57
   go_wp2_with (first
    | (go_at_call 90; refine (HT2.out _).mono ?_; rintro e w2 ⟨rfl, hw2⟩; obtain rfl := hw2.symm)
    | (go_at_call 54; refine HF.out.mono ?_; rintro e w1 ⟨rfl, hw1⟩; obtain rfl := hw1.symm))
   go_ret
   exact ⟨rfl, HE.out⟩
  ·
   have e := hbad (fun hh => by omega)
   have HT2 := Lib.hid (fun W => HTN.out W _ hs)
   rw [e]
   clear h hp e hb HTN hbad hs hmost
   go_enter Tryz.func57, Tryz.ntmps57
   go_wp2_with (first
    | (go_at_call 90; refine (HT2.out _).mono ?_; rintro e w2 ⟨rfl, hw2⟩; obtain rfl := hw2.symm)
    | (go_at_call 54; refine HF.out.mono ?_; rintro e w1 ⟨rfl, hw1⟩; obtain rfl := hw1.symm))
   go_ret
   exact ⟨rfl, HE.out⟩
  ·
   have e := hbad (fun hh => by omega)
   have HT2 := Lib.hid (fun W => HTN.out W _ hs)
   have n1 : ¬ n < 1 := by omega
   rw [e]
   clear h hp e hb HTN hbad hs hmost
   go_enter Tryz.func57, Tryz.ntmps57
   go_wp2_with (first
    | (go_at_call 90; refine (HT2.out _).mono ?_; rintro e w2 ⟨rfl, hw2⟩; obtain rfl := hw2.symm)
    | (go_at_call 54; refine HF.out.mono ?_; rintro e w1 ⟨rfl, hw1⟩; obtain rfl := hw1.symm))
   go_ret
   exact ⟨rfl, HE.out⟩
  ·
   clear hbad
   have HT2 := Lib.hid (fun W => HTN.out W _ hs)
   have hk := (Chk.pos_lt hp).1
   have hkn : k < t.n := by rw [← h.len.1]; exact hk
   obtain ⟨g, x, hA, hg, hx, hn, hok, hck, hrg⟩ := h.at hkn
   have hmx := h.max
   have htot := hck.refs.tot
   have htn0 := Chk.total_nonneg hck.refs.pos
   have hheld := Chk.held_le hck.refs.pos hck.refs.up tn
   have hheld0 := Chk.held_nonneg hck.refs.pos tn
   have hlen16 := refs_len hck.refs
   have e1 : (0 : Int) ≤ (k : Int) := by omega
   have e2 : (k : Int) < (t.n : Int) := by omega
   have n1 : ¬ n < 1 := by omega
   have n2 : ¬ 2147483647 < n := by omega
   have hd := h.dl x (List.mem_of_getElem? hx)
   have HRW := Lib.hid (fun (W : World) (hW : Below w.heap.size w W) (q : Nat) (v : Value) (hv : x.cells[q]? = some v) => (hW.cell (p := ⟨g, k * 23 + q, none⟩) hg).trans (hrg q v hv))
   have hcc : ∀ W, Below w.heap.size w W → W.cell? ⟨a, 0, none⟩ = some (.slice (some ⟨g, 0, none⟩) t.n t.c) ∧ W.cell? ⟨g, k * 23 + 22, none⟩ = some (.slice x.A x.n x.k) ∧ W.frozen? ⟨g, k * 23 + 22, none⟩ = false := fun W hW => by
    have c0 := h.rd hW
    rw [hA] at c0
    exact ⟨c0, (hW.cell (p := ⟨g, k * 23 + 22, none⟩) hg).trans (ck_cells hck.dg hrg).2.2.2.2.2.2, (h.below hW).frz hA _⟩
   have HCC := Lib.hid hcc
   have HTO := Lib.hid (fun (W : World) (hW : Below w.heap.size w W) T hT => rtotal_any x.A x.n x.k x.c.refs hok.n (by have := hok.n; omega) hck.refs.pos htot w.heap.size W (hok.rd.below hW) T hT)
   have HHE := Lib.hid (fun (W : World) (hW : Below w.heap.size w W) cs hcs v hv => rheld_any x.c hck.dg x.A x.n x.k hok.n (by have := hok.n; omega) w.heap.size W (hok.rd.below hW) hW.size tn cs hcs v hv)
   have HWI := Lib.hid (fun (W : World) (hW : Below w.heap.size w W) (m : Int) => rwith_any x.A x.n x.k x.c.refs hok.n (by have := hok.n; omega) W ((hok.rd.below hW).more hW.size) tn m)
   obtain ⟨T0, hT0⟩ : ∃ T0, Chk.total x.c.refs = T0 := ⟨_, rfl⟩
   obtain ⟨H0, hH0⟩ : ∃ H0, Chk.held x.c.refs tn = H0 := ⟨_, rfl⟩
   rw [hT0] at htot htn0 hheld
   rw [hH0] at hheld hheld0
   have ew : IntKind.i64.wrap (T0 + n) = T0 + n := IntWalk.i64_in _ (by omega)
   have ew2 : IntKind.i64.wrap (H0 + n) = H0 + n := IntWalk.i64_in _ (by omega)
   have HTT := Lib.hid (fun W hW => HTO.out W hW T0 hT0)
   by_cases hover : 2147483647 < T0 + n
   ·
    have e : Chk.refer l id tn n = (l, 0, 2) := by
     unfold Chk.refer; rw [hp]; show ite _ _ _ = _
     rw [if_neg (fun hh => hh ⟨hten, h1, by omega⟩), hn, hT0, if_pos (by omega)]
    rw [e]
    obtain ⟨c0, k22, _⟩ := hcc w (Below.refl _ _)
    clear h hp e hb HTN hs hmost hten hk hkn hA hg hx hn hok hck hrg htot htn0 hheld hheld0 hlen16 hcc hT0 hH0 hd ew2
    go_enter Tryz.func57, Tryz.ntmps57
    go_wp2_with (first
     | (go_at_call 90; refine (HT2.out _).mono ?_; rintro e w2 ⟨rfl, hw2⟩; obtain rfl := hw2.symm)
     | (go_at_call 91; refine (HTT.out _ (Below.refl _ _)).mono ?_; rintro e w3 ⟨rfl, hw3⟩; obtain rfl := hw3.symm)
     | (go_at_call 54; refine HF.out.mono ?_; rintro e w1 ⟨rfl, hw1⟩; obtain rfl := hw1.symm))
    go_ret
    exact ⟨rfl, HE.out⟩
   ·
    have e : Chk.refer l id tn n = (Chk.setRefs l k (Chk.withR x.c.refs tn (H0 + n)), 0, 0) := by
     unfold Chk.refer; rw [hp]; show ite _ _ _ = _
     rw [if_neg (fun hh => hh ⟨hten, h1, by omega⟩), hn, hT0, if_neg (by omega), hH0]
    rw [e]
    have hrok : Chk.RefsOk (Chk.withR x.c.refs tn (H0 + n)) := Chk.refsOk_with hck.refs hten (by omega) (by rw [hT0, hH0, hmost]; omega)
    have hrne : Chk.withR x.c.refs tn (H0 + n) ≠ [] := by
     unfold Chk.withR; rw [if_pos (by omega)]; simp
    obtain ⟨cs, hcs⟩ : ∃ cs, x.cells = cs := ⟨_, rfl⟩
    have HCL : Hid (cs.length = 23) := Lib.hid (by rw [← hcs]; exact hd)
    have HRG := Lib.hid (fun (W : World) (hW : Below w.heap.size w W) => show W.rangeAt g (k * 23) cs from fun q v hv => HRW.out W hW q v (by rw [hcs]; exact hv))
    have HHH := Lib.hid (fun W hW => HHE.out W hW cs hcs H0 hH0)
    obtain ⟨rs, hrs⟩ : ∃ rs, Chk.withR x.c.refs tn (H0 + n) = rs := ⟨_, rfl⟩
    have HWW := Lib.hid (fun W hW => HWI.out W hW (H0 + n))
    rw [hrs] at hrok hrne HWW ⊢
    have HRE := Lib.hid (fun (W : World) (A' : Option Addr) (c' : Nat) (hW : Below w.heap.size w W) (ho : W.ownsRow w.heap.size 76 2 (.slice A' rs.length c') rs.length (rfs rs)) => h.refd hb hA hx hk hW ho hrok hrne)
    obtain ⟨c0, k22, _⟩ := hcc w (Below.refl _ _)
    clear h hp e hb HTN hs hmost hten hk hkn hA hg hx hn hok hck hrg htot htn0 hheld hheld0 hlen16 hcc hT0 hH0 hd hcs hrs hrok hrne HTO HHE HWI HE
    go_enter Tryz.func57, Tryz.ntmps57
    go_upto_region 8 with (first
     | (go_at_call 90; refine (HT2.out _).mono ?_; rintro e w2 ⟨rfl, hw2⟩; obtain rfl := hw2.symm)
     | (go_at_call 91; refine (HTT.out _ (Below.refl _ _)).mono ?_; rintro e w3 ⟨rfl, hw3⟩; obtain rfl := hw3.symm)
     | (go_at_call 54; refine HF.out.mono ?_; rintro e w1 ⟨rfl, hw1⟩; obtain rfl := hw1.symm))
    clear c0 k22 ew
    have hv0 : Below w.heap.size w w.drew := (Below.refl _ _).drew
    refine wp_region_late (fun W => Below w.heap.size w W) [28] (by kernel_rfl) (hv0) (fun hHeld => ?_)
    refine wpAnyL_take (i := 0) (oi := { dst := some 38, op := Op.move (Operand.tmp 0), type := 29, pos := "ref.go:174", after := #[], guard := none }) (v := ?v0_1) rfl (by kernel_rfl) (by kernel_rfl) (by kernel_rfl) (by kernel_rfl) (fun _ _ _ h => h) (Or.inl ⟨by rfl, ?h0_1⟩) (by assumption) ?r0_1
    case h0_1 =>
     intro W hSW
     try dsimp only at hSW
     go_simp
     try with_reducible rfl
    try simp only [PT]
    refine wpAnyL_take (i := 1) (oi := { dst := some 39, op := Op.nilCheck (Operand.tmp 38), type := 0, pos := "ref.go:174", after := #[{ on := 0, ground := Ground.data }], guard := none }) (v := ?v1_2) rfl (by kernel_rfl) (by kernel_rfl) (by kernel_rfl) (by kernel_rfl) (fun _ _ _ h => h) (Or.inl ⟨by rfl, ?h1_2⟩) (by assumption) ?r1_2
    case h1_2 =>
     intro W hSW
     try dsimp only at hSW
     go_simp
     try with_reducible rfl
    try simp only [PT]
    refine wpAnyL_take (i := 2) (oi := { dst := some 40, op := Op.fieldAddr 58 (Operand.tmp 39) 0, type := 0, pos := "ref.go:174", after := #[{ on := 1, ground := Ground.data }], guard := none }) (v := ?v2_3) rfl (by kernel_rfl) (by kernel_rfl) (by kernel_rfl) (by kernel_rfl) (fun _ _ _ h => h) (Or.inl ⟨by rfl, ?h2_3⟩) (by assumption) ?r2_3
    case h2_3 =>
     intro W hSW
     try dsimp only at hSW
     go_simp
     try with_reducible rfl
    try simp only [PT]
    refine wpAnyL_take (i := 3) (oi := { dst := some 41, op := Op.load 56 (Operand.tmp 40), type := 56, pos := "ref.go:174", after := #[{ on := 2, ground := Ground.data }], guard := none }) (v := ?v3_4) rfl (by kernel_rfl) (by kernel_rfl) (by kernel_rfl) (by kernel_rfl) (fun _ _ _ h => h) (Or.inl ⟨by rfl, ?h3_4⟩) (by assumption) ?r3_4
    case h3_4 =>
     intro W hSW
     try dsimp only at hSW
     have c0 := (HCC.out W hSW).1
     go_simp
     try with_reducible rfl
    try simp only [PT]
    refine wpAnyL_take (i := 4) (oi := { dst := some 42, op := Op.move (Operand.tmp 9), type := 3, pos := "ref.go:174", after := #[], guard := none }) (v := ?v4_5) rfl (by kernel_rfl) (by kernel_rfl) (by kernel_rfl) (by kernel_rfl) (fun _ _ _ h => h) (Or.inl ⟨by rfl, ?h4_5⟩) (by assumption) ?r4_5
    case h4_5 =>
     intro W hSW
     try dsimp only at hSW
     go_simp
     try with_reducible rfl
    try simp only [PT]
    refine wpAnyL_take (i := 5) (oi := { dst := some 43, op := Op.move (Operand.tmp 0), type := 29, pos := "ref.go:174", after := #[], guard := none }) (v := ?v5_6) rfl (by kernel_rfl) (by kernel_rfl) (by kernel_rfl) (by kernel_rfl) (fun _ _ _ h => h) (Or.inl ⟨by rfl, ?h5_6⟩) (by assumption) ?r5_6
    case h5_6 =>
     intro W hSW
     try dsimp only at hSW
     go_simp
     try with_reducible rfl
    try simp only [PT]
    refine wpAnyL_take (i := 6) (oi := { dst := some 44, op := Op.nilCheck (Operand.tmp 43), type := 0, pos := "ref.go:174", after := #[{ on := 5, ground := Ground.data }], guard := none }) (v := ?v6_7) rfl (by kernel_rfl) (by kernel_rfl) (by kernel_rfl) (by kernel_rfl) (fun _ _ _ h => h) (Or.inl ⟨by rfl, ?h6_7⟩) (by assumption) ?r6_7
    case h6_7 =>
     intro W hSW
     try dsimp only at hSW
     go_simp
     try with_reducible rfl
    try simp only [PT]
    refine wpAnyL_take (i := 7) (oi := { dst := some 45, op := Op.fieldAddr 58 (Operand.tmp 44) 0, type := 0, pos := "ref.go:174", after := #[{ on := 6, ground := Ground.data }], guard := none }) (v := ?v7_8) rfl (by kernel_rfl) (by kernel_rfl) (by kernel_rfl) (by kernel_rfl) (fun _ _ _ h => h) (Or.inl ⟨by rfl, ?h7_8⟩) (by assumption) ?r7_8
    case h7_8 =>
     intro W hSW
     try dsimp only at hSW
     go_simp
     try with_reducible rfl
    try simp only [PT]
    refine wpAnyL_take (i := 8) (oi := { dst := some 46, op := Op.load 56 (Operand.tmp 45), type := 56, pos := "ref.go:174", after := #[{ on := 7, ground := Ground.data }], guard := none }) (v := ?v8_9) rfl (by kernel_rfl) (by kernel_rfl) (by kernel_rfl) (by kernel_rfl) (fun _ _ _ h => h) (Or.inl ⟨by rfl, ?h8_9⟩) (by assumption) ?r8_9
    case h8_9 =>
     intro W hSW
     try dsimp only at hSW
     have c0 := (HCC.out W hSW).1
     go_simp
     try with_reducible rfl
    try simp only [PT]
    refine wpAnyL_take (i := 9) (oi := { dst := some 47, op := Op.move (Operand.tmp 9), type := 3, pos := "ref.go:174", after := #[], guard := none }) (v := ?v9_10) rfl (by kernel_rfl) (by kernel_rfl) (by kernel_rfl) (by kernel_rfl) (fun _ _ _ h => h) (Or.inl ⟨by rfl, ?h9_10⟩) (by assumption) ?r9_10
    case h9_10 =>
     intro W hSW
     try dsimp only at hSW
     go_simp
     try with_reducible rfl
    try simp only [PT]
    refine wpAnyL_take (i := 10) (oi := { dst := some 48, op := Op.indexAddr 56 (Operand.tmp 46) (Operand.tmp 47), type := 0, pos := "ref.go:174", after := #[{ on := 8, ground := Ground.data }, { on := 9, ground := Ground.data }], guard := none }) (v := ?v10_11) rfl (by kernel_rfl) (by kernel_rfl) (by kernel_rfl) (by kernel_rfl) (fun _ _ _ h => h) (Or.inl ⟨by rfl, ?h10_11⟩) (by assumption) ?r10_11
    case h10_11 =>
     intro W hSW
     try dsimp only at hSW
     go_simp
     try with_reducible rfl
    try simp only [PT]
    refine wpAnyL_take (i := 11) (oi := { dst := some 49, op := Op.fieldAddr 68 (Operand.tmp 48) 5, type := 0, pos := "ref.go:174", after := #[{ on := 10, ground := Ground.data }], guard := none }) (v := ?v11_12) rfl (by kernel_rfl) (by kernel_rfl) (by kernel_rfl) (by kernel_rfl) (fun _ _ _ h => h) (Or.inl ⟨by rfl, ?h11_12⟩) (by assumption) ?r11_12
    case h11_12 =>
     intro W hSW
     try dsimp only at hSW
     go_simp
     try with_reducible rfl
    try simp only [PT]
    refine wpAnyL_take (i := 12) (oi := { dst := some 50, op := Op.load 66 (Operand.tmp 49), type := 66, pos := "ref.go:174", after := #[{ on := 11, ground := Ground.data }], guard := none }) (v := ?v12_13) rfl (by kernel_rfl) (by kernel_rfl) (by kernel_rfl) (by kernel_rfl) (fun _ _ _ h => h) (Or.inl ⟨by rfl, ?h12_13⟩) (by assumption) ?r12_13
    case h12_13 =>
     intro W hSW
     try dsimp only at hSW
     have k22 := (HCC.out W hSW).2.1
     go_simp
     try with_reducible rfl
    try simp only [PT]
    refine wpAnyL_take (i := 13) (oi := { dst := some 51, op := Op.move (Operand.tmp 2), type := 3, pos := "ref.go:174", after := #[], guard := none }) (v := ?v13_14) rfl (by kernel_rfl) (by kernel_rfl) (by kernel_rfl) (by kernel_rfl) (fun _ _ _ h => h) (Or.inl ⟨by rfl, ?h13_14⟩) (by assumption) ?r13_14
    case h13_14 =>
     intro W hSW
     try dsimp only at hSW
     go_simp
     try with_reducible rfl
    try simp only [PT]
    refine wpAnyL_take (i := 14) (oi := { dst := some 52, op := Op.move (Operand.tmp 0), type := 29, pos := "ref.go:174", after := #[], guard := none }) (v := ?v14_15) rfl (by kernel_rfl) (by kernel_rfl) (by kernel_rfl) (by kernel_rfl) (fun _ _ _ h => h) (Or.inl ⟨by rfl, ?h14_15⟩) (by assumption) ?r14_15
    case h14_15 =>
     intro W hSW
     try dsimp only at hSW
     go_simp
     try with_reducible rfl
    try simp only [PT]
    refine wpAnyL_take (i := 15) (oi := { dst := some 53, op := Op.nilCheck (Operand.tmp 52), type := 0, pos := "ref.go:174", after := #[{ on := 14, ground := Ground.data }], guard := none }) (v := ?v15_16) rfl (by kernel_rfl) (by kernel_rfl) (by kernel_rfl) (by kernel_rfl) (fun _ _ _ h => h) (Or.inl ⟨by rfl, ?h15_16⟩) (by assumption) ?r15_16
    case h15_16 =>
     intro W hSW
     try dsimp only at hSW
     go_simp
     try with_reducible rfl
    try simp only [PT]
    refine wpAnyL_take (i := 16) (oi := { dst := some 54, op := Op.fieldAddr 58 (Operand.tmp 53) 0, type := 0, pos := "ref.go:174", after := #[{ on := 15, ground := Ground.data }], guard := none }) (v := ?v16_17) rfl (by kernel_rfl) (by kernel_rfl) (by kernel_rfl) (by kernel_rfl) (fun _ _ _ h => h) (Or.inl ⟨by rfl, ?h16_17⟩) (by assumption) ?r16_17
    case h16_17 =>
     intro W hSW
     try dsimp only at hSW
     go_simp
     try with_reducible rfl
    try simp only [PT]
    refine wpAnyL_take (i := 17) (oi := { dst := some 55, op := Op.load 56 (Operand.tmp 54), type := 56, pos := "ref.go:174", after := #[{ on := 16, ground := Ground.data }], guard := none }) (v := ?v17_18) rfl (by kernel_rfl) (by kernel_rfl) (by kernel_rfl) (by kernel_rfl) (fun _ _ _ h => h) (Or.inl ⟨by rfl, ?h17_18⟩) (by assumption) ?r17_18
    case h17_18 =>
     intro W hSW
     try dsimp only at hSW
     have c0 := (HCC.out W hSW).1
     go_simp
     try with_reducible rfl
    try simp only [PT]
    refine wpAnyL_take (i := 18) (oi := { dst := some 56, op := Op.move (Operand.tmp 9), type := 3, pos := "ref.go:174", after := #[], guard := none }) (v := ?v18_19) rfl (by kernel_rfl) (by kernel_rfl) (by kernel_rfl) (by kernel_rfl) (fun _ _ _ h => h) (Or.inl ⟨by rfl, ?h18_19⟩) (by assumption) ?r18_19
    case h18_19 =>
     intro W hSW
     try dsimp only at hSW
     go_simp
     try with_reducible rfl
    try simp only [PT]
    refine wpAnyL_take (i := 19) (oi := { dst := some 57, op := Op.indexAddr 56 (Operand.tmp 55) (Operand.tmp 56), type := 0, pos := "ref.go:174", after := #[{ on := 17, ground := Ground.data }, { on := 18, ground := Ground.data }], guard := none }) (v := ?v19_20) rfl (by kernel_rfl) (by kernel_rfl) (by kernel_rfl) (by kernel_rfl) (fun _ _ _ h => h) (Or.inl ⟨by rfl, ?h19_20⟩) (by assumption) ?r19_20
    case h19_20 =>
     intro W hSW
     try dsimp only at hSW
     go_simp
     try with_reducible rfl
    try simp only [PT]
    refine wpAnyL_take (i := 20) (oi := { dst := some 58, op := Op.load 68 (Operand.tmp 57), type := 68, pos := "ref.go:174", after := #[{ on := 19, ground := Ground.data }], guard := none }) (v := (.agg cs.toArray)) rfl (by kernel_rfl) (by kernel_rfl) (by kernel_rfl) (by kernel_rfl) (fun _ _ _ h => h) (yieldsIf_load_mid rfl 68 (.tmp 57) rfl g (k * 23) rfl cs _ (fun W hW => HRG.out W hW) Tryz.underlying68 rfl (by rw [HCL.out]; exact sizeCk)) (by assumption) ?_
    try simp only [PT]
    refine wpAnyL_take (i := 21) (oi := { dst := some 59, op := Op.move (Operand.tmp 2), type := 3, pos := "ref.go:174", after := #[], guard := none }) (v := ?v21_22) rfl (by kernel_rfl) (by kernel_rfl) (by kernel_rfl) (by kernel_rfl) (fun _ _ _ h => h) (Or.inl ⟨by rfl, ?h21_22⟩) (by assumption) ?r21_22
    case h21_22 =>
     intro W hSW
     try dsimp only at hSW
     go_simp
     try with_reducible rfl
    try simp only [PT]
    refine wpAnyL_take (i := 23) (oi := { dst := some 61, op := Op.move (Operand.tmp 3), type := 3, pos := "ref.go:174", after := #[], guard := none }) (v := ?v23_23) rfl (by kernel_rfl) (by kernel_rfl) (by kernel_rfl) (by kernel_rfl) (fun _ _ _ h => h) (Or.inl ⟨by rfl, ?h23_23⟩) (by assumption) ?r23_23
    case h23_23 =>
     intro W hSW
     try dsimp only at hSW
     go_simp
     try with_reducible rfl
    try simp only [PT]
    refine wpAnyL_ready (rs := [22]) (by kernel_rfl) (by simp) ?_
    refine AllReadyL.cons (o := { dst := some 60, op := Op.call { callee := Callee.value (Operand.func 93), args := #[Operand.tmp 58, Operand.tmp 59], argTypes := #[68, 3] }, type := 3, pos := "ref.go:174", after := #[{ on := 20, ground := Ground.data }, { on := 21, ground := Ground.data }], guard := none }) rfl (fun K hK => ?_) AllReadyL.nil
    go_simp
    refine (HHH.out _ hv0).mono ?_
    rintro e w90 ⟨rfl, b90⟩
    have hv90 : Below w.heap.size w w90 := (hv0).trans (b90.mono (hv0).size)
    clear b90
    refine hK.out _ _ (hv90) (fun hHeld => ?_)
    clear hK K
    try simp only [PT]
    refine wpAnyL_take (i := 24) (oi := { dst := some 62, op := Op.binOp BinOp.add 3 (Operand.tmp 60) (Operand.tmp 61) 3, type := 3, pos := "ref.go:174", after := #[{ on := 22, ground := Ground.data }, { on := 23, ground := Ground.data }], guard := none }) (v := ?v24_24) rfl (by kernel_rfl) (by kernel_rfl) (by kernel_rfl) (by kernel_rfl) (fun _ _ _ h => h) (Or.inl ⟨by rfl, ?h24_24⟩) (by assumption) ?r24_24
    case h24_24 =>
     intro W hSW
     try dsimp only at hSW
     go_simp
     try with_reducible rfl
    try simp only [PT]
    refine wpAnyL_ready (rs := [25]) (by kernel_rfl) (by simp) ?_
    refine AllReadyL.cons (o := { dst := some 63, op := Op.call { callee := Callee.value (Operand.func 92), args := #[Operand.tmp 50, Operand.tmp 51, Operand.tmp 62], argTypes := #[66, 3, 3] }, type := 66, pos := "ref.go:174", after := #[{ on := 12, ground := Ground.data }, { on := 13, ground := Ground.data }, { on := 24, ground := Ground.data }, { on := 22, ground := Ground.chain }], guard := none }) rfl (fun K hK => ?_) AllReadyL.nil
    go_simp
    refine (HWW.out _ hv90).mono ?_
    rintro e w91 ⟨A', c', rfl, own', b91⟩
    have hv91 : Below w.heap.size w w91 := (hv90).trans (b91.mono (hv90).size)
    have HO := Lib.hid (own_base own' (hv90).size)
    have k22 := (HCC.out w91 hv91).2.1
    have f22 := (HCC.out w91 hv91).2.2
    have HBW := Lib.hid hv91
    clear b91 own'
    refine hK.out _ _ (hv91) (fun hHeld => ?_)
    clear hK K
    try simp only [PT]
    refine wpAnyL_take (i := 26) (oi := { dst := some 64, op := Op.indexAddr 56 (Operand.tmp 41) (Operand.tmp 42), type := 0, pos := "ref.go:174", after := #[{ on := 3, ground := Ground.data }, { on := 4, ground := Ground.data }, { on := 0, ground := Ground.phase }, { on := 1, ground := Ground.phase }, { on := 2, ground := Ground.phase }, { on := 3, ground := Ground.phase }, { on := 4, ground := Ground.phase }, { on := 5, ground := Ground.phase }, { on := 6, ground := Ground.phase }, { on := 7, ground := Ground.phase }, { on := 8, ground := Ground.phase }, { on := 9, ground := Ground.phase }, { on := 10, ground := Ground.phase }, { on := 11, ground := Ground.phase }, { on := 12, ground := Ground.phase }, { on := 13, ground := Ground.phase }, { on := 14, ground := Ground.phase }, { on := 15, ground := Ground.phase }, { on := 16, ground := Ground.phase }, { on := 17, ground := Ground.phase }, { on := 18, ground := Ground.phase }, { on := 19, ground := Ground.phase }, { on := 20, ground := Ground.phase }, { on := 21, ground := Ground.phase }, { on := 22, ground := Ground.phase }, { on := 23, ground := Ground.phase }, { on := 24, ground := Ground.phase }, { on := 25, ground := Ground.phase }], guard := none }) (v := ?v26_25) rfl (by kernel_rfl) (by kernel_rfl) (by kernel_rfl) (by kernel_rfl) (fun _ _ _ h => h) (Or.inl ⟨by rfl, ?h26_25⟩) (by assumption) ?r26_25
    case h26_25 =>
     intro W hSW
     try dsimp only at hSW
     go_simp
     try with_reducible rfl
    try simp only [PT]
    refine wpAnyL_take (i := 27) (oi := { dst := some 65, op := Op.fieldAddr 68 (Operand.tmp 64) 5, type := 0, pos := "ref.go:174", after := #[{ on := 26, ground := Ground.data }, { on := 0, ground := Ground.phase }, { on := 1, ground := Ground.phase }, { on := 2, ground := Ground.phase }, { on := 3, ground := Ground.phase }, { on := 4, ground := Ground.phase }, { on := 5, ground := Ground.phase }, { on := 6, ground := Ground.phase }, { on := 7, ground := Ground.phase }, { on := 8, ground := Ground.phase }, { on := 9, ground := Ground.phase }, { on := 10, ground := Ground.phase }, { on := 11, ground := Ground.phase }, { on := 12, ground := Ground.phase }, { on := 13, ground := Ground.phase }, { on := 14, ground := Ground.phase }, { on := 15, ground := Ground.phase }, { on := 16, ground := Ground.phase }, { on := 17, ground := Ground.phase }, { on := 18, ground := Ground.phase }, { on := 19, ground := Ground.phase }, { on := 20, ground := Ground.phase }, { on := 21, ground := Ground.phase }, { on := 22, ground := Ground.phase }, { on := 23, ground := Ground.phase }, { on := 24, ground := Ground.phase }, { on := 25, ground := Ground.phase }], guard := none }) (v := ?v27_26) rfl (by kernel_rfl) (by kernel_rfl) (by kernel_rfl) (by kernel_rfl) (fun _ _ _ h => h) (Or.inl ⟨by rfl, ?h27_26⟩) (by assumption) ?r27_26
    case h27_26 =>
     intro W hSW
     try dsimp only at hSW
     go_simp
     try with_reducible rfl
    try simp only [PT]
    refine wpAnyL_ready (rs := [28]) (by kernel_rfl) (by simp) ?_
    refine AllReadyL.late (o := { dst := none, op := Op.store 66 (Operand.tmp 65) (Operand.tmp 63), type := 0, pos := "ref.go:174", after := #[{ on := 27, ground := Ground.data }, { on := 25, ground := Ground.data }, { on := 25, ground := Ground.chain }, { on := 0, ground := Ground.phase }, { on := 1, ground := Ground.phase }, { on := 2, ground := Ground.phase }, { on := 3, ground := Ground.phase }, { on := 4, ground := Ground.phase }, { on := 5, ground := Ground.phase }, { on := 6, ground := Ground.phase }, { on := 7, ground := Ground.phase }, { on := 8, ground := Ground.phase }, { on := 9, ground := Ground.phase }, { on := 10, ground := Ground.phase }, { on := 11, ground := Ground.phase }, { on := 12, ground := Ground.phase }, { on := 13, ground := Ground.phase }, { on := 14, ground := Ground.phase }, { on := 15, ground := Ground.phase }, { on := 16, ground := Ground.phase }, { on := 17, ground := Ground.phase }, { on := 18, ground := Ground.phase }, { on := 19, ground := Ground.phase }, { on := 20, ground := Ground.phase }, { on := 21, ground := Ground.phase }, { on := 22, ground := Ground.phase }, { on := 23, ground := Ground.phase }, { on := 24, ground := Ground.phase }, { on := 25, ground := Ground.phase }], guard := none }) rfl (by rfl) (fun K hK => ?_) AllReadyL.nil
    go_simp
    have HEX := Lib.hid (HRE.out w91 A' c' HBW.out HO.out)
    try clear k22 f22 e3
    refine hK.out _ _ ?_
    clear hK K
    try simp only [PT]
    refine wpAnyL_done (by kernel_rfl) ?_ _
    go_wp2
    go_ret
    obtain ⟨F', h1, h2, h3, h4⟩ := HEX.out
    exact ⟨rfl, F', S, h1, h2, h3, fun _ h => .inl h, h4⟩
end
end Go.Proofs.YtfllkaeaanahmaaGreat
