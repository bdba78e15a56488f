/- The reference's tenant, total, with. Conditions: the references are kept. -/
import Derived.Test.YtcicfneekmbamaaChkRC
namespace Go.Proofs.Ytcicfneekmbamaa
set_option linter.unusedVariables false
set_option linter.unusedSimpArgs false
open Go.RowKit
theorem rtenant_any (n : Int) (w : World) (S : Bool) (hS : decide (Chk.tenant n) = S) : Calls Try.prog 77 #[.int .i64 n] w fun e w' => e = .returned (.bool S) ∧ w' = w := by
  by_cases h0 : 0 ≤ n
  · by_cases h1 : n < 16
    · obtain rfl : S = true := by rw [← hS]; exact decide_eq_true ⟨h0, h1⟩
      clear hS
      go_enter Try.func77, Try.ntmps77
      go_wp2
      go_ret
      exact ⟨rfl, rfl⟩
    · obtain rfl : S = false := by rw [← hS]; exact decide_eq_false fun e => h1 e.2
      clear hS
      go_enter Try.func77, Try.ntmps77
      go_wp2
      go_ret
      exact ⟨rfl, rfl⟩
  · obtain rfl : S = false := by rw [← hS]; exact decide_eq_false fun e => h0 e.1
    clear hS
    go_enter Try.func77, Try.ntmps77
    go_wp2
    go_ret
    exact ⟨rfl, rfl⟩
set_option maxHeartbeats 1600000 in
theorem rtotal_any (A : Option Addr) (n c : Nat) (l : List Chk.Rf) (hl : l.length = n) (hn : n ≤ 65536) (hp : ∀ r ∈ l, 1 ≤ r.n) (ht : Chk.total l ≤ Chk.most) (B : Nat) (w : World) (hr : Rd w B 2 A n (rfs l)) (T : Int) (hT : Chk.total l = T) :
    Calls Try.prog 66 #[.slice A n c] w fun e w' => e = .returned (.int .i64 T) ∧ w' = w := by
  have HL := Lib.hid (And.intro hl (And.intro hp ht))
  have HR := Lib.hid hr
  have HT := Lib.hid hT
  clear hl hp ht hr hT
  go_enter Try.func66, Try.ntmps66
  go_upto_region 3 with fail
  go_loop [3, 4] (fun u3 u4 => ∃ j : Nat, j ≤ n ∧ u4 = .int .i64 (j : Int) ∧ u3 = .int .i64 (Chk.total (l.take j))) (fun _ u4 => n - (intOf u4).toNat)
  case atStart => exact ⟨0, Nat.zero_le _, rfl, rfl⟩
  case round =>
    obtain ⟨j, hj, rfl, rfl⟩ := hrel
    obtain ⟨hl, hp, ht⟩ := HL.out
    by_cases hlt : j < n
    · have hjl : j < l.length := by omega
      obtain ⟨b, off, rfl, hb, hrg⟩ := HR.out.elem (f := rfCells) (fun _ _ => rfl) hjl hlt
      have ht1 := total_take l hjl
      have hsub : ∀ i, Chk.total (l.take i) ≤ Chk.total l ∧ 0 ≤ Chk.total (l.take i) := fun i => by
        have h1 := Chk.total_app (l.take i) (l.drop i)
        rw [List.take_append_drop] at h1
        have h2 := Chk.total_nonneg (l := l.drop i) fun r hr => hp r (List.mem_of_mem_drop hr)
        have h3 := Chk.total_nonneg (l := l.take i) fun r hr => hp r (List.mem_of_mem_take hr)
        omega
      have hs0 := hsub j
      have hs1 := hsub (j + 1)
      obtain ⟨r, hr2⟩ : ∃ r, l.getD j ⟨0, 0⟩ = r := ⟨_, rfl⟩
      have hrw : l[j] = r := by rw [← hr2, List.getD, List.getElem?_eq_getElem hjl]; rfl
      rw [hrw] at hrg
      rw [hr2] at ht1
      have k1 : w.cell? ⟨b, off + j * 2 + 1, none⟩ = some (.int .i64 r.n) := hrg 1 _ rfl
      obtain ⟨T0, hT0⟩ : ∃ x, Chk.total (l.take j) = x := ⟨_, rfl⟩
      obtain ⟨T1, hT1⟩ : ∃ x, Chk.total (l.take (j + 1)) = x := ⟨_, rfl⟩
      rw [hT0] at ht1 hs0
      rw [hT1] at ht1 hs1
      try rw [hT0]
      have e1 : (0 : Int) ≤ (j : Int) := by omega
      have e2 : (j : Int) < (n : Int) := by omega
      have e3 : IntKind.i64.wrap (T0 + r.n) = T1 := by rw [← ht1]; exact IntWalk.i64_in _ (by have : Chk.most = 2147483647 := rfl; omega)
      have HT1 := Lib.hid hT1
      clear hrw hr2 hrg hsub hs0 hs1 ht1 hT0 hT1 hl hp ht hjl hb
      go_wp2
      go_round
      case rel => exact ⟨j + 1, by omega, by go_num, by rw [HT1.out]⟩
      case measure => simp [intOf]; omega
    · obtain rfl : j = n := by omega
      have HE : Hid (Chk.total (l.take j) = T) := Lib.hid (by rw [List.take_of_length_le (by omega)]; exact HT.out)
      clear hl hp ht
      go_wp2
      go_ret
      exact ⟨by rw [HE.out]; rfl, rfl⟩
namespace Chk
/-- 'with' up to the j-th reference of its second loop -/
def withJ (l : List Rf) (t n : Int) (j : Nat) : List Rf := l.takeWhile (fun r => decide (r.t < t)) ++ ((if 0 < n then [⟨t, n⟩] else []) ++ (l.take j).filter (fun r => decide (t < r.t)))
theorem withJ_all {l : List Rf} {t n : Int} {j : Nat} (h : l.length ≤ j) : withJ l t n j = withR l t n := by unfold withJ withR; rw [List.take_of_length_le h]
theorem withJ_yes {l : List Rf} {t n : Int} {j : Nat} (h : j < l.length) (ht : t < l[j].t) : withJ l t n (j + 1) = withJ l t n j ++ [l[j]] := by
  unfold withJ
  rw [List.take_succ_eq_append_getElem h, List.filter_append, List.append_assoc, List.append_assoc]
  congr 2
  rw [List.filter_cons, if_pos (by simpa using ht)]; rfl
theorem withJ_no {l : List Rf} {t n : Int} {j : Nat} (h : j < l.length) (ht : ¬ t < l[j].t) : withJ l t n (j + 1) = withJ l t n j := by
  unfold withJ
  have e : List.filter (fun r : Rf => decide (t < r.t)) [l[j]] = [] := by rw [List.filter_cons_of_neg (by simpa using ht)]; rfl
  rw [List.take_succ_eq_append_getElem h, List.filter_append, e, List.append_nil]
theorem withJ_len (l : List Rf) (t n : Int) (j : Nat) : (withJ l t n j).length ≤ l.length + 1 + j := by
  unfold withJ
  rw [List.length_append, List.length_append]
  have h1 := (List.takeWhile_sublist (l := l) (fun r => decide (r.t < t))).length_le
  have h2 : ((if 0 < n then [(⟨t, n⟩ : Rf)] else [])).length ≤ 1 := by by_cases h : 0 < n <;> simp [h]
  have h3 := List.length_filter_le (fun r : Rf => decide (t < r.t)) (l.take j)
  rw [List.length_take] at h3
  omega
theorem tw_take {l : List Rf} {t : Int} {p : Nat} (hp : (l.takeWhile (fun r => decide (r.t < t))).length = p) : l.takeWhile (fun r => decide (r.t < t)) = l.take p := by
  subst hp
  have := List.takeWhile_prefix (l := l) (fun r => decide (r.t < t))
  exact (List.prefix_iff_eq_take.1 this)
theorem tw_lt {l : List Rf} {t : Int} {p : Nat} (hp : (l.takeWhile (fun r => decide (r.t < t))).length = p) {j : Nat} (hj : j < p) (hl : j < l.length) : l[j].t < t := by
  have h1 : l[j] ∈ l.takeWhile (fun r => decide (r.t < t)) := by
    rw [tw_take hp]
    exact List.mem_take_iff_getElem.2 ⟨j, by omega, rfl⟩
  exact mem_takeWhile_lt _ h1
theorem tw_ge : ∀ {l : List Rf} {t : Int} {p : Nat}, (l.takeWhile (fun r => decide (r.t < t))).length = p → (hl : p < l.length) → ¬ l[p].t < t
  | [], _, _, _, hl => by simp at hl
  | r :: l, t, p, hp, hl => by
    rw [List.takeWhile_cons] at hp
    by_cases h : r.t < t
    · rw [if_pos (by simpa using h), List.length_cons] at hp
      cases p with
      | zero => omega
      | succ p => exact tw_ge (l := l) (by omega) (by simpa using hl)
    · rw [if_neg (by simpa using h)] at hp
      simp at hp; subst hp; exact h
theorem tw_le (l : List Rf) (t : Int) : (l.takeWhile (fun r => decide (r.t < t))).length ≤ l.length := (List.takeWhile_sublist _).length_le
end Chk
theorem rf_one (x y : Int) : ∀ u ∈ ([.int .i64 x, .int .i64 y] : List Value), u.oneCell' = true := by
  intro u hu; simp only [List.mem_cons, List.not_mem_nil, or_false] at hu; rcases hu with rfl | rfl <;> rfl
def RWithRes (w : World) (l : List Chk.Rf) (e : Ending) (w' : World) : Prop := ∃ A c, e = .returned (.slice A l.length c) ∧ w'.ownsRow w.heap.size 83 2 (.slice A l.length c) l.length (rfs l) ∧ Below w.heap.size w w'
set_option maxRecDepth 100000 in
set_option maxHeartbeats 3200000 in
theorem rwith_fp (A : Option Addr) (n c : Nat) (l : List Chk.Rf) (hl : l.length = n) (hn : n ≤ 1000) (w : World) (hr : Rd w w.heap.size 2 A n (rfs l)) (t m : Int) (p : Nat) (hp : (l.takeWhile (fun r => decide (r.t < t))).length = p) (hpn : p = n) (hm : 0 < m) :
    Calls Try.prog 78 #[.slice A n c, .int .i64 t, .int .i64 m] w (RWithRes w (Chk.withR l t m)) := by
  have HR := Lib.hid hr
  have HL := Lib.hid hl
  have HP := Lib.hid hp
  have HMID : Hid (Chk.withJ l t m 0 = l.take p ++ [⟨t, m⟩]) := Lib.hid (by unfold Chk.withJ; rw [Chk.tw_take hp, if_pos hm]; simp)
  subst hpn
  clear hr hl hp
  go_enter Try.func78, Try.ntmps78
  go_upto_region 3 with fail
  go_loopw [7, 8] (fun u7 u8 wr => ∃ (j : Nat) (A3 : Option Addr) (c3 : Nat), j ≤ p ∧ u8 = .int .i64 (j : Int) ∧ u7 = .slice A3 j c3 ∧ Hid (wr.ownsRow w.heap.size 83 2 (.slice A3 j c3) j (rfs (l.take j))) ∧ Hid (Below w.heap.size w wr)) (fun _ u8 _ => p - (intOf u8).toNat)
  case atStart => exact ⟨0, none, 0, Nat.zero_le _, rfl, rfl, Lib.hid (World.ownsRow_nil _ _ _ _), Lib.hid (Below.refl _ _)⟩
  case round =>
    obtain ⟨j, A3, c3, hj, rfl, rfl, HO, HB⟩ := hrel
    by_cases hlt : j < p
    · have hjl : j < l.length := by rw [HL.out]; omega
      have hjn : j < p := by omega
      obtain ⟨b, off, rfl, hbb, hrg⟩ := HR.out.elem (f := rfCells) (fun _ _ => rfl) hjl hjn
      have k0 : wr.cell? ⟨b, off + j * 2, none⟩ = some (.int .i64 (l[j]).t) := (HB.out.cell (p := ⟨b, off + j * 2, none⟩) hbb).trans (hrg 0 _ rfl)
      have k1 : wr.cell? ⟨b, off + j * 2 + 1, none⟩ = some (.int .i64 (l[j]).n) := (HB.out.cell (p := ⟨b, off + j * 2 + 1, none⟩) hbb).trans (hrg 1 _ rfl)
      have hx := Chk.tw_lt HP.out hlt hjl
      have hsn : rfs (l.take (j + 1)) = rfs (l.take j) ++ [.int .i64 (l[j]).t, .int .i64 (l[j]).n] := by rw [List.take_succ_eq_append_getElem hjl, rfs_app]; rfl
      obtain ⟨x, hxx⟩ : ∃ y, (l[j]).t = y := ⟨_, rfl⟩
      obtain ⟨y, hyy⟩ : ∃ y, (l[j]).n = y := ⟨_, rfl⟩
      rw [hxx] at k0 hx hsn
      rw [hyy] at k1 hsn
      have HSN := Lib.hid hsn
      have e1 : (0 : Int) ≤ (j : Int) := by omega
      have e2 : (j : Int) < (p : Int) := by omega
      clear hrg hxx hyy hsn hjl hbb
      go_wp2_with (at_builtin; refine wpList_appN rfl (.tmp 25) (.tmp 30) 43 rfl w.heap.size 83 _ 2 16 refT A3 j c3 (rfs (l.take j)) [.int .i64 x, .int .i64 y] _ rfl rfl rfl HO.out HB.out rfl (rf_one _ _) (by omega) (Nat.le_refl _) HB.out.size ?_; intro g4 c4 w4 own4 hb4 hg4; rw [← HSN.out] at own4; have HO4 := Lib.hid own4; have HB4 := Lib.hid hb4; clear own4 hb4 hg4)
      go_roundw
      case rel => exact ⟨j + 1, some ⟨g4, 0, none⟩, c4, by omega, by go_num, rfl, HO4, HB4⟩
      case measure => simp [intOf]; omega
    · obtain rfl : j = p := by omega
      go_upto_region 9 with (at_builtin; refine wpList_appN rfl (.tmp 34) (.tmp 38) 43 rfl w.heap.size 83 _ 2 16 refT A3 j c3 (rfs (l.take j)) [.int .i64 t, .int .i64 m] _ rfl rfl rfl HO.out HB.out rfl (rf_one _ _) (by omega) (Nat.le_refl _) HB.out.size ?_; intro g4 c4 w4 own4 hb4 hg4; have HO4 : Hid (w4.ownsRow w.heap.size 83 2 (.slice (some ⟨g4, 0, none⟩) (j + 1) c4) (j + 1) (rfs (Chk.withJ l t m 0))) := Lib.hid (by rw [HMID.out, rfs_app]; exact own4); have HB4 := Lib.hid hb4; clear own4 hb4 hg4)
      go_loopw [7, 9] (fun u7 u9 wx => ∃ (wy : World) (i L : Nat) (A5 : Option Addr) (c5 : Nat), wy = wx ∧ i ≤ j ∧ u9 = .int .i64 (i : Int) ∧ u7 = .slice A5 L c5 ∧ Hid (L = (Chk.withJ l t m i).length) ∧ Hid (wy.ownsRow w.heap.size 83 2 (.slice A5 L c5) L (rfs (Chk.withJ l t m i))) ∧ Hid (Below w.heap.size w wy)) (fun _ u9 _ => j - (intOf u9).toNat)
      case atStart => exact ⟨_, 0, j + 1, some ⟨g4, 0, none⟩, c4, rfl, Nat.zero_le _, rfl, by go_num, Lib.hid (by rw [HMID.out]; simp; rw [HL.out]; omega), HO4, HB4⟩
      case round =>
        obtain ⟨wy, i, L, A5, c5, rfl, hi, rfl, rfl, HLL, HO5, HB5⟩ := hrel
        by_cases hil : i < j
        · have hjl : i < l.length := by rw [HL.out]; omega
          obtain ⟨b, off, rfl, hbb, hrg⟩ := HR.out.elem (f := rfCells) (fun _ _ => rfl) hjl hil
          have k0 : wy.cell? ⟨b, off + i * 2, none⟩ = some (.int .i64 (l[i]).t) := (HB5.out.cell (p := ⟨b, off + i * 2, none⟩) hbb).trans (hrg 0 _ rfl)
          have k1 : wy.cell? ⟨b, off + i * 2 + 1, none⟩ = some (.int .i64 (l[i]).n) := (HB5.out.cell (p := ⟨b, off + i * 2 + 1, none⟩) hbb).trans (hrg 1 _ rfl)
          have hyes := Chk.withJ_yes (t := t) (n := m) hjl
          have hno := Chk.withJ_no (t := t) (n := m) hjl
          have hle := Chk.withJ_len l t m i
          have HLB : Hid (L ≤ 4000) := Lib.hid (by rw [HLL.out]; rw [HL.out] at hle; omega)
          have hcell : rfs [l[i]] = [.int .i64 (l[i]).t, .int .i64 (l[i]).n] := rfl
          obtain ⟨rr, hrr⟩ : ∃ y, l[i] = y := ⟨_, rfl⟩
          rw [hrr] at k0 k1 hyes hno hcell
          obtain ⟨x, hxx⟩ : ∃ y, rr.t = y := ⟨_, rfl⟩
          obtain ⟨y, hyy⟩ : ∃ y, rr.n = y := ⟨_, rfl⟩
          rw [hxx] at k0 hyes hno hcell
          rw [hyy] at k1 hcell
          have e1 : (0 : Int) ≤ (i : Int) := by omega
          have e2 : (i : Int) < (j : Int) := by omega
          by_cases hx : t < x
          · have HY : Hid (Chk.withJ l t m (i + 1) = Chk.withJ l t m i ++ [rr] ∧ rfs [rr] = [.int .i64 x, .int .i64 y]) := Lib.hid ⟨hyes hx, hcell⟩
            have hlb := HLB.out
            clear hrg hxx hyy hyes hno hcell hrr hle hjl hbb
            go_wp2_with (at_builtin; refine wpList_appN rfl (.tmp 53) (.tmp 58) 43 rfl w.heap.size 83 _ 2 16 refT A5 L c5 (rfs (Chk.withJ l t m i)) [.int .i64 x, .int .i64 y] _ rfl rfl rfl HO5.out HB5.out rfl (rf_one _ _) (by omega) (Nat.le_refl _) HB5.out.size ?_; intro g6 c6 w6 own4 hb4 hg6; rw [← HY.out.2, ← rfs_app, ← HY.out.1] at own4; have HO6 := Lib.hid own4; have HB6 := Lib.hid hb4; clear own4 hb4 hg6)
            go_roundw
            case rel => exact ⟨_, i + 1, L + 1, some ⟨g6, 0, none⟩, c6, rfl, by omega, by go_num, rfl, Lib.hid (by rw [HY.out.1, List.length_append, ← HLL.out]; rfl), HO6, HB6⟩
            case measure => simp [intOf]; omega
          · have HY : Hid (Chk.withJ l t m (i + 1) = Chk.withJ l t m i) := Lib.hid (hno hx)
            clear hrg hxx hyy hyes hno hcell hrr hle hjl hbb
            go_wp2_with fail
            go_roundw
            case rel => exact ⟨_, i + 1, L, A5, c5, rfl, by omega, by go_num, rfl, Lib.hid (by rw [HY.out]; exact HLL.out), Lib.hid (by rw [HY.out]; exact HO5.out), HB5⟩
            case measure => simp [intOf]; omega
        · obtain rfl : i = j := by omega
          have HE := Lib.hid (Chk.withJ_all (l := l) (t := t) (n := m) (j := i) (by rw [HL.out]; exact Nat.le_refl _))
          go_wp2_with fail
          go_ret
          have h1 := HLL.out
          have h2 := HO5.out
          rw [HE.out] at h1 h2
          subst h1
          exact ⟨A5, c5, rfl, h2, HB5.out⟩
set_option maxRecDepth 100000 in
set_option maxHeartbeats 3200000 in
theorem rwith_fz (A : Option Addr) (n c : Nat) (l : List Chk.Rf) (hl : l.length = n) (hn : n ≤ 1000) (w : World) (hr : Rd w w.heap.size 2 A n (rfs l)) (t m : Int) (p : Nat) (hp : (l.takeWhile (fun r => decide (r.t < t))).length = p) (hpn : p = n) (hm : ¬ 0 < m) :
    Calls Try.prog 78 #[.slice A n c, .int .i64 t, .int .i64 m] w (RWithRes w (Chk.withR l t m)) := by
  have HR := Lib.hid hr
  have HL := Lib.hid hl
  have HP := Lib.hid hp
  have HMID : Hid (Chk.withJ l t m 0 = l.take p) := Lib.hid (by unfold Chk.withJ; rw [Chk.tw_take hp, if_neg hm]; simp)
  subst hpn
  clear hr hl hp
  go_enter Try.func78, Try.ntmps78
  go_upto_region 3 with fail
  go_loopw [7, 8] (fun u7 u8 wr => ∃ (j : Nat) (A3 : Option Addr) (c3 : Nat), j ≤ p ∧ u8 = .int .i64 (j : Int) ∧ u7 = .slice A3 j c3 ∧ Hid (wr.ownsRow w.heap.size 83 2 (.slice A3 j c3) j (rfs (l.take j))) ∧ Hid (Below w.heap.size w wr)) (fun _ u8 _ => p - (intOf u8).toNat)
  case atStart => exact ⟨0, none, 0, Nat.zero_le _, rfl, rfl, Lib.hid (World.ownsRow_nil _ _ _ _), Lib.hid (Below.refl _ _)⟩
  case round =>
    obtain ⟨j, A3, c3, hj, rfl, rfl, HO, HB⟩ := hrel
    by_cases hlt : j < p
    · have hjl : j < l.length := by rw [HL.out]; omega
      have hjn : j < p := by omega
      obtain ⟨b, off, rfl, hbb, hrg⟩ := HR.out.elem (f := rfCells) (fun _ _ => rfl) hjl hjn
      have k0 : wr.cell? ⟨b, off + j * 2, none⟩ = some (.int .i64 (l[j]).t) := (HB.out.cell (p := ⟨b, off + j * 2, none⟩) hbb).trans (hrg 0 _ rfl)
      have k1 : wr.cell? ⟨b, off + j * 2 + 1, none⟩ = some (.int .i64 (l[j]).n) := (HB.out.cell (p := ⟨b, off + j * 2 + 1, none⟩) hbb).trans (hrg 1 _ rfl)
      have hx := Chk.tw_lt HP.out hlt hjl
      have hsn : rfs (l.take (j + 1)) = rfs (l.take j) ++ [.int .i64 (l[j]).t, .int .i64 (l[j]).n] := by rw [List.take_succ_eq_append_getElem hjl, rfs_app]; rfl
      obtain ⟨x, hxx⟩ : ∃ y, (l[j]).t = y := ⟨_, rfl⟩
      obtain ⟨y, hyy⟩ : ∃ y, (l[j]).n = y := ⟨_, rfl⟩
      rw [hxx] at k0 hx hsn
      rw [hyy] at k1 hsn
      have HSN := Lib.hid hsn
      have e1 : (0 : Int) ≤ (j : Int) := by omega
      have e2 : (j : Int) < (p : Int) := by omega
      clear hrg hxx hyy hsn hjl hbb
      go_wp2_with (at_builtin; refine wpList_appN rfl (.tmp 25) (.tmp 30) 43 rfl w.heap.size 83 _ 2 16 refT A3 j c3 (rfs (l.take j)) [.int .i64 x, .int .i64 y] _ rfl rfl rfl HO.out HB.out rfl (rf_one _ _) (by omega) (Nat.le_refl _) HB.out.size ?_; intro g4 c4 w4 own4 hb4 hg4; rw [← HSN.out] at own4; have HO4 := Lib.hid own4; have HB4 := Lib.hid hb4; clear own4 hb4 hg4)
      go_roundw
      case rel => exact ⟨j + 1, some ⟨g4, 0, none⟩, c4, by omega, by go_num, rfl, HO4, HB4⟩
      case measure => simp [intOf]; omega
    · obtain rfl : j = p := by omega
      go_upto_region 9 with fail
      have HO4 : Hid (wr.ownsRow w.heap.size 83 2 (.slice A3 j c3) j (rfs (Chk.withJ l t m 0))) := Lib.hid (by rw [HMID.out]; exact HO.out)
      go_loopw [7, 9] (fun u7 u9 wx => ∃ (wy : World) (i L : Nat) (A5 : Option Addr) (c5 : Nat), wy = wx ∧ i ≤ j ∧ u9 = .int .i64 (i : Int) ∧ u7 = .slice A5 L c5 ∧ Hid (L = (Chk.withJ l t m i).length) ∧ Hid (wy.ownsRow w.heap.size 83 2 (.slice A5 L c5) L (rfs (Chk.withJ l t m i))) ∧ Hid (Below w.heap.size w wy)) (fun _ u9 _ => j - (intOf u9).toNat)
      case atStart => exact ⟨_, 0, j, A3, c3, rfl, Nat.zero_le _, rfl, rfl, Lib.hid (by rw [HMID.out]; simp; rw [HL.out]; omega), HO4, HB⟩
      case round =>
        obtain ⟨wy, i, L, A5, c5, rfl, hi, rfl, rfl, HLL, HO5, HB5⟩ := hrel
        by_cases hil : i < j
        · have hjl : i < l.length := by rw [HL.out]; omega
          obtain ⟨b, off, rfl, hbb, hrg⟩ := HR.out.elem (f := rfCells) (fun _ _ => rfl) hjl hil
          have k0 : wy.cell? ⟨b, off + i * 2, none⟩ = some (.int .i64 (l[i]).t) := (HB5.out.cell (p := ⟨b, off + i * 2, none⟩) hbb).trans (hrg 0 _ rfl)
          have k1 : wy.cell? ⟨b, off + i * 2 + 1, none⟩ = some (.int .i64 (l[i]).n) := (HB5.out.cell (p := ⟨b, off + i * 2 + 1, none⟩) hbb).trans (hrg 1 _ rfl)
          have hyes := Chk.withJ_yes (t := t) (n := m) hjl
          have hno := Chk.withJ_no (t := t) (n := m) hjl
          have hle := Chk.withJ_len l t m i
          have HLB : Hid (L ≤ 4000) := Lib.hid (by rw [HLL.out]; rw [HL.out] at hle; omega)
          have hcell : rfs [l[i]] = [.int .i64 (l[i]).t, .int .i64 (l[i]).n] := rfl
          obtain ⟨rr, hrr⟩ : ∃ y, l[i] = y := ⟨_, rfl⟩
          rw [hrr] at k0 k1 hyes hno hcell
          obtain ⟨x, hxx⟩ : ∃ y, rr.t = y := ⟨_, rfl⟩
          obtain ⟨y, hyy⟩ : ∃ y, rr.n = y := ⟨_, rfl⟩
          rw [hxx] at k0 hyes hno hcell
          rw [hyy] at k1 hcell
          have e1 : (0 : Int) ≤ (i : Int) := by omega
          have e2 : (i : Int) < (j : Int) := by omega
          by_cases hx : t < x
          · have HY : Hid (Chk.withJ l t m (i + 1) = Chk.withJ l t m i ++ [rr] ∧ rfs [rr] = [.int .i64 x, .int .i64 y]) := Lib.hid ⟨hyes hx, hcell⟩
            have hlb := HLB.out
            clear hrg hxx hyy hyes hno hcell hrr hle hjl hbb
            go_wp2_with (at_builtin; refine wpList_appN rfl (.tmp 53) (.tmp 58) 43 rfl w.heap.size 83 _ 2 16 refT A5 L c5 (rfs (Chk.withJ l t m i)) [.int .i64 x, .int .i64 y] _ rfl rfl rfl HO5.out HB5.out rfl (rf_one _ _) (by omega) (Nat.le_refl _) HB5.out.size ?_; intro g6 c6 w6 own4 hb4 hg6; rw [← HY.out.2, ← rfs_app, ← HY.out.1] at own4; have HO6 := Lib.hid own4; have HB6 := Lib.hid hb4; clear own4 hb4 hg6)
            go_roundw
            case rel => exact ⟨_, i + 1, L + 1, some ⟨g6, 0, none⟩, c6, rfl, by omega, by go_num, rfl, Lib.hid (by rw [HY.out.1, List.length_append, ← HLL.out]; rfl), HO6, HB6⟩
            case measure => simp [intOf]; omega
          · have HY : Hid (Chk.withJ l t m (i + 1) = Chk.withJ l t m i) := Lib.hid (hno hx)
            clear hrg hxx hyy hyes hno hcell hrr hle hjl hbb
            go_wp2_with fail
            go_roundw
            case rel => exact ⟨_, i + 1, L, A5, c5, rfl, by omega, by go_num, rfl, Lib.hid (by rw [HY.out]; exact HLL.out), Lib.hid (by rw [HY.out]; exact HO5.out), HB5⟩
            case measure => simp [intOf]; omega
        · obtain rfl : i = j := by omega
          have HE := Lib.hid (Chk.withJ_all (l := l) (t := t) (n := m) (j := i) (by rw [HL.out]; exact Nat.le_refl _))
          go_wp2_with fail
          go_ret
          have h1 := HLL.out
          have h2 := HO5.out
          rw [HE.out] at h1 h2
          subst h1
          exact ⟨A5, c5, rfl, h2, HB5.out⟩
set_option maxRecDepth 100000 in
set_option maxHeartbeats 3200000 in
theorem rwith_sp (A : Option Addr) (n c : Nat) (l : List Chk.Rf) (hl : l.length = n) (hn : n ≤ 1000) (w : World) (hr : Rd w w.heap.size 2 A n (rfs l)) (t m : Int) (p : Nat) (hp : (l.takeWhile (fun r => decide (r.t < t))).length = p) (hpn : p < n) (hm : 0 < m) :
    Calls Try.prog 78 #[.slice A n c, .int .i64 t, .int .i64 m] w (RWithRes w (Chk.withR l t m)) := by
  have HR := Lib.hid hr
  have HL := Lib.hid hl
  have HP := Lib.hid hp
  have HMID : Hid (Chk.withJ l t m 0 = l.take p ++ [⟨t, m⟩]) := Lib.hid (by unfold Chk.withJ; rw [Chk.tw_take hp, if_pos hm]; simp)
  have hge : ¬ (l[p]'(by omega)).t < t := Chk.tw_ge hp (by omega)
  obtain ⟨b0, off0, hA0, hb0, hrg0⟩ := hr.elem (f := rfCells) (fun _ _ => rfl) (show p < l.length by omega) hpn
  have hk0 := hrg0 0 _ rfl
  obtain ⟨y0, hy0⟩ : ∃ y, (l[p]'(by omega)).t = y := ⟨_, rfl⟩
  rw [hy0] at hge hk0
  have HK0 := Lib.hid (And.intro hk0 hb0)
  subst hA0
  have ef1 : (0 : Int) ≤ (p : Int) := by omega
  have ef2 : (p : Int) < (n : Int) := by omega
  clear hrg0 hk0 hb0 hy0
  clear hr hl hp
  go_enter Try.func78, Try.ntmps78
  go_upto_region 3 with fail
  go_loopw [7, 8] (fun u7 u8 wr => ∃ (j : Nat) (A3 : Option Addr) (c3 : Nat), j ≤ p ∧ u8 = .int .i64 (j : Int) ∧ u7 = .slice A3 j c3 ∧ Hid (wr.ownsRow w.heap.size 83 2 (.slice A3 j c3) j (rfs (l.take j))) ∧ Hid (Below w.heap.size w wr)) (fun _ u8 _ => p - (intOf u8).toNat)
  case atStart => exact ⟨0, none, 0, Nat.zero_le _, rfl, rfl, Lib.hid (World.ownsRow_nil _ _ _ _), Lib.hid (Below.refl _ _)⟩
  case round =>
    obtain ⟨j, A3, c3, hj, rfl, rfl, HO, HB⟩ := hrel
    by_cases hlt : j < p
    · have hjl : j < l.length := by rw [HL.out]; omega
      have hjn : j < n := by omega
      obtain ⟨b, off, hbo, hbb, hrg⟩ := HR.out.elem (f := rfCells) (fun _ _ => rfl) hjl hjn
      obtain ⟨rfl, rfl⟩ : b0 = b ∧ off0 = off := by have := Option.some.inj hbo; exact ⟨congrArg Addr.block this, congrArg Addr.off this⟩
      have k0 : wr.cell? ⟨b0, off0 + j * 2, none⟩ = some (.int .i64 (l[j]).t) := (HB.out.cell (p := ⟨b0, off0 + j * 2, none⟩) hbb).trans (hrg 0 _ rfl)
      have k1 : wr.cell? ⟨b0, off0 + j * 2 + 1, none⟩ = some (.int .i64 (l[j]).n) := (HB.out.cell (p := ⟨b0, off0 + j * 2 + 1, none⟩) hbb).trans (hrg 1 _ rfl)
      have hx := Chk.tw_lt HP.out hlt hjl
      have hsn : rfs (l.take (j + 1)) = rfs (l.take j) ++ [.int .i64 (l[j]).t, .int .i64 (l[j]).n] := by rw [List.take_succ_eq_append_getElem hjl, rfs_app]; rfl
      obtain ⟨x, hxx⟩ : ∃ y, (l[j]).t = y := ⟨_, rfl⟩
      obtain ⟨y, hyy⟩ : ∃ y, (l[j]).n = y := ⟨_, rfl⟩
      rw [hxx] at k0 hx hsn
      rw [hyy] at k1 hsn
      have HSN := Lib.hid hsn
      have e1 : (0 : Int) ≤ (j : Int) := by omega
      have e2 : (j : Int) < (n : Int) := by omega
      clear hrg hxx hyy hsn hjl hbb hbo
      go_wp2_with (at_builtin; refine wpList_appN rfl (.tmp 25) (.tmp 30) 43 rfl w.heap.size 83 _ 2 16 refT A3 j c3 (rfs (l.take j)) [.int .i64 x, .int .i64 y] _ rfl rfl rfl HO.out HB.out rfl (rf_one _ _) (by omega) (Nat.le_refl _) HB.out.size ?_; intro g4 c4 w4 own4 hb4 hg4; rw [← HSN.out] at own4; have HO4 := Lib.hid own4; have HB4 := Lib.hid hb4; clear own4 hb4 hg4)
      go_roundw
      case rel => exact ⟨j + 1, some ⟨g4, 0, none⟩, c4, by omega, by go_num, rfl, HO4, HB4⟩
      case measure => simp [intOf]; omega
    · obtain rfl : j = p := by omega
      have k00 : wr.cell? ⟨b0, off0 + j * 2, none⟩ = some (.int .i64 y0) := (HB.out.cell (p := ⟨b0, off0 + j * 2, none⟩) HK0.out.2).trans HK0.out.1
      go_upto_region 9 with (at_builtin; refine wpList_appN rfl (.tmp 34) (.tmp 38) 43 rfl w.heap.size 83 _ 2 16 refT A3 j c3 (rfs (l.take j)) [.int .i64 t, .int .i64 m] _ rfl rfl rfl HO.out HB.out rfl (rf_one _ _) (by omega) (Nat.le_refl _) HB.out.size ?_; intro g4 c4 w4 own4 hb4 hg4; have HO4 : Hid (w4.ownsRow w.heap.size 83 2 (.slice (some ⟨g4, 0, none⟩) (j + 1) c4) (j + 1) (rfs (Chk.withJ l t m 0))) := Lib.hid (by rw [HMID.out, rfs_app]; exact own4); have HB4 := Lib.hid hb4; clear own4 hb4 hg4)
      clear k00
      go_loopw [7, 9] (fun u7 u9 wx => ∃ (wy : World) (i L : Nat) (A5 : Option Addr) (c5 : Nat), wy = wx ∧ i ≤ n ∧ u9 = .int .i64 (i : Int) ∧ u7 = .slice A5 L c5 ∧ Hid (L = (Chk.withJ l t m i).length) ∧ Hid (wy.ownsRow w.heap.size 83 2 (.slice A5 L c5) L (rfs (Chk.withJ l t m i))) ∧ Hid (Below w.heap.size w wy)) (fun _ u9 _ => n - (intOf u9).toNat)
      case atStart => exact ⟨_, 0, j + 1, some ⟨g4, 0, none⟩, c4, rfl, Nat.zero_le _, rfl, by go_num, Lib.hid (by rw [HMID.out]; simp; rw [HL.out]; omega), HO4, HB4⟩
      case round =>
        obtain ⟨wy, i, L, A5, c5, rfl, hi, rfl, rfl, HLL, HO5, HB5⟩ := hrel
        by_cases hil : i < n
        · have hjl : i < l.length := by rw [HL.out]; omega
          obtain ⟨b, off, hbo, hbb, hrg⟩ := HR.out.elem (f := rfCells) (fun _ _ => rfl) hjl hil
          obtain ⟨rfl, rfl⟩ : b0 = b ∧ off0 = off := by have := Option.some.inj hbo; exact ⟨congrArg Addr.block this, congrArg Addr.off this⟩
          have k0 : wy.cell? ⟨b0, off0 + i * 2, none⟩ = some (.int .i64 (l[i]).t) := (HB5.out.cell (p := ⟨b0, off0 + i * 2, none⟩) hbb).trans (hrg 0 _ rfl)
          have k1 : wy.cell? ⟨b0, off0 + i * 2 + 1, none⟩ = some (.int .i64 (l[i]).n) := (HB5.out.cell (p := ⟨b0, off0 + i * 2 + 1, none⟩) hbb).trans (hrg 1 _ rfl)
          have hyes := Chk.withJ_yes (t := t) (n := m) hjl
          have hno := Chk.withJ_no (t := t) (n := m) hjl
          have hle := Chk.withJ_len l t m i
          have HLB : Hid (L ≤ 4000) := Lib.hid (by rw [HLL.out]; rw [HL.out] at hle; omega)
          have hcell : rfs [l[i]] = [.int .i64 (l[i]).t, .int .i64 (l[i]).n] := rfl
          obtain ⟨rr, hrr⟩ : ∃ y, l[i] = y := ⟨_, rfl⟩
          rw [hrr] at k0 k1 hyes hno hcell
          obtain ⟨x, hxx⟩ : ∃ y, rr.t = y := ⟨_, rfl⟩
          obtain ⟨y, hyy⟩ : ∃ y, rr.n = y := ⟨_, rfl⟩
          rw [hxx] at k0 hyes hno hcell
          rw [hyy] at k1 hcell
          have e1 : (0 : Int) ≤ (i : Int) := by omega
          have e2 : (i : Int) < (n : Int) := by omega
          by_cases hx : t < x
          · have HY : Hid (Chk.withJ l t m (i + 1) = Chk.withJ l t m i ++ [rr] ∧ rfs [rr] = [.int .i64 x, .int .i64 y]) := Lib.hid ⟨hyes hx, hcell⟩
            have hlb := HLB.out
            clear hrg hxx hyy hyes hno hcell hrr hle hjl hbb hbo
            go_wp2_with (at_builtin; refine wpList_appN rfl (.tmp 53) (.tmp 58) 43 rfl w.heap.size 83 _ 2 16 refT A5 L c5 (rfs (Chk.withJ l t m i)) [.int .i64 x, .int .i64 y] _ rfl rfl rfl HO5.out HB5.out rfl (rf_one _ _) (by omega) (Nat.le_refl _) HB5.out.size ?_; intro g6 c6 w6 own4 hb4 hg6; rw [← HY.out.2, ← rfs_app, ← HY.out.1] at own4; have HO6 := Lib.hid own4; have HB6 := Lib.hid hb4; clear own4 hb4 hg6)
            go_roundw
            case rel => exact ⟨_, i + 1, L + 1, some ⟨g6, 0, none⟩, c6, rfl, by omega, by go_num, rfl, Lib.hid (by rw [HY.out.1, List.length_append, ← HLL.out]; rfl), HO6, HB6⟩
            case measure => simp [intOf]; omega
          · have HY : Hid (Chk.withJ l t m (i + 1) = Chk.withJ l t m i) := Lib.hid (hno hx)
            clear hrg hxx hyy hyes hno hcell hrr hle hjl hbb hbo
            go_wp2_with fail
            go_roundw
            case rel => exact ⟨_, i + 1, L, A5, c5, rfl, by omega, by go_num, rfl, Lib.hid (by rw [HY.out]; exact HLL.out), Lib.hid (by rw [HY.out]; exact HO5.out), HB5⟩
            case measure => simp [intOf]; omega
        · obtain rfl : i = n := by omega
          have HE := Lib.hid (Chk.withJ_all (l := l) (t := t) (n := m) (j := i) (by rw [HL.out]; exact Nat.le_refl _))
          go_wp2_with fail
          go_ret
          have h1 := HLL.out
          have h2 := HO5.out
          rw [HE.out] at h1 h2
          subst h1
          exact ⟨A5, c5, rfl, h2, HB5.out⟩
set_option maxRecDepth 100000 in
set_option maxHeartbeats 3200000 in
theorem rwith_sz (A : Option Addr) (n c : Nat) (l : List Chk.Rf) (hl : l.length = n) (hn : n ≤ 1000) (w : World) (hr : Rd w w.heap.size 2 A n (rfs l)) (t m : Int) (p : Nat) (hp : (l.takeWhile (fun r => decide (r.t < t))).length = p) (hpn : p < n) (hm : ¬ 0 < m) :
    Calls Try.prog 78 #[.slice A n c, .int .i64 t, .int .i64 m] w (RWithRes w (Chk.withR l t m)) := by
  have HR := Lib.hid hr
  have HL := Lib.hid hl
  have HP := Lib.hid hp
  have HMID : Hid (Chk.withJ l t m 0 = l.take p) := Lib.hid (by unfold Chk.withJ; rw [Chk.tw_take hp, if_neg hm]; simp)
  have hge : ¬ (l[p]'(by omega)).t < t := Chk.tw_ge hp (by omega)
  obtain ⟨b0, off0, hA0, hb0, hrg0⟩ := hr.elem (f := rfCells) (fun _ _ => rfl) (show p < l.length by omega) hpn
  have hk0 := hrg0 0 _ rfl
  obtain ⟨y0, hy0⟩ : ∃ y, (l[p]'(by omega)).t = y := ⟨_, rfl⟩
  rw [hy0] at hge hk0
  have HK0 := Lib.hid (And.intro hk0 hb0)
  subst hA0
  have ef1 : (0 : Int) ≤ (p : Int) := by omega
  have ef2 : (p : Int) < (n : Int) := by omega
  clear hrg0 hk0 hb0 hy0
  clear hr hl hp
  go_enter Try.func78, Try.ntmps78
  go_upto_region 3 with fail
  go_loopw [7, 8] (fun u7 u8 wr => ∃ (j : Nat) (A3 : Option Addr) (c3 : Nat), j ≤ p ∧ u8 = .int .i64 (j : Int) ∧ u7 = .slice A3 j c3 ∧ Hid (wr.ownsRow w.heap.size 83 2 (.slice A3 j c3) j (rfs (l.take j))) ∧ Hid (Below w.heap.size w wr)) (fun _ u8 _ => p - (intOf u8).toNat)
  case atStart => exact ⟨0, none, 0, Nat.zero_le _, rfl, rfl, Lib.hid (World.ownsRow_nil _ _ _ _), Lib.hid (Below.refl _ _)⟩
  case round =>
    obtain ⟨j, A3, c3, hj, rfl, rfl, HO, HB⟩ := hrel
    by_cases hlt : j < p
    · have hjl : j < l.length := by rw [HL.out]; omega
      have hjn : j < n := by omega
      obtain ⟨b, off, hbo, hbb, hrg⟩ := HR.out.elem (f := rfCells) (fun _ _ => rfl) hjl hjn
      obtain ⟨rfl, rfl⟩ : b0 = b ∧ off0 = off := by have := Option.some.inj hbo; exact ⟨congrArg Addr.block this, congrArg Addr.off this⟩
      have k0 : wr.cell? ⟨b0, off0 + j * 2, none⟩ = some (.int .i64 (l[j]).t) := (HB.out.cell (p := ⟨b0, off0 + j * 2, none⟩) hbb).trans (hrg 0 _ rfl)
      have k1 : wr.cell? ⟨b0, off0 + j * 2 + 1, none⟩ = some (.int .i64 (l[j]).n) := (HB.out.cell (p := ⟨b0, off0 + j * 2 + 1, none⟩) hbb).trans (hrg 1 _ rfl)
      have hx := Chk.tw_lt HP.out hlt hjl
      have hsn : rfs (l.take (j + 1)) = rfs (l.take j) ++ [.int .i64 (l[j]).t, .int .i64 (l[j]).n] := by rw [List.take_succ_eq_append_getElem hjl, rfs_app]; rfl
      obtain ⟨x, hxx⟩ : ∃ y, (l[j]).t = y := ⟨_, rfl⟩
      obtain ⟨y, hyy⟩ : ∃ y, (l[j]).n = y := ⟨_, rfl⟩
      rw [hxx] at k0 hx hsn
      rw [hyy] at k1 hsn
      have HSN := Lib.hid hsn
      have e1 : (0 : Int) ≤ (j : Int) := by omega
      have e2 : (j : Int) < (n : Int) := by omega
      clear hrg hxx hyy hsn hjl hbb hbo
      go_wp2_with (at_builtin; refine wpList_appN rfl (.tmp 25) (.tmp 30) 43 rfl w.heap.size 83 _ 2 16 refT A3 j c3 (rfs (l.take j)) [.int .i64 x, .int .i64 y] _ rfl rfl rfl HO.out HB.out rfl (rf_one _ _) (by omega) (Nat.le_refl _) HB.out.size ?_; intro g4 c4 w4 own4 hb4 hg4; rw [← HSN.out] at own4; have HO4 := Lib.hid own4; have HB4 := Lib.hid hb4; clear own4 hb4 hg4)
      go_roundw
      case rel => exact ⟨j + 1, some ⟨g4, 0, none⟩, c4, by omega, by go_num, rfl, HO4, HB4⟩
      case measure => simp [intOf]; omega
    · obtain rfl : j = p := by omega
      have k00 : wr.cell? ⟨b0, off0 + j * 2, none⟩ = some (.int .i64 y0) := (HB.out.cell (p := ⟨b0, off0 + j * 2, none⟩) HK0.out.2).trans HK0.out.1
      go_upto_region 9 with fail
      have HO4 : Hid (wr.ownsRow w.heap.size 83 2 (.slice A3 j c3) j (rfs (Chk.withJ l t m 0))) := Lib.hid (by rw [HMID.out]; exact HO.out)
      clear k00
      go_loopw [7, 9] (fun u7 u9 wx => ∃ (wy : World) (i L : Nat) (A5 : Option Addr) (c5 : Nat), wy = wx ∧ i ≤ n ∧ u9 = .int .i64 (i : Int) ∧ u7 = .slice A5 L c5 ∧ Hid (L = (Chk.withJ l t m i).length) ∧ Hid (wy.ownsRow w.heap.size 83 2 (.slice A5 L c5) L (rfs (Chk.withJ l t m i))) ∧ Hid (Below w.heap.size w wy)) (fun _ u9 _ => n - (intOf u9).toNat)
      case atStart => exact ⟨_, 0, j, A3, c3, rfl, Nat.zero_le _, rfl, rfl, Lib.hid (by rw [HMID.out]; simp; rw [HL.out]; omega), HO4, HB⟩
      case round =>
        obtain ⟨wy, i, L, A5, c5, rfl, hi, rfl, rfl, HLL, HO5, HB5⟩ := hrel
        by_cases hil : i < n
        · have hjl : i < l.length := by rw [HL.out]; omega
          obtain ⟨b, off, hbo, hbb, hrg⟩ := HR.out.elem (f := rfCells) (fun _ _ => rfl) hjl hil
          obtain ⟨rfl, rfl⟩ : b0 = b ∧ off0 = off := by have := Option.some.inj hbo; exact ⟨congrArg Addr.block this, congrArg Addr.off this⟩
          have k0 : wy.cell? ⟨b0, off0 + i * 2, none⟩ = some (.int .i64 (l[i]).t) := (HB5.out.cell (p := ⟨b0, off0 + i * 2, none⟩) hbb).trans (hrg 0 _ rfl)
          have k1 : wy.cell? ⟨b0, off0 + i * 2 + 1, none⟩ = some (.int .i64 (l[i]).n) := (HB5.out.cell (p := ⟨b0, off0 + i * 2 + 1, none⟩) hbb).trans (hrg 1 _ rfl)
          have hyes := Chk.withJ_yes (t := t) (n := m) hjl
          have hno := Chk.withJ_no (t := t) (n := m) hjl
          have hle := Chk.withJ_len l t m i
          have HLB : Hid (L ≤ 4000) := Lib.hid (by rw [HLL.out]; rw [HL.out] at hle; omega)
          have hcell : rfs [l[i]] = [.int .i64 (l[i]).t, .int .i64 (l[i]).n] := rfl
          obtain ⟨rr, hrr⟩ : ∃ y, l[i] = y := ⟨_, rfl⟩
          rw [hrr] at k0 k1 hyes hno hcell
          obtain ⟨x, hxx⟩ : ∃ y, rr.t = y := ⟨_, rfl⟩
          obtain ⟨y, hyy⟩ : ∃ y, rr.n = y := ⟨_, rfl⟩
          rw [hxx] at k0 hyes hno hcell
          rw [hyy] at k1 hcell
          have e1 : (0 : Int) ≤ (i : Int) := by omega
          have e2 : (i : Int) < (n : Int) := by omega
          by_cases hx : t < x
          · have HY : Hid (Chk.withJ l t m (i + 1) = Chk.withJ l t m i ++ [rr] ∧ rfs [rr] = [.int .i64 x, .int .i64 y]) := Lib.hid ⟨hyes hx, hcell⟩
            have hlb := HLB.out
            clear hrg hxx hyy hyes hno hcell hrr hle hjl hbb hbo
            go_wp2_with (at_builtin; refine wpList_appN rfl (.tmp 53) (.tmp 58) 43 rfl w.heap.size 83 _ 2 16 refT A5 L c5 (rfs (Chk.withJ l t m i)) [.int .i64 x, .int .i64 y] _ rfl rfl rfl HO5.out HB5.out rfl (rf_one _ _) (by omega) (Nat.le_refl _) HB5.out.size ?_; intro g6 c6 w6 own4 hb4 hg6; rw [← HY.out.2, ← rfs_app, ← HY.out.1] at own4; have HO6 := Lib.hid own4; have HB6 := Lib.hid hb4; clear own4 hb4 hg6)
            go_roundw
            case rel => exact ⟨_, i + 1, L + 1, some ⟨g6, 0, none⟩, c6, rfl, by omega, by go_num, rfl, Lib.hid (by rw [HY.out.1, List.length_append, ← HLL.out]; rfl), HO6, HB6⟩
            case measure => simp [intOf]; omega
          · have HY : Hid (Chk.withJ l t m (i + 1) = Chk.withJ l t m i) := Lib.hid (hno hx)
            clear hrg hxx hyy hyes hno hcell hrr hle hjl hbb hbo
            go_wp2_with fail
            go_roundw
            case rel => exact ⟨_, i + 1, L, A5, c5, rfl, by omega, by go_num, rfl, Lib.hid (by rw [HY.out]; exact HLL.out), Lib.hid (by rw [HY.out]; exact HO5.out), HB5⟩
            case measure => simp [intOf]; omega
        · obtain rfl : i = n := by omega
          have HE := Lib.hid (Chk.withJ_all (l := l) (t := t) (n := m) (j := i) (by rw [HL.out]; exact Nat.le_refl _))
          go_wp2_with fail
          go_ret
          have h1 := HLL.out
          have h2 := HO5.out
          rw [HE.out] at h1 h2
          subst h1
          exact ⟨A5, c5, rfl, h2, HB5.out⟩
theorem rwith_any (A : Option Addr) (n c : Nat) (l : List Chk.Rf) (hl : l.length = n) (hn : n ≤ 1000) (w : World) (hr : Rd w w.heap.size 2 A n (rfs l)) (t m : Int) :
    Calls Try.prog 78 #[.slice A n c, .int .i64 t, .int .i64 m] w (RWithRes w (Chk.withR l t m)) := by
  have hle := Chk.tw_le l t
  rw [hl] at hle
  by_cases hm : 0 < m
  · by_cases h : (l.takeWhile (fun r => decide (r.t < t))).length = n
    · exact rwith_fp A n c l hl hn w hr t m _ rfl h hm
    · exact rwith_sp A n c l hl hn w hr t m _ rfl (by omega) hm
  · by_cases h : (l.takeWhile (fun r => decide (r.t < t))).length = n
    · exact rwith_fz A n c l hl hn w hr t m _ rfl h hm
    · exact rwith_sz A n c l hl hn w hr t m _ rfl (by omega) hm
end Go.Proofs.Ytcicfneekmbamaa
