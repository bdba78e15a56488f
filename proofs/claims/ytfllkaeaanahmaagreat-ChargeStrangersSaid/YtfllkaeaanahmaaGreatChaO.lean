/- The specification's Find of layer 24: whether a stripe is a used one. Conditions: the rows are kept. -/
import Derived.Test.YtfllkaeaanahmaaGreatChaN
namespace Go.Proofs.YtfllkaeaanahmaaGreat
set_option linter.unusedVariables false
set_option linter.unusedSimpArgs false
open Go.RowKit
def FindRes (er : Int) (w : World) (e : Ending) (w' : World) : Prop := ∃ u0 u1 u2 : Int, e = .returned (.tuple #[.agg #[.int .i64 u0, .int .i64 u1, .int .i64 u2], .int .i64 er]) ∧ Below w.heap.size w w'
set_option maxRecDepth 100000 in
set_option maxHeartbeats 3200000 in
theorem find24_any {w : World} {B n cp : Nat} {A : Option Addr} {D : List S.RR} {rs : List S.Str.Rw} (h : S.RowsIn w B A n D rs) (hB : B ≤ w.heap.size) (r g : Int) (er : Int) (he : (if Cha.foundB rs r g = true then (0 : Int) else 12) = er) :
  Calls Tryz.prog 25 #[.slice A n cp, .agg #[.int .i64 r, .int .i64 g]] w (FindRes er w) := by
 have hmx := h.mx
 have hln := h.len.2
 obtain ⟨w0, hw0⟩ : ∃ x, w.alloc (.cells #[.int .i64 r, .int .i64 g] 63) = x := ⟨_, rfl⟩
 obtain ⟨k0, k1, hb0, hs0⟩ := box_st hw0
 have HW := Lib.hid hw0
 have HB0 := Lib.hid (And.intro hb0 hs0)
 have HK := Lib.hid (And.intro k0 k1)
 clear hw0 k0 k1 hb0 hs0
 by_cases hin : 0 ≤ r ∧ r < (n : Int)
 case neg =>
  have her : er = 12 := by
   rw [← he, if_neg]
   unfold Cha.foundB
   rw [hln, decide_eq_false hin]; simp
  subst her
  have hc : r < 0 ∨ (0 ≤ r ∧ (n : Int) ≤ r) := by omega
  clear hin he hln h hB
  rcases hc with e1 | ⟨e1, e2⟩
  all_goals
   go_enter Tryz.func25, Tryz.ntmps25
   go_upto_region 1 with (rw [HW.out]; refine wpList_allocRow rfl _ rfl _ infoUd' ?_; intro w1 r1 b1 z1)
   have c0 := (b1.cell (p := ⟨w.heap.size, 0, none⟩) (by have := HB0.out.2; show w.heap.size < _; omega)).trans HK.out.1
   have HB1 := Lib.hid (HB0.out.1.trans (b1.mono HB0.out.1.size))
   have HZ : Hid (w.heap.size ≤ w0.heap.size) := Lib.hid (by have := HB0.out.2; omega)
   clear b1 z1
   go_wp2_with (have tok := r1; refine wpList_storeRow rfl _ (.tmp 4) (.tmp 42) rfl (l' := [.int .i64 0, .int .i64 0, .int .i64 0]) r1 rfl rfl S.sizeUs rfl rfl ?_; intro w3 r3 g3 z3; clear tok)
   refine bodyPost_ret (resultRowS2 rfl _ _ r3 rfl Tryz.underlying72 S.sizeUs) rfl ?_
   exact ⟨0, 0, 0, rfl, HB1.out.grown g3 HB1.out.size (fun i hi => by have := Option.some.inj hi; have := HZ.out; omega)⟩
 case pos =>
  obtain ⟨h0, h1⟩ := hin
  obtain ⟨k, rfl⟩ : ∃ k : Nat, r = (k : Int) := ⟨r.toNat, by omega⟩
  have hkn : k < n := by omega
  obtain ⟨b, off, x, rfl, hbb, hD, hl, hok, hrg, _, _, c2⟩ := h.at hkn
  have hfb : Cha.foundB rs k g = x.r.used.any (fun u => decide (u.g = g)) := by
   unfold Cha.foundB
   rw [decide_eq_true (by rw [hln]; omega), Bool.true_and, Int.toNat_natCast, List.getD, hl]; rfl
  rw [hfb] at he
  have hblt := Nat.lt_of_lt_of_le hbb hB
  have HX := Lib.hid (hok.more hB)
  obtain ⟨⟨cd, wd, us⟩, xA, xk⟩ := x
  unfold S.RR.v at c2
  dsimp only at c2 he
  obtain ⟨m, hm⟩ : ∃ y, us.length = y := ⟨_, rfl⟩
  rw [hm] at c2
  have hm47 := HX.out.mx
  dsimp only at hm47
  rw [hm] at hm47
  have HM := Lib.hid hm
  have HE := Lib.hid he
  have HC := Lib.hid (And.intro hblt c2)
  have e1 : (0 : Int) ≤ (k : Int) := by omega
  have e2 : (k : Int) < (n : Int) := by omega
  clear hm he hfb hbb hD hl hok hrg c2 hblt h hB hln h0 h1
  go_enter Tryz.func25, Tryz.ntmps25
  go_upto_region 1 with (rw [HW.out]; refine wpList_allocRow rfl _ rfl _ infoUd' ?_; intro w1 r1 b1 z1)
  have c0 := (b1.cell (p := ⟨w.heap.size, 0, none⟩) (by have := HB0.out.2; show w.heap.size < _; omega)).trans HK.out.1
  have c1 := (b1.cell (p := ⟨w.heap.size, 1, none⟩) (by have := HB0.out.2; show w.heap.size < _; omega)).trans HK.out.2
  have HB1 := Lib.hid (HB0.out.1.trans (b1.mono HB0.out.1.size))
  have HZ : Hid (w.heap.size ≤ w0.heap.size) := Lib.hid (by have := HB0.out.2; omega)
  have c2 : w1.cell? ⟨b, off + k * 3 + 2, none⟩ = some (.slice xA m xk) := (HB1.out.cell (p := ⟨b, off + k * 3 + 2, none⟩) HC.out.1).trans HC.out.2
  clear b1 z1
  go_upto_region 4 with fail
  clear c2 c0
  go_loopw [7] (fun u7 wx => ∃ (j q : Nat), wx = w1.drewN q ∧ j ≤ m ∧ u7 = .int .i64 (j : Int) ∧ Hid (∀ i (hi : i < us.length), i < j → us[i].g ≠ g)) (fun u7 _ => m - (intOf u7).toNat)
  case atStart => exact ⟨0, 0, rfl, Nat.zero_le _, rfl, Lib.hid fun i _ h => absurd h (Nat.not_lt_zero i)⟩
  case round =>
   obtain ⟨j, q, rfl, hj, rfl, HN⟩ := hrel
   by_cases hlt : j < m
   ·
    have hju : j < us.length := by rw [HM.out]; exact hlt
    obtain ⟨bu, ou, hA, hbu, hru, hcu⟩ := HX.out.at (k := j) hju
    dsimp only at hA hcu hru
    subst hA
    obtain ⟨⟨ug, ue, uc⟩, hug⟩ : ∃ y, us[j] = y := ⟨_, rfl⟩
    rw [hug] at hcu hru
    dsimp only at hcu
    have k3 : w1.cell? ⟨bu, ou + j * 3, none⟩ = some (.int .i64 ug) := (HB1.out.cell (p := ⟨bu, ou + j * 3, none⟩) hbu).trans hcu
    have HUG := Lib.hid hug
    have HRU := Lib.hid hru
    have HBU := Lib.hid hbu
    have i0 : (0 : Int) ≤ (j : Int) := by omega
    have i1 : (j : Int) < (m : Int) := by omega
    clear hug hcu hru hbu
    by_cases hg : ug = g
    ·
     have e9 : (ug == g) = true := by simp [hg]
     have HF : Hid (us.any (fun u => decide (u.g = g)) = true) := Lib.hid (by
      rw [List.any_eq_true]
      exact ⟨us[j], List.getElem_mem hju, by rw [HUG.out]; exact decide_eq_true hg⟩)
     clear hg HUG hju
     have hrw : ∀ q', (w1.drewN q').rangeAt bu (ou + j * 3) [.int .i64 ug, .int .i64 ue, .int .i64 uc] := fun q' t u ht => (HB1.out.cell (p := ⟨bu, ou + j * 3 + t, none⟩) HBU.out).trans (HRU.out t u ht)
     go_upto_region 6 with fail
     go_region
     all_goals go_wp2_with (first
      | (refine wpList_load_mid rfl _ (.tmp 40) rfl bu (ou + j * 3) rfl [.int .i64 ug, .int .i64 ue, .int .i64 uc] _ (hrw _) Tryz.underlying72 rfl S.sizeUs ?_)
      | (refine wpList_storeRow rfl _ (.tmp 4) (.tmp 41) rfl (l' := [.int .i64 ug, .int .i64 ue, .int .i64 uc]) (r1.drewN _) rfl rfl S.sizeUs rfl rfl ?_; intro w3 r3 g3 z3))
     refine bodyPost_ret (resultRowS2 rfl _ _ r3 rfl Tryz.underlying72 S.sizeUs) rfl ?_
     obtain rfl : er = 0 := by have := HE.out; rw [if_pos HF.out] at this; exact this.symm
     exact ⟨ug, ue, uc, rfl, (below_drewN HB1.out _).grown g3 (below_drewN HB1.out _).size (fun i hi => by have := Option.some.inj hi; have := HZ.out; omega)⟩
    ·
     have e9 : (ug == g) = false := by simp [hg]
     have HN2 : Hid (∀ i (hi : i < us.length), i < j + 1 → us[i].g ≠ g) := Lib.hid fun i hi h => by
      by_cases e : i = j
      ·
       subst e; rw [HUG.out]; exact hg
      ·
       exact HN.out i hi (by omega)
     clear hg HUG hju
     go_upto_region 6 with fail
     go_region
     all_goals go_wp2_with fail
     go_roundw
     case rel => exact ⟨j + 1, _, rfl, by omega, by go_num, HN2⟩
     case measure => simp [intOf]; omega
   ·
    obtain rfl : j = m := by omega
    have HF : Hid (us.any (fun u => decide (u.g = g)) = false) := Lib.hid (List.any_eq_false.2 fun u hu => by
     obtain ⟨i, hi, rfl⟩ := List.getElem_of_mem hu
     have := HN.out i hi (by have := HM.out; omega)
     simp [this])
    go_wp2_with (refine wpList_storeRow rfl _ (.tmp 4) (.tmp 42) rfl (l' := [.int .i64 0, .int .i64 0, .int .i64 0]) (r1.drewN _) rfl rfl S.sizeUs rfl rfl ?_; intro w3 r3 g3 z3)
    refine bodyPost_ret (resultRowS2 rfl _ _ r3 rfl Tryz.underlying72 S.sizeUs) rfl ?_
    obtain rfl : er = 12 := by have := HE.out; rw [if_neg (by rw [HF.out]; simp)] at this; exact this.symm
    exact ⟨0, 0, 0, rfl, (below_drewN HB1.out _).grown g3 (below_drewN HB1.out _).size (fun i hi => by have := Option.some.inj hi; have := HZ.out; omega)⟩
end Go.Proofs.YtfllkaeaanahmaaGreat
