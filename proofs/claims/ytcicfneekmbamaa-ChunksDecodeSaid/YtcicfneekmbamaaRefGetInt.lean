/- Walk of the reference's decoder of an integer: solventref01.GetInt returns what Wire.dec defines. Conditions: the slice reads as a list of at most 2^40 bytes. -/
import Derived.Test.YtcicfneekmbamaaWireGetInt
import Derived.Test.YtcicfneekmbamaaRefSame
import Derived.Deep.RegionWith
import Derived.Deep.RegionHeld3
import Derived.Deep.DeepMust
namespace Go.Proofs.Ytcicfneekmbamaa
set_option linter.unusedVariables false
set_option linter.unusedSimpArgs false
open Go.RowKit

namespace Wire
set_option maxRecDepth 10000 in
theorem val_take_ge {l : List UInt8} {i : Nat} (h : i < l.length) : val 0 (l.take i) * 256 ≤ val 0 l := by
  have e : l = l.take i ++ l.drop i := (List.take_append_drop i l).symm
  have e2 : val 0 l = val (val 0 (l.take i)) (l.drop i) := by
    simp only [val]
    rw [← List.foldl_append, ← e]
  rw [e2, val_eq _ (l.drop i)]
  have h1 : 1 ≤ (l.drop i).length := by rw [List.length_drop]; omega
  have h2 : 256 ^ 1 ≤ 256 ^ (l.drop i).length := Nat.pow_le_pow_right (by omega) h1
  have h3 := Nat.mul_le_mul_left (val 0 (l.take i)) h2
  rw [Nat.pow_one] at h3
  exact Nat.le_trans h3 (Nat.le_add_right _ _)
/-- the candidate is accepted if its encoding consists of the given bytes -/
theorem same_iff {x0 : UInt8} {t : List UInt8} {K : Nat} {n : Int} (h1 : -9223372036854775808 ≤ n) (h2 : n ≤ 9223372036854775807) {z : Prop} [Decidable z]
    (h : dec (x0 :: t) = if z then (0, 0, 6) else (n, K + 1, 0)) : dec (x0 :: t) = if enc n = (x0 :: t).take (K + 1) then (n, K + 1, 0) else (0, 0, 6) := by
  by_cases hz : z
  · rw [if_pos hz] at h
    rw [h, if_neg]
    intro he
    have := dec_enc h1 h2 ((x0 :: t).drop (K + 1))
    rw [he, List.take_append_drop, h] at this
    simp at this
  · rw [if_neg hz] at h
    rw [h, if_pos (dec_ok h).2.2.2.2.2.symm]
end Wire

set_option maxRecDepth 100000 in
set_option maxHeartbeats 1600000 in
theorem refGetInt_false (bb off c : Nat) (x0 : UInt8) (t : List UInt8) (w : World) (hL : t.length ≤ 1099511627776) (hc : t.length + 1 ≤ c) (hcm : c ≤ maxLen) (hbw : bb < w.heap.size)
    (h0 : w.cell? ⟨bb, off, none⟩ = some (.int .u8 (x0.toNat : Int))) (ht : ∀ j (hj : j < t.length), w.cell? ⟨bb, off + 1 + j, none⟩ = some (.int .u8 (t[j].toNat : Int)))
    (hneg : decide (x0 < 128) = false) :
    Calls Try.prog 88 #[.slice (some ⟨bb, off, none⟩) (t.length + 1) c] w fun e w' =>
      e = .returned (.tuple #[.int .i64 (Wire.dec (x0 :: t)).1, .int .i64 ((Wire.dec (x0 :: t)).2.1 : Nat), .int .i64 (Wire.dec (x0 :: t)).2.2]) ∧ Below w.heap.size w w' := by
  have hb := x0.toNat_lt
  unfold maxLen at hcm
  have hge := Wire.head_ge x0
  have hn : ¬ (x0.toNat : Int) < 128 := by
    have h128 : (128 : UInt8).toNat = 128 := rfl
    have : ¬ x0.toNat < (128 : UInt8).toNat := fun hh => of_decide_eq_false hneg (UInt8.lt_iff_toNat_lt.2 hh)
    rw [h128] at this
    omega
  have HX : Hid (∀ x : UInt8, (x.toNat : Int) = ((Wire.flp false x).toNat : Int)) := fun x => rfl
  rw [hneg] at hge
  obtain ⟨F, hF⟩ : ∃ F : UInt8 → UInt8, F = Wire.flp false := ⟨_, rfl⟩
  rw [← hF] at HX hge
  obtain ⟨K, hK⟩ : ∃ K, (F x0).toNat = 128 + K := ⟨(F x0).toNat - 128, by omega⟩
  have hKb : K < 128 := by have := (F x0).toNat_lt; omega
  have hx0 : (x0.toNat : Int) = 128 + (K : Int) := by have := HX.out x0; omega
  have hdec : Wire.dec (x0 :: t) = if 8 < K then (0, 0, 6) else if t.length < K then (0, 0, 5) else if ((t.take K).map F).head? = some 0 then (0, 0, 6)
      else if 9223372036854775808 ≤ Wire.val 0 ((t.take K).map F) then (0, 0, 6) else ((Wire.val 0 ((t.take K).map F) : Int), K + 1, 0) := by
    simp only [Wire.dec, hneg, ← hF, hK, Nat.add_sub_cancel_left]
    simp only [Bool.false_eq_true, if_false]
  have HDEC := Lib.hid hdec
  rw [hx0] at h0
  have HRD : Hid (Rd w w.heap.size 1 (some ⟨bb, off, none⟩) (K + 1) (bvs ((x0 :: t).take (K + 1))) ∨ t.length < K) := by
    by_cases h : t.length < K
    · exact .inr h
    · left
      refine ⟨by simp; omega, fun _ => ⟨bb, off, rfl, hbw, fun j u hu => ?_⟩⟩
      cases j with
      | zero =>
        simp at hu
        rw [← hu, Nat.add_zero, h0, hx0]
      | succ j =>
        simp only [bvs, List.take_succ_cons, List.map_cons, List.getElem?_cons_succ, List.getElem?_map, Option.map_eq_some_iff] at hu
        obtain ⟨y, hy, rfl⟩ := hu
        rw [List.getElem?_take] at hy
        split at hy
        · obtain ⟨hj, rfl⟩ := List.getElem?_eq_some_iff.1 hy
          have e : off + (j + 1) = off + 1 + j := by omega
          rw [e]; exact ht j hj
        · cases hy
  have hx0' := Lib.hid hx0
  clear hdec hK hge hneg hF hx0 hn hb
  by_cases hK8 : 8 < K
  · go_enter Try.func88, Try.ntmps88
    go_wp2
    go_ret3
    refine ⟨?_, Below.refl _ _⟩
    rw [HDEC.out, if_pos hK8]; rfl
  by_cases hlen : t.length < K
  · go_enter Try.func88, Try.ntmps88
    go_wp2
    go_ret3
    refine ⟨?_, Below.refl _ _⟩
    rw [HDEC.out, if_neg hK8, if_pos hlen]; rfl
  obtain ⟨ds, hds⟩ : ∃ ds, ds = (t.take K).map F := ⟨_, rfl⟩
  have HDL : Hid (ds.length = K) := by show _ = _; rw [hds, List.length_map, List.length_take]; omega
  have HDG : Hid (∀ i (hi : i < ds.length) (hi' : i < t.length), ds[i] = F t[i]) := by intro i hi hi'; simp [hds]
  have HR : Hid (Wire.dec (x0 :: t) = if ds.head? = some 0 then (0, 0, 6) else if 9223372036854775808 ≤ Wire.val 0 ds then (0, 0, 6) else ((Wire.val 0 ds : Int), K + 1, 0)) := by
    show _ = _
    rw [HDEC.out, if_neg hK8, if_neg hlen, ← hds]
  have HRD2 := Lib.hid (HRD.out.resolve_right hlen)
  have HTL : Hid (((x0 :: t).take (K + 1)).length = K + 1) := by show _ = _; simp; omega
  clear HDEC hds HRD
  have hk : (128 : Int) + (K : Int) - 128 = K := by omega
  go_enter Try.func88, Try.ntmps88
  go_wp2
  go_loop [7, 8, 9] (fun u7 u8 u9 => ∃ i m : Nat, i ≤ K ∧ u8 = .int .i64 (i + 1) ∧ u7 = .int .i64 m ∧ Hid (m = Wire.val 0 (ds.take i)) ∧ m < 9223372036854775808) (fun _ u _ => K + 1 - (intOf u).toNat)
  case atStart => exact ⟨0, 0, by omega, by simp, rfl, by simp [Hid, Wire.val], by omega⟩
  case round =>
    obtain ⟨i, m, hi, rfl, rfl, HM, hm63⟩ := hrel
    by_cases hik : i < K
    · have hcell := ht i (by omega)
      obtain ⟨D, hD⟩ : ∃ D, D = t[i] := ⟨_, rfl⟩
      have hdl : i < ds.length := by rw [HDL.out]; exact hik
      have HD : Hid (m * 256 + (F D).toNat = Wire.val 0 (ds.take (i + 1))) := by
        show _ = _
        rw [Wire.val_take_succ hdl, ← HM.out, hD]
        congr 2
        exact (HDG.out i hdl (by omega)).symm
      have HG := Lib.hid (Wire.val_take_ge hdl)
      rw [← hD] at hcell
      clear hD hdl
      have hDb := D.toNat_lt
      have hFb := (F D).toNat_lt
      have hxD := HX.out D
      have hidx : off + 1 + i = off + (i + 1) := by omega
      rw [hidx] at hcell
      clear hidx
      by_cases hm55 : 36028797018963967 < m
      · go_wp2
        go_ret3
        refine ⟨?_, Below.refl _ _⟩
        have h3 := HG.out
        rw [← HM.out] at h3
        have : Wire.dec (x0 :: t) = (0, 0, 6) := by
          rw [HR.out]
          split
          · rfl
          · rw [if_pos (by omega)]
        rw [this]; simp
      · go_wp2
        go_round
        case rel => exact ⟨i + 1, m * 256 + (F D).toNat, by omega, by go_num, by go_num, HD, by omega⟩
        case measure => simp [intOf] <;> omega
    · have HV : Hid (m = Wire.val 0 ds) := by
        show _ = _
        rw [HM.out, List.take_of_length_le (by rw [HDL.out]; omega)]
      have HS : Hid (Wire.dec (x0 :: t) = if Wire.enc (m : Int) = (x0 :: t).take (K + 1) then ((m : Int), K + 1, 0) else (0, 0, 6)) := by
        refine Wire.same_iff (by omega) (by omega) (z := ds.head? = some 0) ?_
        rw [HR.out, ← HV.out]
        split
        · rfl
        · rw [if_neg (by omega)]
      have h9 := Wire.enc_length_le (m : Int)
      obtain ⟨S, hSS⟩ : ∃ S, decide (Wire.enc (m : Int) = (x0 :: t).take (K + 1)) = S := ⟨_, rfl⟩
      have HSS := Lib.hid hSS
      clear hSS
      have hw1 : IntKind.i64.wrap ((K : Int) + 1) = (K : Int) + 1 := IntWalk.i64_in _ (by omega)
      have hw2 : (0 : Int) ≤ (K : Int) + 1 := by omega
      have hw3 : ((K : Int) + 1).toNat = K + 1 := by omega
      go_wp2
      go_region_with (first
        | (go_at_call 67; refine (refInt_any (m : Int) (by omega) (by omega) _).mono ?_; rintro e w1 ⟨A1, c1, rfl, hown1, hb1⟩)
        | (go_at_call 97; refine (same_len A1 (some ⟨bb, off, none⟩) c1 c _ (K + 1) (Wire.enc (m : Int)) ((x0 :: t).take (K + 1)) _ rfl HTL.out (by unfold maxLen; omega) _ _ (Rd.of_own hown1) (HRD2.out.drew.below hb1) S HSS.out).mono ?_; rintro e w2 ⟨rfl, n2, rfl⟩))
      all_goals
        have hbz : Below w.heap.size w w1 := below_l_drew hb1
        cases S
        · go_wp2
          go_ret3
          refine ⟨?_, below_drewN hbz _⟩
          have := HS.out
          rw [if_neg (of_decide_eq_false HSS.out)] at this
          rw [this]; simp
        · go_wp2
          go_ret3
          refine ⟨?_, below_drewN hbz _⟩
          have := HS.out
          rw [if_pos (of_decide_eq_true HSS.out)] at this
          rw [this]; simp

set_option maxRecDepth 100000 in
set_option maxHeartbeats 1600000 in
theorem refGetInt_true (bb off c : Nat) (x0 : UInt8) (t : List UInt8) (w : World) (hL : t.length ≤ 1099511627776) (hc : t.length + 1 ≤ c) (hcm : c ≤ maxLen) (hbw : bb < w.heap.size)
    (h0 : w.cell? ⟨bb, off, none⟩ = some (.int .u8 (x0.toNat : Int))) (ht : ∀ j (hj : j < t.length), w.cell? ⟨bb, off + 1 + j, none⟩ = some (.int .u8 (t[j].toNat : Int)))
    (hneg : decide (x0 < 128) = true) :
    Calls Try.prog 88 #[.slice (some ⟨bb, off, none⟩) (t.length + 1) c] w fun e w' =>
      e = .returned (.tuple #[.int .i64 (Wire.dec (x0 :: t)).1, .int .i64 ((Wire.dec (x0 :: t)).2.1 : Nat), .int .i64 (Wire.dec (x0 :: t)).2.2]) ∧ Below w.heap.size w w' := by
  have hb := x0.toNat_lt
  unfold maxLen at hcm
  have hge := Wire.head_ge x0
  have hn : (x0.toNat : Int) < 128 := by
    have h128 : (128 : UInt8).toNat = 128 := rfl
    have := UInt8.lt_iff_toNat_lt.1 (of_decide_eq_true hneg)
    rw [h128] at this
    omega
  have HX : Hid (∀ x : UInt8, (255 : Int) - (x.toNat : Int) = ((Wire.flp true x).toNat : Int)) := fun x => sub_u8 x
  rw [hneg] at hge
  obtain ⟨F, hF⟩ : ∃ F : UInt8 → UInt8, F = Wire.flp true := ⟨_, rfl⟩
  rw [← hF] at HX hge
  obtain ⟨K, hK⟩ : ∃ K, (F x0).toNat = 128 + K := ⟨(F x0).toNat - 128, by omega⟩
  have hKb : K < 128 := by have := (F x0).toNat_lt; omega
  have hx0 : (x0.toNat : Int) = 127 - (K : Int) := by have := HX.out x0; omega
  have hdec : Wire.dec (x0 :: t) = if 8 < K then (0, 0, 6) else if t.length < K then (0, 0, 5) else if ((t.take K).map F).head? = some 0 then (0, 0, 6)
      else if 9223372036854775808 ≤ Wire.val 0 ((t.take K).map F) then (0, 0, 6) else (-1 - (Wire.val 0 ((t.take K).map F) : Int), K + 1, 0) := by
    simp only [Wire.dec, hneg, ← hF, hK, Nat.add_sub_cancel_left]
    simp only [if_true]
  have HDEC := Lib.hid hdec
  rw [hx0] at h0
  have HRD : Hid (Rd w w.heap.size 1 (some ⟨bb, off, none⟩) (K + 1) (bvs ((x0 :: t).take (K + 1))) ∨ t.length < K) := by
    by_cases h : t.length < K
    · exact .inr h
    · left
      refine ⟨by simp; omega, fun _ => ⟨bb, off, rfl, hbw, fun j u hu => ?_⟩⟩
      cases j with
      | zero =>
        simp at hu
        rw [← hu, Nat.add_zero, h0, hx0]
      | succ j =>
        simp only [bvs, List.take_succ_cons, List.map_cons, List.getElem?_cons_succ, List.getElem?_map, Option.map_eq_some_iff] at hu
        obtain ⟨y, hy, rfl⟩ := hu
        rw [List.getElem?_take] at hy
        split at hy
        · obtain ⟨hj, rfl⟩ := List.getElem?_eq_some_iff.1 hy
          have e : off + (j + 1) = off + 1 + j := by omega
          rw [e]; exact ht j hj
        · cases hy
  have hx0' := Lib.hid hx0
  clear hdec hK hge hneg hF hx0 hn hb
  by_cases hK8 : 8 < K
  · go_enter Try.func88, Try.ntmps88
    go_wp2
    go_ret3
    refine ⟨?_, Below.refl _ _⟩
    rw [HDEC.out, if_pos hK8]; rfl
  by_cases hlen : t.length < K
  · go_enter Try.func88, Try.ntmps88
    go_wp2
    go_ret3
    refine ⟨?_, Below.refl _ _⟩
    rw [HDEC.out, if_neg hK8, if_pos hlen]; rfl
  obtain ⟨ds, hds⟩ : ∃ ds, ds = (t.take K).map F := ⟨_, rfl⟩
  have HDL : Hid (ds.length = K) := by show _ = _; rw [hds, List.length_map, List.length_take]; omega
  have HDG : Hid (∀ i (hi : i < ds.length) (hi' : i < t.length), ds[i] = F t[i]) := by intro i hi hi'; simp [hds]
  have HR : Hid (Wire.dec (x0 :: t) = if ds.head? = some 0 then (0, 0, 6) else if 9223372036854775808 ≤ Wire.val 0 ds then (0, 0, 6) else (-1 - (Wire.val 0 ds : Int), K + 1, 0)) := by
    show _ = _
    rw [HDEC.out, if_neg hK8, if_neg hlen, ← hds]
  have HRD2 := Lib.hid (HRD.out.resolve_right hlen)
  have HTL : Hid (((x0 :: t).take (K + 1)).length = K + 1) := by show _ = _; simp; omega
  clear HDEC hds HRD
  have hk : (127 : Int) - (127 - (K : Int)) = K := by omega
  go_enter Try.func88, Try.ntmps88
  go_wp2
  go_loop [7, 8, 9] (fun u7 u8 u9 => ∃ i m : Nat, i ≤ K ∧ u8 = .int .i64 (i + 1) ∧ u7 = .int .i64 m ∧ Hid (m = Wire.val 0 (ds.take i)) ∧ m < 9223372036854775808) (fun _ u _ => K + 1 - (intOf u).toNat)
  case atStart => exact ⟨0, 0, by omega, by simp, rfl, by simp [Hid, Wire.val], by omega⟩
  case round =>
    obtain ⟨i, m, hi, rfl, rfl, HM, hm63⟩ := hrel
    by_cases hik : i < K
    · have hcell := ht i (by omega)
      obtain ⟨D, hD⟩ : ∃ D, D = t[i] := ⟨_, rfl⟩
      have hdl : i < ds.length := by rw [HDL.out]; exact hik
      have HD : Hid (m * 256 + (F D).toNat = Wire.val 0 (ds.take (i + 1))) := by
        show _ = _
        rw [Wire.val_take_succ hdl, ← HM.out, hD]
        congr 2
        exact (HDG.out i hdl (by omega)).symm
      have HG := Lib.hid (Wire.val_take_ge hdl)
      rw [← hD] at hcell
      clear hD hdl
      have hDb := D.toNat_lt
      have hFb := (F D).toNat_lt
      have hxD := HX.out D
      have hidx : off + 1 + i = off + (i + 1) := by omega
      rw [hidx] at hcell
      clear hidx
      by_cases hm55 : 36028797018963967 < m
      · go_wp2
        go_ret3
        refine ⟨?_, Below.refl _ _⟩
        have h3 := HG.out
        rw [← HM.out] at h3
        have : Wire.dec (x0 :: t) = (0, 0, 6) := by
          rw [HR.out]
          split
          · rfl
          · rw [if_pos (by omega)]
        rw [this]; simp
      · go_wp2
        go_round
        case rel => exact ⟨i + 1, m * 256 + (F D).toNat, by omega, by go_num, by go_num, HD, by omega⟩
        case measure => simp [intOf] <;> omega
    · have HV : Hid (m = Wire.val 0 ds) := by
        show _ = _
        rw [HM.out, List.take_of_length_le (by rw [HDL.out]; omega)]
      have HS : Hid (Wire.dec (x0 :: t) = if Wire.enc (-1 - (m : Int)) = (x0 :: t).take (K + 1) then ((-1 - (m : Int)), K + 1, 0) else (0, 0, 6)) := by
        refine Wire.same_iff (by omega) (by omega) (z := ds.head? = some 0) ?_
        rw [HR.out, ← HV.out]
        split
        · rfl
        · rw [if_neg (by omega)]
      have h9 := Wire.enc_length_le (-1 - (m : Int))
      obtain ⟨S, hSS⟩ : ∃ S, decide (Wire.enc (-1 - (m : Int)) = (x0 :: t).take (K + 1)) = S := ⟨_, rfl⟩
      have HSS := Lib.hid hSS
      clear hSS
      have hw1 : IntKind.i64.wrap ((K : Int) + 1) = (K : Int) + 1 := IntWalk.i64_in _ (by omega)
      have hw2 : (0 : Int) ≤ (K : Int) + 1 := by omega
      have hw3 : ((K : Int) + 1).toNat = K + 1 := by omega
      go_wp2
      go_region_with (first
        | (go_at_call 67; refine (refInt_any (-1 - (m : Int)) (by omega) (by omega) _).mono ?_; rintro e w1 ⟨A1, c1, rfl, hown1, hb1⟩)
        | (go_at_call 97; refine (same_len A1 (some ⟨bb, off, none⟩) c1 c _ (K + 1) (Wire.enc (-1 - (m : Int))) ((x0 :: t).take (K + 1)) _ rfl HTL.out (by unfold maxLen; omega) _ _ (Rd.of_own hown1) (HRD2.out.drew.below hb1) S HSS.out).mono ?_; rintro e w2 ⟨rfl, n2, rfl⟩))
      all_goals
        have hbz : Below w.heap.size w w1 := below_l_drew hb1
        cases S
        · go_wp2
          go_ret3
          refine ⟨?_, below_drewN hbz _⟩
          have := HS.out
          rw [if_neg (of_decide_eq_false HSS.out)] at this
          rw [this]; simp
        · go_wp2
          go_ret3
          refine ⟨?_, below_drewN hbz _⟩
          have := HS.out
          rw [if_pos (of_decide_eq_true HSS.out)] at this
          rw [this]; simp

end Go.Proofs.Ytcicfneekmbamaa
