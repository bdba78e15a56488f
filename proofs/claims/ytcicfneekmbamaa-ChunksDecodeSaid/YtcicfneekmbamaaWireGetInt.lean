/- Walk of layer 1's decoder of an integer: wire.GetInt returns what Wire.dec defines, and leaves the memory alone. Conditions: the slice reads as a list of at most 2^40 bytes. -/
import Derived.Test.YtcicfneekmbamaaWireEnc
namespace Go.Proofs.Ytcicfneekmbamaa
set_option linter.unusedVariables false
set_option linter.unusedSimpArgs false
open Go.RowKit

namespace Wire
theorem val_snoc (l : List UInt8) (x : UInt8) : val 0 (l ++ [x]) = val 0 l * 256 + x.toNat := by simp [val, List.foldl_append]
theorem val_take_succ {l : List UInt8} {i : Nat} (h : i < l.length) : val 0 (l.take (i + 1)) = val 0 (l.take i) * 256 + l[i].toNat := by
  rw [List.take_succ_eq_append_getElem h, val_snoc]
theorem val_take_lt (l : List UInt8) (i : Nat) : val 0 (l.take i) < 256 ^ i := by
  have h := val_lt (l.take i)
  have h2 : (l.take i).length ≤ i := by rw [List.length_take]; omega
  exact Nat.lt_of_lt_of_le h (Nat.pow_le_pow_right (by omega) h2)
theorem pow7 {m i : Nat} (h : m < 256 ^ i) (hi : i ≤ 7) : m < 72057594037927936 := Nat.lt_of_lt_of_le h (Nat.le_trans (Nat.pow_le_pow_right (by omega) hi) (by decide))
theorem pow8 {m i : Nat} (h : m < 256 ^ i) (hi : i ≤ 8) : m < 18446744073709551616 := Nat.lt_of_lt_of_le h (Nat.le_trans (Nat.pow_le_pow_right (by omega) hi) (by decide))
end Wire
theorem or_byte {m d : Nat} (hm : m < 72057594037927936) (hd : d < 256) : bits BinOp.or IntKind.u64 ((m : Int) * 256) (d : Int) = ((m * 256 + d : Nat) : Int) := by
  have h := u64_or_nat (m * 256) d (by omega) (by omega)
  rw [nat_join 8 (m * 256) d (by omega) (by omega)] at h
  exact h
theorem not_back {m : Nat} (hm : m < 9223372036854775808) : wrap64 (bits BinOp.xor IntKind.u64 IntKind.u64.max (m : Int)) = -1 - (m : Int) := by
  have hm0 : IntKind.u64.max = ((18446744073709551615 : Nat) : Int) := rfl
  rw [hm0, u64_xor_nat _ _ (by omega) (by omega)]
  have h1 : (BitVec.ofNat 64 m ^^^ BitVec.allOnes 64).toNat = 18446744073709551615 - m := by
    rw [BitVec.xor_allOnes, BitVec.toNat_not, BitVec.toNat_ofNat]
    omega
  rw [BitVec.toNat_xor, BitVec.toNat_ofNat, BitVec.toNat_allOnes, Nat.mod_eq_of_lt (by omega)] at h1
  rw [Nat.xor_comm]
  have h2 : (((m ^^^ (2 ^ 64 - 1) : Nat)) : Int) = ((18446744073709551615 - m : Nat) : Int) := congrArg (fun x : Nat => (x : Int)) h1
  unfold wrap64
  have h3 : ((m ^^^ 18446744073709551615 : Nat) : Int) = ((18446744073709551615 - m : Nat) : Int) := h2
  rw [h3]
  omega
theorem Rd.get0 {w : World} {B n : Nat} {A : Option Addr} {α : Type} {f : α → Value} {x : α} {l : List α} (h : Rd w B 1 A n ((x :: l).map f)) :
    ∃ b off, A = some ⟨b, off, none⟩ ∧ b < B ∧ w.cell? ⟨b, off, none⟩ = some (f x) ∧ ∀ j (hj : j < l.length), w.cell? ⟨b, off + 1 + j, none⟩ = some (f l[j]) := by
  have hl : (x :: l).length = n := by simpa using h.1
  obtain ⟨b, off, e, hb, hc⟩ := h.all (by rw [← hl]; simp)
  refine ⟨b, off, e, hb, ?_, fun j hj => ?_⟩
  · have := hc 0 (by simp); simpa using this
  · have h2 := hc (j + 1) (by simpa using hj)
    have h3 : off + (j + 1) = off + 1 + j := by omega
    rw [h3] at h2
    simpa using h2

set_option maxRecDepth 100000 in
set_option maxHeartbeats 1600000 in
theorem wireGetInt_false (bb off c : Nat) (x0 : UInt8) (t : List UInt8) (w : World) (hL : t.length ≤ 1099511627776) (hc : t.length + 1 ≤ c) (hcm : c ≤ maxLen)
    (h0 : w.cell? ⟨bb, off, none⟩ = some (.int .u8 (x0.toNat : Int))) (ht : ∀ j (hj : j < t.length), w.cell? ⟨bb, off + 1 + j, none⟩ = some (.int .u8 (t[j].toNat : Int)))
    (hneg : decide (x0 < 128) = false) :
    Calls Try.prog 85 #[.slice (some ⟨bb, off, none⟩) (t.length + 1) c] w fun e w' =>
      e = .returned (.tuple #[.int .i64 (Wire.dec (x0 :: t)).1, .int .i64 ((Wire.dec (x0 :: t)).2.1 : Nat), .int .i64 (Wire.dec (x0 :: t)).2.2]) ∧ w = w' := by
  have hb := x0.toNat_lt
  unfold maxLen at hcm
  have hge := Wire.head_ge x0
  have hn : ¬ (x0.toNat : Int) < 128 := by
    have h128 : (128 : UInt8).toNat = 128 := rfl
    have : ¬ x0.toNat < (128 : UInt8).toNat := fun hh => of_decide_eq_false hneg (UInt8.lt_iff_toNat_lt.2 hh)
    rw [h128] at this
    omega
  have HX : Hid (∀ x : UInt8, bits .xor .u8 (x.toNat : Int) 0 = ((Wire.flp false x).toNat : Int)) := fun x => xor_flp false x
  have HN := Lib.hid hneg
  rw [hneg] at hge
  obtain ⟨F, hF⟩ : ∃ F : UInt8 → UInt8, F = Wire.flp false := ⟨_, rfl⟩
  rw [← hF] at HX hge
  obtain ⟨K, hK⟩ : ∃ K, (F x0).toNat = 128 + K := ⟨(F x0).toNat - 128, by omega⟩
  have hKb : K < 128 := by have := (F x0).toNat_lt; omega
  have hx : bits BinOp.xor .u8 (x0.toNat : Int) 0 = 128 + (K : Int) := by rw [HX.out, hK]; rfl
  have hs : (128 : Int) + (K : Int) - 128 = K := by omega
  have hdec : Wire.dec (x0 :: t) = if 8 < K then (0, 0, 6) else if t.length < K then (0, 0, 5) else if ((t.take K).map F).head? = some 0 then (0, 0, 6)
      else if 9223372036854775808 ≤ Wire.val 0 ((t.take K).map F) then (0, 0, 6) else ((Wire.val 0 ((t.take K).map F) : Int), K + 1, 0) := by
    simp only [Wire.dec, hneg, ← hF, hK, Nat.add_sub_cancel_left]
    simp only [Bool.false_eq_true, if_false]
  have HDEC := Lib.hid hdec
  clear hdec hK hge hneg hF
  by_cases hK8 : 8 < K
  · go_enter Try.func85, Try.ntmps85
    go_wp2
    go_ret3
    refine ⟨?_, rfl⟩
    rw [HDEC.out, if_pos hK8]; rfl
  by_cases hlen : t.length < K
  · go_enter Try.func85, Try.ntmps85
    go_wp2
    go_ret3
    refine ⟨?_, rfl⟩
    rw [HDEC.out, if_neg hK8, if_pos hlen]; rfl
  obtain ⟨ds, hds⟩ : ∃ ds, ds = (t.take K).map F := ⟨_, rfl⟩
  have HDL : Hid (ds.length = K) := by show _ = _; rw [hds, List.length_map, List.length_take]; omega
  have HDG : Hid (∀ i (hi : i < ds.length) (hi' : i < t.length), ds[i] = F t[i]) := by intro i hi hi'; simp [hds]
  have HR : Hid (Wire.dec (x0 :: t) = if ds.head? = some 0 then (0, 0, 6) else if 9223372036854775808 ≤ Wire.val 0 ds then (0, 0, 6) else ((Wire.val 0 ds : Int), K + 1, 0)) := by
    show _ = _
    rw [HDEC.out, if_neg hK8, if_neg hlen, ← hds]
  clear HDEC hds
  by_cases hK0 : K = 0
  · subst hK0
    have hd0 : ds = [] := List.eq_nil_of_length_eq_zero HDL.out
    have hres : Hid (Wire.dec (x0 :: t) = if 9223372036854775808 ≤ Wire.val 0 ds then (0, 0, 6) else ((Wire.val 0 ds : Int), 0 + 1, 0)) := by
      show _ = _
      rw [HR.out, if_neg (by rw [hd0]; simp)]
    clear HR hs
    simp only [Int.natCast_zero, Int.add_zero] at hx
    have hv0 : Wire.val 0 ds = 0 := by rw [hd0]; rfl
    have hres2 : Hid (Wire.dec (x0 :: t) = (0, 1, 0)) := by
      show _ = _
      rw [hres.out, hv0]; rfl
    clear hres hd0 hv0 HDL HDG hlen hK8
    skip
    by_cases hc1 : c = 1
    · have ht0 : t.length = 0 := by omega
      obtain rfl : t = [] := List.eq_nil_of_length_eq_zero ht0
      subst hc1
      clear ht ht0
      go_enter Try.func85, Try.ntmps85
      go_wp2
      refine wp_loop_rounds 1 ?_
      rw [rounds_succ]
      go_wp2
      go_ret3
      refine ⟨?_, rfl⟩
      rw [hres2.out]
      rfl
    · go_enter Try.func85, Try.ntmps85
      go_wp2
      refine wp_loop_rounds 1 ?_
      rw [rounds_succ]
      go_wp2
      go_ret3
      refine ⟨?_, rfl⟩
      rw [hres2.out]
      rfl
  · have hK1 : 0 < K := by omega
    have hd1 := ht 0 (by omega)
    rw [Nat.add_zero] at hd1
    obtain ⟨D1, hD1⟩ : ∃ D, D = t[0]'(by omega) := ⟨_, rfl⟩
    have hhead : ds.head? = some (F D1) := by
      have := HDG.out 0 (by rw [HDL.out]; omega) (by omega)
      rw [List.head?_eq_getElem?, List.getElem?_eq_getElem (by rw [HDL.out]; omega), this, hD1]
    rw [← hD1] at hd1
    clear hD1
    have hD1b := D1.toNat_lt
    have hx1 := HX.out D1
    by_cases hz : F D1 = 0
    · have hres : Hid (Wire.dec (x0 :: t) = (0, 0, 6)) := by
        show _ = _
        rw [HR.out, if_pos (by rw [hhead, hz])]
      have hz1 : (((F D1).toNat : Int) == 0) = true := by rw [hz]; rfl
      clear HR hhead hz
      go_enter Try.func85, Try.ntmps85
      go_wp2
      go_ret3
      refine ⟨?_, rfl⟩
      rw [hres.out]; rfl
    · have hres : Hid (Wire.dec (x0 :: t) = if 9223372036854775808 ≤ Wire.val 0 ds then (0, 0, 6) else ((Wire.val 0 ds : Int), K + 1, 0)) := by
        show _ = _
        rw [HR.out, if_neg (by rw [hhead]; simpa using hz)]
      have hz1 : (((F D1).toNat : Int) == 0) = false := by
        rw [beq_eq_false_iff_ne]
        intro h0
        exact hz (UInt8.toNat_inj.1 (by have : (F D1).toNat = 0 := by omega
                                        rw [this]; rfl))
      clear HR hhead hz
      go_enter Try.func85, Try.ntmps85
      go_wp2
      go_loop [7, 48] (fun u7 u48 => ∃ i m : Nat, i ≤ K ∧ u48 = .int .i64 i ∧ u7 = .int .u64 m ∧ Hid (m = Wire.val 0 (ds.take i))) (fun _ u => K - (intOf u).toNat)
      case atStart => exact ⟨0, 0, by omega, rfl, rfl, by simp [Hid, Wire.val]⟩
      case round =>
        obtain ⟨i, m, hi, rfl, rfl, HM⟩ := hrel
        have hmi := Wire.val_take_lt ds i
        rw [← HM.out] at hmi
        by_cases hik : i < K
        · have hcell := ht i (by omega)
          have hm7 := Wire.pow7 hmi (by omega)
          clear hmi
          obtain ⟨D, hD⟩ : ∃ D, D = t[i] := ⟨_, rfl⟩
          have HD : Hid (m * 256 + (F D).toNat = Wire.val 0 (ds.take (i + 1))) := by
            show _ = _
            have hdl : i < ds.length := by rw [HDL.out]; exact hik
            rw [Wire.val_take_succ hdl, ← HM.out, hD]
            congr 2
            exact (HDG.out i hdl (by omega)).symm
          rw [← hD] at hcell
          clear hD
          have hDb := D.toNat_lt
          have hFb := (F D).toNat_lt
          have hxD := HX.out D
          have hor := or_byte hm7 hFb
          go_wp2
          go_round
          case rel => exact ⟨i + 1, m * 256 + (F D).toNat, by omega, by go_num, rfl, HD⟩
          case measure => simp [intOf] <;> omega
        · have hm8 := Wire.pow8 hmi (by omega)
          clear hmi
          have HV : Hid (m = Wire.val 0 ds) := by
            show _ = _
            rw [HM.out, List.take_of_length_le (by rw [HDL.out]; omega)]
          by_cases hm63 : m < 9223372036854775808
          · skip
            go_wp2
            go_ret3
            refine ⟨?_, rfl⟩
            have := hres.out
            rw [if_neg (by rw [← HV.out]; omega)] at this
            rw [this, ← HV.out]
            simp
          · go_wp2
            go_ret3
            refine ⟨?_, rfl⟩
            have := hres.out
            rw [if_pos (by rw [← HV.out]; omega)] at this
            rw [this]
            simp

set_option maxRecDepth 100000 in
set_option maxHeartbeats 1600000 in
theorem wireGetInt_true (bb off c : Nat) (x0 : UInt8) (t : List UInt8) (w : World) (hL : t.length ≤ 1099511627776) (hc : t.length + 1 ≤ c) (hcm : c ≤ maxLen)
    (h0 : w.cell? ⟨bb, off, none⟩ = some (.int .u8 (x0.toNat : Int))) (ht : ∀ j (hj : j < t.length), w.cell? ⟨bb, off + 1 + j, none⟩ = some (.int .u8 (t[j].toNat : Int)))
    (hneg : decide (x0 < 128) = true) :
    Calls Try.prog 85 #[.slice (some ⟨bb, off, none⟩) (t.length + 1) c] w fun e w' =>
      e = .returned (.tuple #[.int .i64 (Wire.dec (x0 :: t)).1, .int .i64 ((Wire.dec (x0 :: t)).2.1 : Nat), .int .i64 (Wire.dec (x0 :: t)).2.2]) ∧ w = w' := by
  have hb := x0.toNat_lt
  unfold maxLen at hcm
  have hge := Wire.head_ge x0
  have hn : (x0.toNat : Int) < 128 := by
    have h128 : (128 : UInt8).toNat = 128 := rfl
    have := UInt8.lt_iff_toNat_lt.1 (of_decide_eq_true hneg)
    rw [h128] at this
    omega
  have HX : Hid (∀ x : UInt8, bits .xor .u8 (x.toNat : Int) 255 = ((Wire.flp true x).toNat : Int)) := fun x => xor_flp true x
  have HN := Lib.hid hneg
  rw [hneg] at hge
  obtain ⟨F, hF⟩ : ∃ F : UInt8 → UInt8, F = Wire.flp true := ⟨_, rfl⟩
  rw [← hF] at HX hge
  obtain ⟨K, hK⟩ : ∃ K, (F x0).toNat = 128 + K := ⟨(F x0).toNat - 128, by omega⟩
  have hKb : K < 128 := by have := (F x0).toNat_lt; omega
  have hx : bits BinOp.xor .u8 (x0.toNat : Int) 255 = 128 + (K : Int) := by rw [HX.out, hK]; rfl
  have hs : (128 : Int) + (K : Int) - 128 = K := by omega
  have hdec : Wire.dec (x0 :: t) = if 8 < K then (0, 0, 6) else if t.length < K then (0, 0, 5) else if ((t.take K).map F).head? = some 0 then (0, 0, 6)
      else if 9223372036854775808 ≤ Wire.val 0 ((t.take K).map F) then (0, 0, 6) else (-1 - (Wire.val 0 ((t.take K).map F) : Int), K + 1, 0) := by
    simp only [Wire.dec, hneg, ← hF, hK, Nat.add_sub_cancel_left]
    simp only [if_true]
  have HDEC := Lib.hid hdec
  clear hdec hK hge hneg hF
  by_cases hK8 : 8 < K
  · go_enter Try.func85, Try.ntmps85
    go_wp2
    go_ret3
    refine ⟨?_, rfl⟩
    rw [HDEC.out, if_pos hK8]; rfl
  by_cases hlen : t.length < K
  · go_enter Try.func85, Try.ntmps85
    go_wp2
    go_ret3
    refine ⟨?_, rfl⟩
    rw [HDEC.out, if_neg hK8, if_pos hlen]; rfl
  obtain ⟨ds, hds⟩ : ∃ ds, ds = (t.take K).map F := ⟨_, rfl⟩
  have HDL : Hid (ds.length = K) := by show _ = _; rw [hds, List.length_map, List.length_take]; omega
  have HDG : Hid (∀ i (hi : i < ds.length) (hi' : i < t.length), ds[i] = F t[i]) := by intro i hi hi'; simp [hds]
  have HR : Hid (Wire.dec (x0 :: t) = if ds.head? = some 0 then (0, 0, 6) else if 9223372036854775808 ≤ Wire.val 0 ds then (0, 0, 6) else (-1 - (Wire.val 0 ds : Int), K + 1, 0)) := by
    show _ = _
    rw [HDEC.out, if_neg hK8, if_neg hlen, ← hds]
  clear HDEC hds
  by_cases hK0 : K = 0
  · subst hK0
    have hd0 : ds = [] := List.eq_nil_of_length_eq_zero HDL.out
    have hres : Hid (Wire.dec (x0 :: t) = if 9223372036854775808 ≤ Wire.val 0 ds then (0, 0, 6) else (-1 - (Wire.val 0 ds : Int), 0 + 1, 0)) := by
      show _ = _
      rw [HR.out, if_neg (by rw [hd0]; simp)]
    clear HR hs
    simp only [Int.natCast_zero, Int.add_zero] at hx
    have hv0 : Wire.val 0 ds = 0 := by rw [hd0]; rfl
    have hres2 : Hid (Wire.dec (x0 :: t) = (-1, 1, 0)) := by
      show _ = _
      rw [hres.out, hv0]; rfl
    clear hres hd0 hv0 HDL HDG hlen hK8
    have HNOT : Hid (wrap64 (bits BinOp.xor IntKind.u64 IntKind.u64.max 0) = -1) := not_back (m := 0) (by omega); have hsg : IntKind.u64.signed = false := rfl
    by_cases hc1 : c = 1
    · have ht0 : t.length = 0 := by omega
      obtain rfl : t = [] := List.eq_nil_of_length_eq_zero ht0
      subst hc1
      clear ht ht0
      go_enter Try.func85, Try.ntmps85
      go_wp2
      refine wp_loop_rounds 1 ?_
      rw [rounds_succ]
      go_wp2
      go_ret3
      refine ⟨?_, rfl⟩
      rw [hres2.out]
      simp [HNOT.out]
    · go_enter Try.func85, Try.ntmps85
      go_wp2
      refine wp_loop_rounds 1 ?_
      rw [rounds_succ]
      go_wp2
      go_ret3
      refine ⟨?_, rfl⟩
      rw [hres2.out]
      simp [HNOT.out]
  · have hK1 : 0 < K := by omega
    have hd1 := ht 0 (by omega)
    rw [Nat.add_zero] at hd1
    obtain ⟨D1, hD1⟩ : ∃ D, D = t[0]'(by omega) := ⟨_, rfl⟩
    have hhead : ds.head? = some (F D1) := by
      have := HDG.out 0 (by rw [HDL.out]; omega) (by omega)
      rw [List.head?_eq_getElem?, List.getElem?_eq_getElem (by rw [HDL.out]; omega), this, hD1]
    rw [← hD1] at hd1
    clear hD1
    have hD1b := D1.toNat_lt
    have hx1 := HX.out D1
    by_cases hz : F D1 = 0
    · have hres : Hid (Wire.dec (x0 :: t) = (0, 0, 6)) := by
        show _ = _
        rw [HR.out, if_pos (by rw [hhead, hz])]
      have hz1 : (((F D1).toNat : Int) == 0) = true := by rw [hz]; rfl
      clear HR hhead hz
      go_enter Try.func85, Try.ntmps85
      go_wp2
      go_ret3
      refine ⟨?_, rfl⟩
      rw [hres.out]; rfl
    · have hres : Hid (Wire.dec (x0 :: t) = if 9223372036854775808 ≤ Wire.val 0 ds then (0, 0, 6) else (-1 - (Wire.val 0 ds : Int), K + 1, 0)) := by
        show _ = _
        rw [HR.out, if_neg (by rw [hhead]; simpa using hz)]
      have hz1 : (((F D1).toNat : Int) == 0) = false := by
        rw [beq_eq_false_iff_ne]
        intro h0
        exact hz (UInt8.toNat_inj.1 (by have : (F D1).toNat = 0 := by omega
                                        rw [this]; rfl))
      clear HR hhead hz
      go_enter Try.func85, Try.ntmps85
      go_wp2
      go_loop [7, 48] (fun u7 u48 => ∃ i m : Nat, i ≤ K ∧ u48 = .int .i64 i ∧ u7 = .int .u64 m ∧ Hid (m = Wire.val 0 (ds.take i))) (fun _ u => K - (intOf u).toNat)
      case atStart => exact ⟨0, 0, by omega, rfl, rfl, by simp [Hid, Wire.val]⟩
      case round =>
        obtain ⟨i, m, hi, rfl, rfl, HM⟩ := hrel
        have hmi := Wire.val_take_lt ds i
        rw [← HM.out] at hmi
        by_cases hik : i < K
        · have hcell := ht i (by omega)
          have hm7 := Wire.pow7 hmi (by omega)
          clear hmi
          obtain ⟨D, hD⟩ : ∃ D, D = t[i] := ⟨_, rfl⟩
          have HD : Hid (m * 256 + (F D).toNat = Wire.val 0 (ds.take (i + 1))) := by
            show _ = _
            have hdl : i < ds.length := by rw [HDL.out]; exact hik
            rw [Wire.val_take_succ hdl, ← HM.out, hD]
            congr 2
            exact (HDG.out i hdl (by omega)).symm
          rw [← hD] at hcell
          clear hD
          have hDb := D.toNat_lt
          have hFb := (F D).toNat_lt
          have hxD := HX.out D
          have hor := or_byte hm7 hFb
          go_wp2
          go_round
          case rel => exact ⟨i + 1, m * 256 + (F D).toNat, by omega, by go_num, rfl, HD⟩
          case measure => simp [intOf] <;> omega
        · have hm8 := Wire.pow8 hmi (by omega)
          clear hmi
          have HV : Hid (m = Wire.val 0 ds) := by
            show _ = _
            rw [HM.out, List.take_of_length_le (by rw [HDL.out]; omega)]
          by_cases hm63 : m < 9223372036854775808
          · have HNOT := Lib.hid (not_back hm63); have hsg : IntKind.u64.signed = false := rfl
            go_wp2
            go_ret3
            refine ⟨?_, rfl⟩
            have := hres.out
            rw [if_neg (by rw [← HV.out]; omega)] at this
            rw [this, ← HV.out]
            simp [HNOT.out]
          · go_wp2
            go_ret3
            refine ⟨?_, rfl⟩
            have := hres.out
            rw [if_pos (by rw [← HV.out]; omega)] at this
            rw [this]
            simp

theorem wireGetInt_any (A : Option Addr) (c : Nat) (b : List UInt8) (w : World) (B : Nat) (hr : Rd w B 1 A b.length (bvs b)) (hL : b.length ≤ 1099511627776) (hc : b.length ≤ c) (hcm : c ≤ maxLen)
    (n : Int) (u : Nat) (er : Int) (hd : Wire.dec b = (n, u, er)) :
    Calls Try.prog 85 #[.slice A b.length c] w fun e w' => e = .returned (.tuple #[.int .i64 n, .int .i64 u, .int .i64 er]) ∧ w = w' := by
  cases b with
  | nil =>
    simp only [Wire.dec, Prod.mk.injEq] at hd
    obtain ⟨rfl, rfl, rfl⟩ := hd
    go_enter Try.func85, Try.ntmps85
    go_wp2
    go_ret3
    exact ⟨rfl, rfl⟩
  | cons x t =>
    obtain ⟨bb, off, rfl, _, h0, ht⟩ := hr.get0
    have hl : (x :: t).length = t.length + 1 := rfl
    rw [hl] at hL hc ⊢
    have key : Calls Try.prog 85 #[.slice (some ⟨bb, off, none⟩) (t.length + 1) c] w fun e w' =>
        e = .returned (.tuple #[.int .i64 (Wire.dec (x :: t)).1, .int .i64 ((Wire.dec (x :: t)).2.1 : Nat), .int .i64 (Wire.dec (x :: t)).2.2]) ∧ w = w' := by
      cases hneg : decide (x < 128)
      · exact wireGetInt_false bb off c x t w (by omega) hc hcm h0 ht hneg
      · exact wireGetInt_true bb off c x t w (by omega) hc hcm h0 ht hneg
    rw [hd] at key
    exact key

end Go.Proofs.Ytcicfneekmbamaa
