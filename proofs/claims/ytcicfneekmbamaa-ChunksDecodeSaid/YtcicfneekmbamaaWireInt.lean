/- Walks of layer 1's encoders: wire.Int returns the encoding of its argument in new memory. Conditions: none on the argument. -/
import Derived.Test.YtcicfneekmbamaaRows
import Derived.Test.YtcicfneekmbamaaBase
import Derived.Test.YtcicfneekmbamaaWirePlain
import Derived.WalkKit
import Derived.WalkSpells
import Derived.WalkLawsBesides
import Derived.Deep.QuietTactic
import Derived.BigQuiet
namespace Go.Proofs.Ytcicfneekmbamaa
set_option linter.unusedVariables false
set_option linter.unusedSimpArgs false
open Go.RowKit
theorem bytesE : ElemT Try.prog 70 5 (.int .u8 0) 1 1 := ⟨Try.underlying70, by kernel_rfl, rfl, by decide, by decide⟩

theorem xor255 (x : Nat) (h : x < 256) : x ^^^ 255 = 255 - x := (by decide +kernel : ∀ a : Fin 256, a.val ^^^ 255 = 255 - a.val) ⟨x, h⟩
theorem xor_flp (neg : Bool) (x : UInt8) : bits .xor .u8 (x.toNat : Int) (if neg then 255 else 0) = ((Wire.flp neg x).toNat : Int) := by
  have hx := x.toNat_lt
  cases neg
  · have := u8_xor_nat x.toNat 0 (by omega) (by omega)
    simpa [Wire.flp] using this
  · have := u8_xor_nat x.toNat 255 (by omega) (by omega)
    rw [xor255 _ (by omega)] at this
    simp only [if_true, Wire.flp]
    rw [UInt8.toNat_sub]
    have e2 : (255 : UInt8).toNat = 255 := rfl
    rw [e2]
    refine Eq.trans this ?_
    omega
theorem mod_u8 (m : Nat) : (m : Int) % 256 = ((UInt8.ofNat m).toNat : Int) := by
  rw [Wire.toNat_ofNat]; omega
theorem shr_nat (M i : Nat) : (M : Int) / 2 ^ (8 * i) = ((M / 256 ^ i : Nat) : Int) := by
  have h : (2 : Int) ^ (8 * i) = ((256 ^ i : Nat) : Int) := by
    rw [Int.pow_mul, Int.natCast_pow]; rfl
  rw [h]; rfl
theorem not_u64 (M : Nat) (h : M < 9223372036854775808) : bits BinOp.xor IntKind.u64 IntKind.u64.max (IntKind.u64.wrap (-1 - M)) = (M : Int) := by
  have hw : IntKind.u64.wrap (-1 - M) = ((18446744073709551615 - M : Nat) : Int) := by
    rw [IntKind.wrap_u64]; omega
  have hm : IntKind.u64.max = ((18446744073709551615 : Nat) : Int) := rfl
  rw [hw, hm, u64_xor_nat _ _ (by omega) (by omega)]
  have h1 : (BitVec.ofNat 64 (18446744073709551615 - M) ^^^ BitVec.allOnes 64).toNat = 18446744073709551615 - (18446744073709551615 - M) := by
    rw [BitVec.xor_allOnes, BitVec.toNat_not, BitVec.toNat_ofNat]
    omega
  rw [BitVec.toNat_xor, BitVec.toNat_ofNat, BitVec.toNat_allOnes, Nat.mod_eq_of_lt (by omega)] at h1
  rw [Nat.xor_comm]
  have h2 := congrArg (fun x : Nat => (x : Int)) h1
  refine Eq.trans h2 ?_
  omega

/-- where the search for the number of digits ends -/
theorem digits_end {M k : Nat} (hM : M < 9223372036854775808) (hk : k ≤ 8) (hlt : M < 256 ^ k) (hj : k = 0 ∨ (0 : Int) < (M : Int) / 2 ^ (8 * (k - 1))) : Wire.nb 8 M = k := by
  refine Wire.nb_eq hk hlt (hj.imp_right fun hj => ?_)
  rw [shr_nat] at hj
  have h : 1 ≤ M / 256 ^ (k - 1) := by omega
  rw [Nat.le_div_iff_mul_le (Nat.pow_pos (by omega))] at h
  omega
theorem digits_step {M j : Nat} (hj : ¬ (0 : Int) < (M : Int) / 2 ^ (8 * j)) : M < 256 ^ j := by
  rw [shr_nat] at hj
  rcases Nat.lt_or_ge M (256 ^ j) with h | h
  · exact h
  · have : 1 ≤ M / 256 ^ j := by rw [Nat.le_div_iff_mul_le (Nat.pow_pos (by omega))]; omega
    omega
theorem head_u8 {k : Nat} (hk : k ≤ 8) : (128 + (k : Int)) = ((UInt8.ofNat (128 + k)).toNat : Int) := by
  rw [Wire.toNat_ofNat]; omega

set_option maxHeartbeats 1600000 in
theorem wireInt_gen (n : Int) (M : Nat) (neg : Bool) (E : List UInt8) (hneg : decide (n < 0) = neg) (h1 : -9223372036854775808 ≤ n) (h2 : n ≤ 9223372036854775807) (hM : n = if neg then -1 - (M : Int) else M)
    (HE : Hid (E = Wire.flp neg (UInt8.ofNat (128 + Wire.nb 8 M)) :: (Wire.bd M (Wire.nb 8 M)).map (Wire.flp neg))) (w : World) :
    Calls Try.prog 59 #[.int .i64 n] w fun e w' => ∃ A c, e = .returned (.slice A E.length c) ∧
      w'.ownsRow w.heap.size 5 1 (.slice A E.length c) E.length (bvs E) ∧ Below w.heap.size w w' := by
  have hMlt : M < 9223372036854775808 := by cases neg <;> simp at hM hneg <;> omega
  obtain ⟨F, hF⟩ : ∃ F : UInt8 → UInt8, F = Wire.flp neg := ⟨_, rfl⟩
  have HX0 : Hid (∀ x : UInt8, bits .xor .u8 (x.toNat : Int) (if neg then 255 else 0) = ((F x).toNat : Int)) := by rw [hF]; exact xor_flp neg
  rw [← hF] at HE
  clear hF
  cases neg
  · simp only [Bool.false_eq_true, if_false] at hM
    subst hM
    have HX : Hid (∀ x : UInt8, bits .xor .u8 (x.toNat : Int) 0 = ((F x).toNat : Int)) := HX0
    have hn0 : ¬ (M : Int) < 0 := by omega
    clear hneg h1 h2 HX0
    go_enter Try.func59, Try.ntmps59
    go_wp2
    go_step3
    go_wp2
    go_step3
    go_wp2
    go_loop [5] (fun u => ∃ k : Nat, k ≤ 8 ∧ u = .int .i64 k ∧ M < 256 ^ k) (fun u => (intOf u).toNat)
    case atStart => exact ⟨8, by omega, rfl, by omega⟩
    case round =>
      obtain ⟨k, hk, rfl, hlt⟩ := hrel
      by_cases hk0 : k = 0
      · subst hk0
        have HN := Lib.hid (digits_end hMlt (by omega) hlt (.inl rfl))
        clear hlt
        go_wp2
        go_loopw [6, 7] (fun u6 u7 wr => ∃ (i : Nat) (A : Option Addr) (c : Nat) (acc : List UInt8), i ≤ 8 ∧ u7 = .int .i64 (↑i - 1) ∧ u6 = .slice A acc.length c ∧
           wr.ownsRow w.heap.size 5 1 (.slice A acc.length c) acc.length (bvs acc) ∧ Below w.heap.size w wr ∧ acc ++ (Wire.bd M i).map F = E) (fun _ u7 _ => (intOf u7 + 1).toNat)
        case atStart =>
          refine ⟨0, some ⟨w.heap.size, 0, none⟩, 1, [F (UInt8.ofNat (128 + 0))], by omega, by simp, rfl, ?_, (Below.refl _ _).alloc (Nat.le_refl _) _, ?_⟩
          · exact own_one' (by show Value.int .u8 _ = Value.int .u8 _; rw [← HX.out, ← head_u8 (k := 0) (by omega)]; rfl)
          · rw [HE.out, HN.out]; rfl
        case round =>
          obtain ⟨i, A, c, acc, hi, rfl, rfl, hown, hbel, henc⟩ := hrel
          have hc9 : acc.length ≤ 9 := by
            have h3 := congrArg List.length henc
            rw [HE.out] at h3
            simp [Wire.bd_length] at h3
            have := Wire.nb_le 8 M
            omega
          have HE2 := Lib.hid henc; clear henc
          by_cases hi0 : i = 0
          · subst hi0
            have hE3 : acc = E := by have := HE2.out; simpa [Wire.bd] using this
            subst hE3
            go_wp2
            try rw [Exit.noGoto_ret]
            go_ret
            exact ⟨A, c, rfl, hown, hbel⟩
          · obtain ⟨i, rfl⟩ := Nat.exists_eq_succ_of_ne_zero hi0
            go_wp2_with (at_builtin; refine wpList_app1 rfl (.tmp 36) (.tmp 44) 70 rfl w.heap.size 5 _ 1 bytesE A acc.length c _ _ rfl rfl hown hbel rfl (by omega) (Nat.le_refl _) hbel.size ?_; intro g c' w' hown' hbel' _)
            go_roundw
            case rel =>
              refine ⟨i, some ⟨g, 0, none⟩, c', acc ++ [F (UInt8.ofNat (M / 256 ^ i))], by omega, by go_num, by simp, ?_, hbel', ?_⟩
              · rw [← bvs_snoc acc _ rfl, ← HX.out, ← mod_u8, ← shr_nat]
                simpa using hown'
              · have := HE2.out
                rw [Wire.bd] at this
                simpa using this
            case measure => simp [intOf] <;> omega
      · obtain ⟨j, rfl⟩ : ∃ j, k = j + 1 := ⟨k - 1, by omega⟩
        by_cases hj : (0 : Int) < ↑M / 2 ^ (8 * j)
        · have HN := Lib.hid (digits_end hMlt hk hlt (.inr (by rw [Nat.add_sub_cancel]; exact hj)))
          clear hlt
          go_wp2
          go_loopw [6, 7] (fun u6 u7 wr => ∃ (i : Nat) (A : Option Addr) (c : Nat) (acc : List UInt8), i ≤ 8 ∧ u7 = .int .i64 (↑i - 1) ∧ u6 = .slice A acc.length c ∧
             wr.ownsRow w.heap.size 5 1 (.slice A acc.length c) acc.length (bvs acc) ∧ Below w.heap.size w wr ∧ acc ++ (Wire.bd M i).map F = E) (fun _ u7 _ => (intOf u7 + 1).toNat)
          case atStart =>
            refine ⟨(j + 1), some ⟨w.heap.size, 0, none⟩, 1, [F (UInt8.ofNat (128 + (j + 1)))], by omega, by go_num, rfl, ?_, (Below.refl _ _).alloc (Nat.le_refl _) _, ?_⟩
            · exact own_one' (by show Value.int .u8 _ = Value.int .u8 _; rw [← HX.out, ← head_u8 (k := (j + 1)) (by omega)]; rfl)
            · rw [HE.out, HN.out]; rfl
          case round =>
            obtain ⟨i, A, c, acc, hi, rfl, rfl, hown, hbel, henc⟩ := hrel
            have hc9 : acc.length ≤ 9 := by
              have h3 := congrArg List.length henc
              rw [HE.out] at h3
              simp [Wire.bd_length] at h3
              have := Wire.nb_le 8 M
              omega
            have HE2 := Lib.hid henc; clear henc
            by_cases hi0 : i = 0
            · subst hi0
              have hE3 : acc = E := by have := HE2.out; simpa [Wire.bd] using this
              subst hE3
              go_wp2
              try rw [Exit.noGoto_ret]
              go_ret
              exact ⟨A, c, rfl, hown, hbel⟩
            · obtain ⟨i, rfl⟩ := Nat.exists_eq_succ_of_ne_zero hi0
              go_wp2_with (at_builtin; refine wpList_app1 rfl (.tmp 36) (.tmp 44) 70 rfl w.heap.size 5 _ 1 bytesE A acc.length c _ _ rfl rfl hown hbel rfl (by omega) (Nat.le_refl _) hbel.size ?_; intro g c' w' hown' hbel' _)
              go_roundw
              case rel =>
                refine ⟨i, some ⟨g, 0, none⟩, c', acc ++ [F (UInt8.ofNat (M / 256 ^ i))], by omega, by go_num, by simp, ?_, hbel', ?_⟩
                · rw [← bvs_snoc acc _ rfl, ← HX.out, ← mod_u8, ← shr_nat]
                  simpa using hown'
                · have := HE2.out
                  rw [Wire.bd] at this
                  simpa using this
              case measure => simp [intOf] <;> omega
        · have HS := Lib.hid (digits_step hj)
          clear hlt
          go_wp2
          go_round
          case rel => exact ⟨j, by omega, rfl, HS.out⟩
          case measure => simp [intOf]
  · have hn0 : n < 0 := by simpa using hneg
    have hm : bits BinOp.xor IntKind.u64 IntKind.u64.max (IntKind.u64.wrap n) = (M : Int) := by rw [hM]; exact not_u64 M hMlt
    have HX : Hid (∀ x : UInt8, bits .xor .u8 (x.toNat : Int) 255 = ((F x).toNat : Int)) := HX0
    clear hneg hM HX0
    go_enter Try.func59, Try.ntmps59
    go_wp2
    go_step3
    go_wp2
    go_step3
    go_wp2
    clear hm
    go_loop [5] (fun u => ∃ k : Nat, k ≤ 8 ∧ u = .int .i64 k ∧ M < 256 ^ k) (fun u => (intOf u).toNat)
    case atStart => exact ⟨8, by omega, rfl, by omega⟩
    case round =>
      obtain ⟨k, hk, rfl, hlt⟩ := hrel
      by_cases hk0 : k = 0
      · subst hk0
        have HN := Lib.hid (digits_end hMlt (by omega) hlt (.inl rfl))
        clear hlt
        go_wp2
        go_loopw [6, 7] (fun u6 u7 wr => ∃ (i : Nat) (A : Option Addr) (c : Nat) (acc : List UInt8), i ≤ 8 ∧ u7 = .int .i64 (↑i - 1) ∧ u6 = .slice A acc.length c ∧
           wr.ownsRow w.heap.size 5 1 (.slice A acc.length c) acc.length (bvs acc) ∧ Below w.heap.size w wr ∧ acc ++ (Wire.bd M i).map F = E) (fun _ u7 _ => (intOf u7 + 1).toNat)
        case atStart =>
          refine ⟨0, some ⟨w.heap.size, 0, none⟩, 1, [F (UInt8.ofNat (128 + 0))], by omega, by simp, rfl, ?_, (Below.refl _ _).alloc (Nat.le_refl _) _, ?_⟩
          · exact own_one' (by show Value.int .u8 _ = Value.int .u8 _; rw [← HX.out, ← head_u8 (k := 0) (by omega)]; rfl)
          · rw [HE.out, HN.out]; rfl
        case round =>
          obtain ⟨i, A, c, acc, hi, rfl, rfl, hown, hbel, henc⟩ := hrel
          have hc9 : acc.length ≤ 9 := by
            have h3 := congrArg List.length henc
            rw [HE.out] at h3
            simp [Wire.bd_length] at h3
            have := Wire.nb_le 8 M
            omega
          have HE2 := Lib.hid henc; clear henc
          by_cases hi0 : i = 0
          · subst hi0
            have hE3 : acc = E := by have := HE2.out; simpa [Wire.bd] using this
            subst hE3
            go_wp2
            try rw [Exit.noGoto_ret]
            go_ret
            exact ⟨A, c, rfl, hown, hbel⟩
          · obtain ⟨i, rfl⟩ := Nat.exists_eq_succ_of_ne_zero hi0
            go_wp2_with (at_builtin; refine wpList_app1 rfl (.tmp 36) (.tmp 44) 70 rfl w.heap.size 5 _ 1 bytesE A acc.length c _ _ rfl rfl hown hbel rfl (by omega) (Nat.le_refl _) hbel.size ?_; intro g c' w' hown' hbel' _)
            go_roundw
            case rel =>
              refine ⟨i, some ⟨g, 0, none⟩, c', acc ++ [F (UInt8.ofNat (M / 256 ^ i))], by omega, by go_num, by simp, ?_, hbel', ?_⟩
              · rw [← bvs_snoc acc _ rfl, ← HX.out, ← mod_u8, ← shr_nat]
                simpa using hown'
              · have := HE2.out
                rw [Wire.bd] at this
                simpa using this
            case measure => simp [intOf] <;> omega
      · obtain ⟨j, rfl⟩ : ∃ j, k = j + 1 := ⟨k - 1, by omega⟩
        by_cases hj : (0 : Int) < ↑M / 2 ^ (8 * j)
        · have HN := Lib.hid (digits_end hMlt hk hlt (.inr (by rw [Nat.add_sub_cancel]; exact hj)))
          clear hlt
          go_wp2
          go_loopw [6, 7] (fun u6 u7 wr => ∃ (i : Nat) (A : Option Addr) (c : Nat) (acc : List UInt8), i ≤ 8 ∧ u7 = .int .i64 (↑i - 1) ∧ u6 = .slice A acc.length c ∧
             wr.ownsRow w.heap.size 5 1 (.slice A acc.length c) acc.length (bvs acc) ∧ Below w.heap.size w wr ∧ acc ++ (Wire.bd M i).map F = E) (fun _ u7 _ => (intOf u7 + 1).toNat)
          case atStart =>
            refine ⟨(j + 1), some ⟨w.heap.size, 0, none⟩, 1, [F (UInt8.ofNat (128 + (j + 1)))], by omega, by go_num, rfl, ?_, (Below.refl _ _).alloc (Nat.le_refl _) _, ?_⟩
            · exact own_one' (by show Value.int .u8 _ = Value.int .u8 _; rw [← HX.out, ← head_u8 (k := (j + 1)) (by omega)]; rfl)
            · rw [HE.out, HN.out]; rfl
          case round =>
            obtain ⟨i, A, c, acc, hi, rfl, rfl, hown, hbel, henc⟩ := hrel
            have hc9 : acc.length ≤ 9 := by
              have h3 := congrArg List.length henc
              rw [HE.out] at h3
              simp [Wire.bd_length] at h3
              have := Wire.nb_le 8 M
              omega
            have HE2 := Lib.hid henc; clear henc
            by_cases hi0 : i = 0
            · subst hi0
              have hE3 : acc = E := by have := HE2.out; simpa [Wire.bd] using this
              subst hE3
              go_wp2
              try rw [Exit.noGoto_ret]
              go_ret
              exact ⟨A, c, rfl, hown, hbel⟩
            · obtain ⟨i, rfl⟩ := Nat.exists_eq_succ_of_ne_zero hi0
              go_wp2_with (at_builtin; refine wpList_app1 rfl (.tmp 36) (.tmp 44) 70 rfl w.heap.size 5 _ 1 bytesE A acc.length c _ _ rfl rfl hown hbel rfl (by omega) (Nat.le_refl _) hbel.size ?_; intro g c' w' hown' hbel' _)
              go_roundw
              case rel =>
                refine ⟨i, some ⟨g, 0, none⟩, c', acc ++ [F (UInt8.ofNat (M / 256 ^ i))], by omega, by go_num, by simp, ?_, hbel', ?_⟩
                · rw [← bvs_snoc acc _ rfl, ← HX.out, ← mod_u8, ← shr_nat]
                  simpa using hown'
                · have := HE2.out
                  rw [Wire.bd] at this
                  simpa using this
              case measure => simp [intOf] <;> omega
        · have HS := Lib.hid (digits_step hj)
          clear hlt
          go_wp2
          go_round
          case rel => exact ⟨j, by omega, rfl, HS.out⟩
          case measure => simp [intOf]

theorem wireInt_any (n : Int) (h1 : -9223372036854775808 ≤ n) (h2 : n ≤ 9223372036854775807) (w : World) :
    Calls Try.prog 59 #[.int .i64 n] w fun e w' => ∃ A c, e = .returned (.slice A (Wire.enc n).length c) ∧
      w'.ownsRow w.heap.size 5 1 (.slice A (Wire.enc n).length c) (Wire.enc n).length (bvs (Wire.enc n)) ∧ Below w.heap.size w w' :=
  wireInt_gen n (Wire.mag n) _ (Wire.enc n) rfl h1 h2 (Wire.of_mag n).symm rfl w

end Go.Proofs.Ytcicfneekmbamaa
