/- Walk of the reference's encoder: solventref01.Int returns the encoding of its argument in new memory. Conditions: none. -/
import Derived.Test.YtcicfneekmbamaaWireInt
namespace Go.Proofs.Ytcicfneekmbamaa
set_option linter.unusedVariables false
set_option linter.unusedSimpArgs false
open Go.RowKit

theorem div_step (M k : Nat) : M / 256 ^ k / 256 = M / 256 ^ (k + 1) := by rw [Nat.div_div_eq_div_mul, Nat.pow_succ]
theorem mod_byte (M k : Nat) : ((M / 256 ^ k : Nat) : Int) % 256 = ((UInt8.ofNat (M / 256 ^ k)).toNat : Int) := mod_u8 _
theorem sub_u8 (x : UInt8) : (255 : Int) - (x.toNat : Int) = ((255 - x).toNat : Int) := by
  have := x.toNat_lt
  rw [UInt8.toNat_sub]
  have e2 : (255 : UInt8).toNat = 255 := rfl
  rw [e2]; omega
theorem getElem_bd_rev {M k i : Nat} (hi : i < k) (h : i < (Wire.bd M k).reverse.length) : (Wire.bd M k).reverse[i] = UInt8.ofNat (M / 256 ^ i) := by
  induction k with
  | zero => omega
  | succ k ih =>
    simp only [Wire.bd, List.reverse_cons] at h ⊢
    by_cases hik : i < k
    · rw [List.getElem_append_left (by simpa [Wire.bd_length] using hik)]
      exact ih hik _
    · obtain rfl : i = k := by omega
      rw [List.getElem_append_right (by simp [Wire.bd_length])]
      simp [Wire.bd_length]

set_option maxHeartbeats 1600000 in
theorem refInt_gen (n : Int) (M : Nat) (neg : Bool) (E : List UInt8) (hneg : decide (n < 0) = neg) (h1 : -9223372036854775808 ≤ n) (h2 : n ≤ 9223372036854775807) (hM : n = if neg then -1 - (M : Int) else M)
    (HE : Hid (E = Wire.flp neg (UInt8.ofNat (128 + Wire.nb 8 M)) :: (Wire.bd M (Wire.nb 8 M)).map (Wire.flp neg))) (w : World) :
    Calls Try.prog 67 #[.int .i64 n] w fun e w' => ∃ A c, e = .returned (.slice A E.length c) ∧
      w'.ownsRow w.heap.size 5 1 (.slice A E.length c) E.length (bvs E) ∧ Below w.heap.size w w' := by
  have hMlt : M < 9223372036854775808 := by cases neg <;> simp at hM hneg <;> omega
  cases neg
  · simp only [Bool.false_eq_true, if_false] at hM
    subst hM
    obtain ⟨F, hF⟩ : ∃ F : UInt8 → UInt8, F = Wire.flp false := ⟨_, rfl⟩
    have HF : Hid (∀ x : UInt8, (x.toNat : Int) = ((F x).toNat : Int)) := by rw [hF]; intro x; rfl
    have HH : Hid (∀ k : Nat, k ≤ 8 → ((F (UInt8.ofNat (128 + k))).toNat : Int) = 128 + (k : Int)) := by
      intro k hk; rw [hF]; exact (head_u8 hk).symm
    rw [← hF] at HE
    clear hF
    have hn0 : ¬ (M : Int) < 0 := by omega
    clear hneg h1 h2
    go_enter Try.func67, Try.ntmps67
    go_wp2
    skip
    go_loopw [3, 4] (fun u3 u4 wr => ∃ (k q : Nat) (A : Option Addr) (c : Nat), k ≤ 8 ∧ Hid (q = M / 256 ^ k) ∧ (k = 0 ∨ 256 ^ (k - 1) ≤ M) ∧ u3 = .int .i64 q ∧ u4 = .slice A k c ∧
       wr.ownsRow w.heap.size 5 1 (.slice A k c) k (bvs (Wire.bd M k).reverse) ∧ Below w.heap.size w wr) (fun u3 _ _ => (intOf u3).toNat)
    case atStart => exact ⟨0, M, none, 0, by omega, by simp [Hid], .inl rfl, rfl, rfl, World.ownsRow_nil _ _ _ _, Below.refl _ _⟩
    case round =>
      obtain ⟨k, q, A, c, hk, HQ, hge, rfl, rfl, hown, hbel⟩ := hrel
      by_cases hq : q = 0
      · have HN : Hid (Wire.nb 8 M = k) := by
          refine Wire.nb_eq hk ?_ hge
          have := HQ.out
          rw [hq] at this
          rcases Nat.lt_or_ge M (256 ^ k) with h | h
          · exact h
          · have : 1 ≤ M / 256 ^ k := by rw [Nat.le_div_iff_mul_le (Nat.pow_pos (by omega))]; omega
            omega
        clear hge
        subst hq
        obtain ⟨W1, hW1⟩ : ∃ W1, W1 = wr := ⟨_, rfl⟩
        subst hW1
        have hrd := Rd.of_own hown
        go_wp2_with (at_builtin; refine wpList_app1 rfl (.tmp 28) (.tmp 32) 70 rfl W1.heap.size 5 _ 1 bytesE none 0 0 [] _ rfl rfl (World.ownsRow_nil _ _ _ _) (Below.refl W1.heap.size W1) rfl (by omega) (Nat.le_refl _) (Nat.le_refl _) ?_; intro g c' w' hown' hbel' _)
        go_loopw [6, 7, 8] (fun u6 u7 _ wr => ∃ (i : Nat) (A : Option Addr) (c : Nat) (acc : List UInt8), i ≤ k ∧ u7 = .int .i64 (↑i - 1) ∧ u6 = .slice A acc.length c ∧
           wr.ownsRow W1.heap.size 5 1 (.slice A acc.length c) acc.length (bvs acc) ∧ Below W1.heap.size W1 wr ∧ Hid (acc ++ (Wire.bd M i).map F = E)) (fun _ u7 _ _ => (intOf u7 + 1).toNat)
        case atStart =>
          refine ⟨k, some ⟨g, 0, none⟩, c', [F (UInt8.ofNat (128 + k))], by omega, by go_num, by simp, ?_, hbel', ?_⟩
          · have e : bvs [F (UInt8.ofNat (128 + k))] = [] ++ [.int .u8 (128 + (k : Int))] := by
              show [Value.int .u8 _] = [Value.int .u8 _]
              rw [HH.out k hk]
            rw [e]
            simpa using hown'
          · show _ = E
            rw [HE.out, HN.out]; rfl
        case round =>
          obtain ⟨i, A2, c2, acc, hi, rfl, rfl, hown2, hbel2, HE2⟩ := hrel
          have hc9 : acc.length ≤ 9 := by
            have h3 := congrArg List.length HE2.out
            rw [HE.out] at h3
            simp [Wire.bd_length] at h3
            have := Wire.nb_le 8 M
            omega
          by_cases hi0 : i = 0
          · subst hi0
            have hE3 : acc = E := by have := HE2.out; simpa [Wire.bd] using this
            subst hE3
            go_wp2
            go_ret
            exact ⟨A2, c2, rfl, own_base hown2 hbel.size, hbel.trans (hbel2.mono hbel.size)⟩
          · obtain ⟨i, rfl⟩ := Nat.exists_eq_succ_of_ne_zero hi0
            have hlen : i < (Wire.bd M k).reverse.length := by simp [Wire.bd_length]; omega
            obtain ⟨b, off, rfl, hbW, hcell⟩ := (hrd.below hbel2).get hlen
            rw [getElem_bd_rev (by omega) hlen] at hcell
            have hD := UInt8.toNat_lt (UInt8.ofNat (M / 256 ^ i))
            obtain ⟨D, hDD⟩ : ∃ D, D = UInt8.ofNat (M / 256 ^ i) := ⟨_, rfl⟩
            rw [← hDD] at hcell hD
            have HD := Lib.hid hDD; clear hDD
            go_wp2_with (at_builtin; refine wpList_app1 rfl (.tmp 54) (.tmp 56) 70 rfl W1.heap.size 5 _ 1 bytesE A2 acc.length c2 _ _ rfl rfl hown2 hbel2 rfl (by omega) (Nat.le_refl _) hbel2.size ?_; intro g2 c3 w3 hown3 hbel3 _)
            go_roundw
            case rel =>
              refine ⟨i, some ⟨g2, 0, none⟩, c3, acc ++ [F D], by omega, by go_num, by simp, ?_, hbel3, ?_⟩
              · rw [← bvs_snoc acc _ rfl, ← HF.out]
                simpa using hown3
              · have := HE2.out
                rw [Wire.bd] at this
                show _ = E
                rw [HD.out]
                simpa using this
            case measure => simp [intOf] <;> omega
      · have hMq : 256 ^ k ≤ M := by
          have h3 := HQ.out
          have h4 : 1 ≤ M / 256 ^ k := by omega
          rw [Nat.le_div_iff_mul_le (Nat.pow_pos (by omega))] at h4
          omega
        have hk8 : k ≤ 7 := by
          have h5 : 256 ^ k < 256 ^ 8 := by have : (256 : Nat) ^ 8 = 18446744073709551616 := by decide
                                            omega
          have := (Nat.pow_lt_pow_iff_right (a := 256) (by omega)).1 h5
          omega
        have hqM : q ≤ M := by rw [HQ.out]; exact Nat.div_le_self _ _
        have HM := Lib.hid hMq
        clear hMq hge
        go_wp2_with (at_builtin; refine wpList_app1 rfl (.tmp 16) (.tmp 20) 70 rfl w.heap.size 5 _ 1 bytesE A k c _ _ rfl rfl hown hbel rfl (by omega) (Nat.le_refl _) hbel.size ?_; intro g c' w' hown' hbel' _)
        go_roundw
        case rel =>
          refine ⟨k + 1, q / 256, some ⟨g, 0, none⟩, c', by omega, ?_, .inr (by simpa using HM.out), by go_num, rfl, ?_, hbel'⟩
          · show _ = _
            rw [HQ.out, div_step]
          · rw [Wire.bd, List.reverse_cons, ← bvs_snoc _ _ rfl, ← mod_byte, ← HQ.out]
            exact hown'
        case measure => simp [intOf] <;> omega
  · simp only [if_true] at hM
    obtain ⟨F, hF⟩ : ∃ F : UInt8 → UInt8, F = Wire.flp true := ⟨_, rfl⟩
    have HF : Hid (∀ x : UInt8, (255 : Int) - (x.toNat : Int) = ((F x).toNat : Int)) := by rw [hF]; intro x; exact sub_u8 x
    have HH : Hid (∀ k : Nat, k ≤ 8 → ((F (UInt8.ofNat (128 + k))).toNat : Int) = 127 - (k : Int)) := by
      intro k hk; rw [hF, Wire.flp, if_pos rfl, ← sub_u8, ← head_u8 hk]; omega
    rw [← hF] at HE
    clear hF
    have hn0 : n < 0 := by simpa using hneg
    have hm : -1 - n = (M : Int) := by omega
    clear hneg hM
    go_enter Try.func67, Try.ntmps67
    go_wp2
    clear hm
    go_loopw [3, 4] (fun u3 u4 wr => ∃ (k q : Nat) (A : Option Addr) (c : Nat), k ≤ 8 ∧ Hid (q = M / 256 ^ k) ∧ (k = 0 ∨ 256 ^ (k - 1) ≤ M) ∧ u3 = .int .i64 q ∧ u4 = .slice A k c ∧
       wr.ownsRow w.heap.size 5 1 (.slice A k c) k (bvs (Wire.bd M k).reverse) ∧ Below w.heap.size w wr) (fun u3 _ _ => (intOf u3).toNat)
    case atStart => exact ⟨0, M, none, 0, by omega, by simp [Hid], .inl rfl, rfl, rfl, World.ownsRow_nil _ _ _ _, Below.refl _ _⟩
    case round =>
      obtain ⟨k, q, A, c, hk, HQ, hge, rfl, rfl, hown, hbel⟩ := hrel
      by_cases hq : q = 0
      · have HN : Hid (Wire.nb 8 M = k) := by
          refine Wire.nb_eq hk ?_ hge
          have := HQ.out
          rw [hq] at this
          rcases Nat.lt_or_ge M (256 ^ k) with h | h
          · exact h
          · have : 1 ≤ M / 256 ^ k := by rw [Nat.le_div_iff_mul_le (Nat.pow_pos (by omega))]; omega
            omega
        clear hge
        subst hq
        obtain ⟨W1, hW1⟩ : ∃ W1, W1 = wr := ⟨_, rfl⟩
        subst hW1
        have hrd := Rd.of_own hown
        go_wp2_with (at_builtin; refine wpList_app1 rfl (.tmp 34) (.tmp 38) 70 rfl W1.heap.size 5 _ 1 bytesE none 0 0 [] _ rfl rfl (World.ownsRow_nil _ _ _ _) (Below.refl W1.heap.size W1) rfl (by omega) (Nat.le_refl _) (Nat.le_refl _) ?_; intro g c' w' hown' hbel' _)
        go_loopw [6, 7, 8] (fun u6 u7 _ wr => ∃ (i : Nat) (A : Option Addr) (c : Nat) (acc : List UInt8), i ≤ k ∧ u7 = .int .i64 (↑i - 1) ∧ u6 = .slice A acc.length c ∧
           wr.ownsRow W1.heap.size 5 1 (.slice A acc.length c) acc.length (bvs acc) ∧ Below W1.heap.size W1 wr ∧ Hid (acc ++ (Wire.bd M i).map F = E)) (fun _ u7 _ _ => (intOf u7 + 1).toNat)
        case atStart =>
          refine ⟨k, some ⟨g, 0, none⟩, c', [F (UInt8.ofNat (128 + k))], by omega, by go_num, by simp, ?_, hbel', ?_⟩
          · have e : bvs [F (UInt8.ofNat (128 + k))] = [] ++ [.int .u8 (127 - (k : Int))] := by
              show [Value.int .u8 _] = [Value.int .u8 _]
              rw [HH.out k hk]
            rw [e]
            simpa using hown'
          · show _ = E
            rw [HE.out, HN.out]; rfl
        case round =>
          obtain ⟨i, A2, c2, acc, hi, rfl, rfl, hown2, hbel2, HE2⟩ := hrel
          have hc9 : acc.length ≤ 9 := by
            have h3 := congrArg List.length HE2.out
            rw [HE.out] at h3
            simp [Wire.bd_length] at h3
            have := Wire.nb_le 8 M
            omega
          by_cases hi0 : i = 0
          · subst hi0
            have hE3 : acc = E := by have := HE2.out; simpa [Wire.bd] using this
            subst hE3
            go_wp2
            go_ret
            exact ⟨A2, c2, rfl, own_base hown2 hbel.size, hbel.trans (hbel2.mono hbel.size)⟩
          · obtain ⟨i, rfl⟩ := Nat.exists_eq_succ_of_ne_zero hi0
            have hlen : i < (Wire.bd M k).reverse.length := by simp [Wire.bd_length]; omega
            obtain ⟨b, off, rfl, hbW, hcell⟩ := (hrd.below hbel2).get hlen
            rw [getElem_bd_rev (by omega) hlen] at hcell
            have hD := UInt8.toNat_lt (UInt8.ofNat (M / 256 ^ i))
            obtain ⟨D, hDD⟩ : ∃ D, D = UInt8.ofNat (M / 256 ^ i) := ⟨_, rfl⟩
            rw [← hDD] at hcell hD
            have HD := Lib.hid hDD; clear hDD
            go_wp2_with (at_builtin; refine wpList_app1 rfl (.tmp 54) (.tmp 56) 70 rfl W1.heap.size 5 _ 1 bytesE A2 acc.length c2 _ _ rfl rfl hown2 hbel2 rfl (by omega) (Nat.le_refl _) hbel2.size ?_; intro g2 c3 w3 hown3 hbel3 _)
            go_roundw
            case rel =>
              refine ⟨i, some ⟨g2, 0, none⟩, c3, acc ++ [F D], by omega, by go_num, by simp, ?_, hbel3, ?_⟩
              · rw [← bvs_snoc acc _ rfl, ← HF.out]
                simpa using hown3
              · have := HE2.out
                rw [Wire.bd] at this
                show _ = E
                rw [HD.out]
                simpa using this
            case measure => simp [intOf] <;> omega
      · have hMq : 256 ^ k ≤ M := by
          have h3 := HQ.out
          have h4 : 1 ≤ M / 256 ^ k := by omega
          rw [Nat.le_div_iff_mul_le (Nat.pow_pos (by omega))] at h4
          omega
        have hk8 : k ≤ 7 := by
          have h5 : 256 ^ k < 256 ^ 8 := by have : (256 : Nat) ^ 8 = 18446744073709551616 := by decide
                                            omega
          have := (Nat.pow_lt_pow_iff_right (a := 256) (by omega)).1 h5
          omega
        have hqM : q ≤ M := by rw [HQ.out]; exact Nat.div_le_self _ _
        have HM := Lib.hid hMq
        clear hMq hge
        go_wp2_with (at_builtin; refine wpList_app1 rfl (.tmp 16) (.tmp 20) 70 rfl w.heap.size 5 _ 1 bytesE A k c _ _ rfl rfl hown hbel rfl (by omega) (Nat.le_refl _) hbel.size ?_; intro g c' w' hown' hbel' _)
        go_roundw
        case rel =>
          refine ⟨k + 1, q / 256, some ⟨g, 0, none⟩, c', by omega, ?_, .inr (by simpa using HM.out), by go_num, rfl, ?_, hbel'⟩
          · show _ = _
            rw [HQ.out, div_step]
          · rw [Wire.bd, List.reverse_cons, ← bvs_snoc _ _ rfl, ← mod_byte, ← HQ.out]
            exact hown'
        case measure => simp [intOf] <;> omega

theorem refInt_any (n : Int) (h1 : -9223372036854775808 ≤ n) (h2 : n ≤ 9223372036854775807) (w : World) :
    Calls Try.prog 67 #[.int .i64 n] w fun e w' => ∃ A c, e = .returned (.slice A (Wire.enc n).length c) ∧
      w'.ownsRow w.heap.size 5 1 (.slice A (Wire.enc n).length c) (Wire.enc n).length (bvs (Wire.enc n)) ∧ Below w.heap.size w w' :=
  refInt_gen n (Wire.mag n) _ (Wire.enc n) rfl h1 h2 (Wire.of_mag n).symm rfl w

end Go.Proofs.Ytcicfneekmbamaa
