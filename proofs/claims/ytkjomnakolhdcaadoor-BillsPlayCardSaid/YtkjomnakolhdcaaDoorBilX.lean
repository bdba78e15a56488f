/- Layer 35's Close where its arguments are refused. Conditions: at most 1000 charges, numbers of 64 bits. -/
import Derived.Test.YtkjomnakolhdcaaDoorBilK
namespace Go.Proofs.YtkjomnakolhdcaaDoor
set_option linter.unusedVariables false
set_option linter.unusedSimpArgs false
open Go.RowKit
/-- the bill that is none -/
def zBill : Value := .agg #[.int .i64 0, .int .i64 0, .int .i64 0, .slice none 0 0, .slice none 0 0, .slice none 0 0]
def Z6 : List Value := [.int .i64 0, .int .i64 0, .int .i64 0, .slice none 0 0, .slice none 0 0, .slice none 0 0]
set_option maxHeartbeats 800000 in
theorem fits_any (x : Int) (w : World) : Calls Tryd.prog 68 #[.int .i64 x] w fun e w' => e = .returned (.bool (Bil.fits x)) ∧ w' = w := by
  by_cases h1 : x < 0
  · have e : Bil.fits x = false := by unfold Bil.fits; rw [decide_eq_false_iff_not]; omega
    rw [e]
    go_enter Tryd.func68, Tryd.ntmps68
    go_wp2
    go_ret
    exact ⟨rfl, rfl⟩
  · by_cases h2 : 1099511627776 < x
    · have e : Bil.fits x = false := by unfold Bil.fits; rw [decide_eq_false_iff_not]; omega
      rw [e]
      go_enter Tryd.func68, Tryd.ntmps68
      go_wp2
      go_ret
      exact ⟨by show Ending.returned (.bool (decide (x ≤ 1099511627776))) = _; rw [decide_eq_false (by omega)], rfl⟩
    · have e : Bil.fits x = true := by unfold Bil.fits; rw [decide_eq_true_iff]; omega
      rw [e]
      go_enter Tryd.func68, Tryd.ntmps68
      go_wp2
      go_ret
      exact ⟨rfl, rfl⟩
theorem rd_int {w : World} {B n : Nat} {A : Option Addr} {l : List Int} (h : Rd w B 1 A n (ivs l)) (hl : l.length = n) (h0 : 0 < n) : ∃ b off, A = some ⟨b, off, none⟩ ∧ b < B ∧ ∀ k, k < n → w.cell? ⟨b, off + k, none⟩ = some (.int .i64 (l.getD k 0)) := by
  obtain ⟨b, off, e, hb, hc⟩ := h.2 h0
  refine ⟨b, off, e, hb, fun k hk => hc k _ ?_⟩
  simp [ivs, List.getD, show k < l.length by omega]
theorem fits_range {x : Int} (h : Bil.fits x = true) : 0 ≤ x ∧ x ≤ 1099511627776 := by simpa [Bil.fits] using h
/-- the sum of the first k elements -/
def sumK (C : List Int) (k : Nat) : Int := (C.take k).sum
theorem sumK_step (C : List Int) (k : Nat) (h : k < C.length) : sumK C (k + 1) = sumK C k + C.getD k 0 := by
  unfold sumK
  rw [List.take_succ_eq_append_getElem h, List.sum_append]
  simp [List.getD, h]
theorem sumK_bound (C : List Int) : ∀ k, k ≤ C.length → (∀ j, j < k → Bil.fits (C.getD j 0) = true) → 0 ≤ sumK C k ∧ sumK C k ≤ 1099511627776 * k
  | 0, _, _ => by simp [sumK]
  | k + 1, hk, h => by
    have ih := sumK_bound C k (by omega) (fun j hj => h j (by omega))
    have := fits_range (h k (by omega))
    rw [sumK_step C k (by omega)]
    omega
set_option maxRecDepth 100000 in
set_option maxHeartbeats 3200000 in
theorem close_bad (bl : Nat) (col : Nat → Nat) (m : LM) (l : Bil.Lg) (md hs : Int) (h1 : -9223372036854775808 ≤ hs) (h2 : hs ≤ 9223372036854775807) (A : Option Addr) (n0 c : Nat) (C : List Int) (hC : C.length = n0) (hn : n0 ≤ 1000) (B : Nat) (w : World) (h : LAt w bl col m l) (rd : Rd w B 1 A n0 (ivs C)) (hB : B ≤ w.heap.size)
    (hbad : ¬ Bil.CloseOk l md hs C) :
    Calls Tryd.prog 29 #[.pointer (some ⟨bl, 0, none⟩), .int .i64 md, .int .i64 hs, .slice A n0 c] w fun e w' => e = .returned (.tuple #[zBill, .int .i64 1]) ∧ Below w.heap.size w w' := by
  have q8 := IsRow.new w 31 Z6
  have hb8 : Below w.heap.size w (w.alloc (.cells Z6.toArray 31)) := (Below.refl _ _).alloc (Nat.le_refl _) _
  obtain ⟨w8, hw8⟩ : ∃ x, w.alloc (.cells Z6.toArray 31) = x := ⟨_, rfl⟩
  rw [hw8] at q8 hb8
  have HW8 := Lib.hid (show w.alloc (.cells #[.int .i64 0, .int .i64 0, .int .i64 0, .slice none 0 0, .slice none 0 0, .slice none 0 0] 31) = w8 from hw8)
  have HT := Lib.hid (tenants_any bl col m l w8 (h.below hb8))
  have rd8 := rd.below (hb8.mono hB)
  obtain ⟨b8, hb8'⟩ : ∃ x, w.heap.size = x := ⟨_, rfl⟩
  have HB8 := Lib.hid (And.intro hb8 (show w.heap.size ≤ b8 from Nat.le_of_eq hb8'))
  have HBE := Lib.hid hb8'
  rw [hb8'] at q8
  have HQ8 := Lib.hid q8
  obtain ⟨N, hN⟩ : ∃ x, l.n = x := ⟨_, rfl⟩
  rw [hN] at HT
  obtain ⟨ok0, hok0⟩ : ∃ x, (decide (n0 = N) && Bil.fits md && Bil.fits hs) = x := ⟨_, rfl⟩
  have HOK := Lib.hid hok0
  have HBAD : Hid (ok0 = true → (∀ j, j < n0 → Bil.fits (C.getD j 0) = true) → hs + sumK C n0 ≠ md) := Lib.hid (fun e hf hs' => by
    rw [e] at hok0
    simp only [Bool.and_eq_true, decide_eq_true_eq] at hok0
    refine hbad ⟨by rw [hC, hok0.1.1, hN], hok0.1.2, hok0.2, fun x hx => ?_, ?_⟩
    · obtain ⟨j, hj, rfl⟩ := List.mem_iff_getElem.1 hx
      have := hf j (by omega)
      simpa [List.getD, hj] using this
    · rw [← hs']; unfold sumK; rw [List.take_of_length_le (by omega)])
  have HF := Lib.hid (fun x => fits_any x w8)
  have HC := Lib.hid hC
  have HR := Lib.hid rd8
  have HH := Lib.hid (And.intro h1 h2)
  have HHF : Hid (ok0 = true → 0 ≤ hs ∧ hs ≤ 1099511627776) := Lib.hid (fun e => by rw [e] at hok0; simp only [Bool.and_eq_true] at hok0; exact fits_range hok0.2)
  clear h rd hB hbad hw8 q8 hb8 hb8' rd8 hN hok0 hC h1 h2
  go_enter Tryd.func29, Tryd.ntmps29
  go_upto_region 2 with fail
  rw [show _ = w8 from HW8.out, show w.heap.size = b8 from HBE.out]
  go_cut [11, 12] (fun u11 u12 wx => u11 = .int .i64 hs ∧ u12 = .bool ok0 ∧ wx = w8)
  case first =>
    by_cases e1 : n0 = N
    · subst e1
      cases e2 : Bil.fits md with
      | false =>
        have e : ok0 = false := by rw [← HOK.out, e2]; simp
        subst e
        go_wp2_with (first
          | (go_at_call 43; refine HT.out.mono ?_; rintro e w2 ⟨rfl, hw2⟩; rw [hw2]; clear hw2 w2)
          | (go_at_call 68; refine (HF.out md).mono ?_; rintro e w2 ⟨rfl, hw2⟩; rw [hw2, e2]; clear hw2 w2))
        go_meet
        exact ⟨rfl, rfl, rfl⟩
      | true =>
        have e : ok0 = Bil.fits hs := by rw [← HOK.out, e2]; simp
        subst e
        go_wp2_with (first
          | (go_at_call 43; refine HT.out.mono ?_; rintro e w2 ⟨rfl, hw2⟩; rw [hw2]; clear hw2 w2)
          | (go_at_call 68; refine (HF.out md).mono ?_; rintro e w2 ⟨rfl, hw2⟩; rw [hw2, e2]; clear hw2 w2)
          | (go_at_call 68; refine (HF.out hs).mono ?_; rintro e w2 ⟨rfl, hw2⟩; rw [hw2]; clear hw2 w2))
        go_meet
        exact ⟨rfl, rfl, rfl⟩
    · have e : ok0 = false := by rw [← HOK.out]; simp [e1]
      subst e
      have e2 : ¬ ((n0 : Int) = (N : Int)) := by omega
      have e3 : ((n0 : Int) == (N : Int)) = false := by rw [beq_eq_false_iff_ne]; exact e2
      go_wp2_with (go_at_call 43; refine HT.out.mono ?_; rintro e w2 ⟨rfl, hw2⟩; rw [hw2]; clear hw2 w2)
      go_meet
      exact ⟨rfl, rfl, rfl⟩
  case rest =>
    obtain ⟨rfl, rfl, hwc⟩ := hcut
    rw [hwc]
    clear hwc
    go_wp2_with fail
    go_loopw [11, 12, 37] (fun u11 u12 u37 wr => ∃ k : Nat, k ≤ n0 ∧ u37 = .int .i64 k ∧ u11 = .int .i64 (hs + sumK C k) ∧ u12 = .bool ok0 ∧ (ok0 = false → k = 0) ∧ Hid (∀ j, j < k → Bil.fits (C.getD j 0) = true) ∧ wr = w8) (fun _ _ u37 _ => n0 - (intOf u37).toNat)
    case atStart => exact ⟨0, Nat.zero_le _, rfl, by simp [sumK], rfl, fun _ => rfl, Lib.hid (fun j hj => by omega), rfl⟩
    case round =>
      obtain ⟨k, hk, rfl, rfl, rfl, hk0, HFK, hwr⟩ := hrel
      subst hwr
      have HK0 := Lib.hid hk0
      clear hk0
      by_cases hlt : k < n0
      · have hck := rd_int HR.out HC.out (by omega)
        obtain ⟨b, off, rfl, _, hc⟩ := hck
        have hck := hc k hlt
        have i0 : (0 : Int) ≤ (k : Int) := by omega
        have i1 : (k : Int) < (n0 : Int) := by omega
        obtain ⟨x, hx⟩ : ∃ x, C.getD k 0 = x := ⟨_, rfl⟩
        rw [hx] at hck
        have HX := Lib.hid hx
        clear hc hx
        cases ok0 with
        | false =>
          go_wp2_with (first
            | (go_at_call 68; refine (HF.out x).mono ?_; rintro e w2 ⟨rfl, hw2⟩; rw [hw2]; clear hw2 w2)
            | (refine wpList_storeRow rfl _ (.tmp 8) (.tmp 61) rfl (l' := Z6) HQ8.out rfl rfl size6 rfl rfl ?_; intro w9 r9 g9 z9))
          exact bodyPost_ret (resultRowST rfl _ _ r9 rfl Tryd.underlying31 size6) rfl ⟨rfl, HB8.out.1.grown g9 HB8.out.1.size (by intro j hj; have hj := Option.some.inj hj; have := HB8.out.2; omega)⟩
        | true =>
          cases ef : Bil.fits x with
          | false =>
            go_wp2_with (first
              | (go_at_call 68; refine (HF.out x).mono ?_; rintro e w2 ⟨rfl, hw2⟩; rw [hw2, ef]; clear hw2 w2)
              | (refine wpList_storeRow rfl _ (.tmp 8) (.tmp 61) rfl (l' := Z6) HQ8.out rfl rfl size6 rfl rfl ?_; intro w9 r9 g9 z9))
            exact bodyPost_ret (resultRowST rfl _ _ r9 rfl Tryd.underlying31 size6) rfl ⟨rfl, HB8.out.1.grown g9 HB8.out.1.size (by intro j hj; have hj := Option.some.inj hj; have := HB8.out.2; omega)⟩
          | true =>
            have hhs := HHF.out rfl
            have hsk := sumK_bound C k (by have := HC.out; omega) HFK.out
            have hfx := fits_range ef
            have hstep := sumK_step C k (by have := HC.out; omega)
            rw [HX.out] at hstep
            obtain ⟨s, hs'⟩ : ∃ s, hs + sumK C k = s := ⟨_, rfl⟩
            rw [hs']
            obtain ⟨sx, hsx⟩ : ∃ y, s + x = y := ⟨_, rfl⟩
            have m1 : IntKind.i64.wrap (s + x) = sx := by rw [hsx]; exact IntWalk.i64_in _ (by omega)
            have HS' := Lib.hid (show hs + sumK C (k + 1) = sx from by omega)
            clear hhs hsk hfx hstep hs' hsx
            go_wp2_with (first
              | (go_at_call 68; refine (HF.out x).mono ?_; rintro e w2 ⟨rfl, hw2⟩; rw [hw2, ef]; clear hw2 w2))
            go_roundw
            case rel =>
              refine ⟨k + 1, by omega, by go_num, by rw [HS'.out], rfl, fun h => (by cases h), Lib.hid fun j hj => ?_, trivial⟩
              by_cases e : j = k
              · subst e; rw [HX.out]; exact ef
              · exact HFK.out j (by omega)
            case measure => simp [intOf]; omega
      · obtain rfl : k = n0 := by omega
        cases ok0 with
        | false =>
          go_wp2_with (refine wpList_storeRow rfl _ (.tmp 8) (.tmp 61) rfl (l' := Z6) HQ8.out rfl rfl size6 rfl rfl ?_; intro w9 r9 g9 z9)
          exact bodyPost_ret (resultRowST rfl _ _ r9 rfl Tryd.underlying31 size6) rfl ⟨rfl, HB8.out.1.grown g9 HB8.out.1.size (by intro j hj; have hj := Option.some.inj hj; have := HB8.out.2; omega)⟩
        | true =>
          have hne := HBAD.out rfl HFK.out
          have hne2 : (hs + sumK C k == md) = false := by rw [beq_eq_false_iff_ne]; exact hne
          obtain ⟨s, hs'⟩ : ∃ s, hs + sumK C k = s := ⟨_, rfl⟩
          rw [hs'] at hne hne2 ⊢
          clear hs'
          go_wp2_with (refine wpList_storeRow rfl _ (.tmp 8) (.tmp 61) rfl (l' := Z6) HQ8.out rfl rfl size6 rfl rfl ?_; intro w9 r9 g9 z9)
          exact bodyPost_ret (resultRowST rfl _ _ r9 rfl Tryd.underlying31 size6) rfl ⟨rfl, HB8.out.1.grown g9 HB8.out.1.size (by intro j hj; have hj := Option.some.inj hj; have := HB8.out.2; omega)⟩
end Go.Proofs.YtkjomnakolhdcaaDoor
