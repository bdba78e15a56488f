/- The law SplitEqual: it returns true. Conditions: none beyond what each argument's type says. -/
import Derived.Test.YtegjfobanjkimaaSplF
namespace Go.Proofs.Ytegjfobanjkimaa
set_option linter.unusedVariables false
set_option linter.unusedSimpArgs false
open Go.RowKit
theorem int_one (q : Int) : (Value.int IntKind.i64 q).oneCell' = true := rfl
theorem rep_sum (n : Nat) (q : Int) : ∀ k, k ≤ n → Spl.sumTo (wOf (List.replicate n q)) k = k * q := by
  intro k
  induction k with
  | zero => intro _; simp [Spl.sumTo]
  | succ k ih =>
    intro hk
    show Spl.sumTo (wOf (List.replicate n q)) k + (List.replicate n q).getD k 0 = _
    rw [ih (by omega), Int.natCast_add, Int.add_mul]
    have : (List.replicate n q).getD k 0 = q := by simp [List.getD, show k < n by omega]
    rw [this]; simp
theorem rep_get {n k : Nat} (h : k < n) (q : Int) : (List.replicate n q).getD k 0 = q := by simp [List.getD, h]
/-- equal weights: Weighted's shares are Even's -/
theorem equal_row {T q : Int} {n : Nat} (h0 : 0 < n) (hq : 0 < q) (t0 : 0 ≤ T) {p : Nat → Nat} {k : Nat} (O : Spl.Ordr (fun t => T * (List.replicate n q).getD t 0 % Spl.sumTo (wOf (List.replicate n q)) n) n p) (hk : (k : Int) = T - Spl.sumTo (baseOf T (Spl.sumTo (wOf (List.replicate n q)) n) (List.replicate n q)) n) (hkn : k ≤ n) {t : Nat} (ht : t < n) : shOf T (List.replicate n q) n p k t = evenOf T n t := by
  rw [sh_eq O hkn ht]
  have hS := rep_sum n q n (Nat.le_refl _)
  have hid := Spl.ordr_id O fun i j hi hj => by show T * (List.replicate n q).getD i 0 % _ = T * (List.replicate n q).getD j 0 % _; rw [rep_get hi, rep_get hj]
  have hdv : ∀ i, i < n → baseOf T (Spl.sumTo (wOf (List.replicate n q)) n) (List.replicate n q) i = T / (n : Int) := fun i hi => by
    unfold baseOf; rw [rep_get hi, hS, Int.mul_ediv_mul_of_pos_left _ _ hq]
  have hsb : Spl.sumTo (baseOf T (Spl.sumTo (wOf (List.replicate n q)) n) (List.replicate n q)) n = n * (T / (n : Int)) := by
    have h : ∀ j, j ≤ n → Spl.sumTo (baseOf T (Spl.sumTo (wOf (List.replicate n q)) n) (List.replicate n q)) j = j * (T / (n : Int)) := by
      intro j
      induction j with
      | zero => intro _; simp [Spl.sumTo]
      | succ j ih =>
        intro hj
        show Spl.sumTo (baseOf T (Spl.sumTo (wOf (List.replicate n q)) n) (List.replicate n q)) j + baseOf T (Spl.sumTo (wOf (List.replicate n q)) n) (List.replicate n q) j = _
        rw [ih (by omega), hdv j (by omega), Int.natCast_add, Int.add_mul]; simp
    exact h n (Nat.le_refl _)
  rw [hsb] at hk
  have hm := Int.mul_ediv_add_emod T (n : Int)
  have hkm : (k : Int) = T % (n : Int) := by omega
  have hf : Spl.Fst p k t ↔ t < k := by
    constructor
    · rintro ⟨s, hs, rfl⟩; rw [hid s (by omega)]; exact hs
    · intro h; exact ⟨t, h, hid t ht⟩
  have h2 := hdv t ht
  unfold baseOf at h2
  rw [h2]
  unfold evenOf
  rw [← hkm]
  by_cases h : t < k
  · rw [if_pos (hf.2 h), if_pos (by omega)]
  · rw [if_neg (fun h' => h (hf.1 h')), if_neg (by omega)]
set_option maxRecDepth 100000 in
set_option maxHeartbeats 4000000 in
theorem lawEqual (T : Int) (l_T : -9223372036854775808 ≤ T) (u_T : T ≤ 9223372036854775807) (m : Int) (l_m : -9223372036854775808 ≤ m) (u_m : m ≤ 9223372036854775807) (q : Int) (l_q : -9223372036854775808 ≤ q) (u_q : q ≤ 9223372036854775807) (w : World) :
    Calls Try.prog 7 #[.int .i64 T, .int .i64 m, .int .i64 q] w fun e w' => e = .returned (.bool true) ∧ Below w.heap.size w w' := by
  by_cases hm1 : m < 1
  case pos =>
    skip
    go_enter Try.func7, Try.ntmps7
    go_wp2_with (go_at_call 8; refine (sanity_any _).mono ?_; rintro e ws_ ⟨rfl, bs_⟩)
    go_ret
    exact ⟨rfl, bs_⟩
  case neg =>
  by_cases hm3 : 300 < m
  case pos =>
    skip
    go_enter Try.func7, Try.ntmps7
    go_wp2_with (go_at_call 8; refine (sanity_any _).mono ?_; rintro e ws_ ⟨rfl, bs_⟩)
    go_ret
    exact ⟨rfl, bs_⟩
  case neg =>
  by_cases hq1 : q < 1
  case pos =>
    skip
    go_enter Try.func7, Try.ntmps7
    go_wp2_with (go_at_call 8; refine (sanity_any _).mono ?_; rintro e ws_ ⟨rfl, bs_⟩)
    go_ret
    exact ⟨rfl, bs_⟩
  case neg =>
  by_cases hq7 : 7000 < q
  case pos =>
    skip
    go_enter Try.func7, Try.ntmps7
    go_wp2_with (go_at_call 8; refine (sanity_any _).mono ?_; rintro e ws_ ⟨rfl, bs_⟩)
    go_ret
    exact ⟨rfl, bs_⟩
  case neg =>
  obtain ⟨n, rfl⟩ : ∃ n : Nat, m = n := ⟨m.toNat, by omega⟩
  have hn0 : 0 < n := by omega
  have hn3 : n ≤ 300 := by omega
  have HN := Lib.hid (And.intro hn0 hn3)
  go_enter Try.func7, Try.ntmps7
  go_wp2_with fail
  go_loopw [7, 8] (fun u7 u8 wr => ∃ (i : Nat) (AP : Option Addr) (cp : Nat), i ≤ n ∧ u7 = .slice AP i cp ∧ u8 = .int .i64 i ∧ Hid (wr.ownsRow w.heap.size 3 1 (.slice AP i cp) i (ivs (List.replicate i q))) ∧ Below w.heap.size w wr) (fun _ u8 _ => n - (intOf u8).toNat)
  case atStart => exact ⟨0, none, 0, Nat.zero_le _, rfl, rfl, World.ownsRow_nil _ _ _ _, Below.refl _ _⟩
  case round =>
    obtain ⟨i, AP, cp, hi, rfl, rfl, HOW, hbr⟩ := hrel
    by_cases hlt : i < n
    · have i1 : (i : Int) < (n : Int) := by omega
      have own1 := HOW.out
      have hsz := hbr.size
      go_wp2_with (first
        | (at_builtin; refine wpList_app1 rfl (.tmp 33) (.tmp 35) 22 rfl w.heap.size 3 _ 8 intT AP i cp _ _ rfl rfl own1 hbr rfl (by omega) (Nat.le_refl _) hsz ?_; intro g7 c7 w7 own7 hbel7 hg7)
        | fail)
      go_roundw
      case rel => exact ⟨i + 1, _, c7, by omega, rfl, by go_num, by rw [List.replicate_succ']; unfold Hid; simpa [ivs] using own7, hbel7⟩
      case measure => simp [intOf]; omega
    · obtain rfl : i = n := by omega
      have RW := Lib.hid (Rd.of_own HOW.out)
      have HBR := Lib.hid hbr
      have hS := rep_sum i q i (Nat.le_refl _)
      have hok : OkTo (List.replicate i q) i := fun j hj => by
        rw [rep_get hj, rep_sum i q (j + 1) (by omega)]
        have h1 : ((j + 1 : Nat) : Int) * q ≤ 300 * q := Int.mul_le_mul_of_nonneg_right (by omega) (by omega)
        omega
      have hs0 : Spl.sumTo (wOf (List.replicate i q)) i ≠ 0 := by
        rw [hS]
        have : 0 < (i : Int) * q := Int.mul_pos (by omega) (by omega)
        omega
      clear hbr hS
      by_cases hT : 0 ≤ T ∧ T ≤ 2147483647
      · have HE := Lib.hid (fun W => even_ok T i hn0 (by omega) hT.1 hT.2 W)
        have HW := Lib.hid (fun (W : World) (hW : Below wr.heap.size wr W) => weighted_ok T AP i cp (List.replicate i q) (by simp) (by omega) wr.heap.size W (RW.out.below hW) hW.size hT.1 hT.2 hok hs0)
        have HEQ := Lib.hid (fun (p : Nat → Nat) (k : Nat) O hk hkn (t : Nat) (ht : t < i) => equal_row (T := T) (q := q) (n := i) hn0 (by omega) hT.1 (p := p) (k := k) O hk hkn ht)
        clear hok hs0
        go_wp2_with fail
        refine (HE.out _).mono ?_
        rintro e w4 ⟨g4, rfl, F4, _, b4⟩
        go_wp2_with fail
        refine (HW.out w4 b4).mono ?_
        rintro e w5 ⟨g5, c5, p, k, rfl, _, F5, O, hk, hkn, _, b5⟩
        have F5 := F5.congr (e := evenOf T i) fun t ht => ((HEQ.out p k O hk hkn t ht).symm : evenOf T i t = _)
        have HB5 := Lib.hid (HBR.out.trans ((b4.trans (b5.mono b4.size)).mono HBR.out.size))
        have r4 := Lib.hid ((F4.below b5).rdL)
        have r5 := Lib.hid F5.rdL
        clear O hk hkn F4 F5 b4 b5
        go_wp2_with fail
        refine (sanity_any _).mono ?_
        rintro e w7 ⟨rfl, b7⟩
        have HS := Lib.hid (same33_b (some ⟨g4, 0, none⟩) (some ⟨g5, 0, none⟩) i c5 i i (rowL i (evenOf T i)) (rowL i (evenOf T i)) w7 (rowL_len _ _) (rowL_len _ _) (by unfold maxLen; omega) _ _ (r4.out.below b7) (r5.out.below b7) true (decide_eq_true rfl))
        have HB7 := Lib.hid (HB5.out.trans (b7.mono HB5.out.size))
        clear b7
        go_wp2_with fail
        refine HS.out.mono ?_
        rintro e w8 ⟨rfl, b8⟩
        go_wp2_with fail
        go_ret
        exact ⟨rfl, HB7.out.trans (b8.mono HB7.out.size)⟩
      · have hb : T < 0 ∨ 2147483647 < T := by omega
        have HE := Lib.hid (fun W => even_bad T i (by omega) (by omega) W)
        have HW := Lib.hid (fun (W : World) (hW : Below wr.heap.size wr W) => weighted_bad T AP i cp (List.replicate i q) (by simp) (by omega) wr.heap.size W (RW.out.below hW) hW.size (by rcases hb with h | h; exact Or.inl h; exact Or.inr (Or.inl h)))
        clear hok hs0 hb hT
        go_wp2_with fail
        refine (HE.out _).mono ?_
        rintro e w4 ⟨rfl, b4⟩
        go_wp2_with fail
        refine (HW.out w4 b4).mono ?_
        rintro e w5 ⟨rfl, b5⟩
        have HB5 := Lib.hid (HBR.out.trans ((b4.trans (b5.mono b4.size)).mono HBR.out.size))
        clear b4 b5
        go_wp2_with fail
        refine (sanity_any _).mono ?_
        rintro e w7 ⟨rfl, b7⟩
        have HB7 := Lib.hid (HB5.out.trans (b7.mono HB5.out.size))
        have HS := Lib.hid (same33_b none none 0 0 0 0 [] [] w7 rfl rfl (by unfold maxLen; omega) 0 0 (Rd.nil_ _ _ _ _) (Rd.nil_ _ _ _ _) true (decide_eq_true rfl))
        clear b7
        go_wp2_with fail
        refine HS.out.mono ?_
        rintro e w8 ⟨rfl, b8⟩
        go_wp2_with fail
        go_ret
        exact ⟨rfl, HB7.out.trans (b8.mono HB7.out.size)⟩
end Go.Proofs.Ytegjfobanjkimaa
