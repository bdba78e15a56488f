/- The law SchedRunMatchesSpec: it returns true. Conditions: none beyond what each argument's type says. -/
import Derived.Test.YtfihdenapjmaeaaSch25
import Derived.Test.YtfihdenapjmaeaaSch17
import Derived.Test.YtfihdenapjmaeaaSLawKit
namespace Go.Proofs.Ytfihdenapjmaeaa
set_option linter.unusedVariables false
set_option linter.unusedSimpArgs false
open Go.RowKit
namespace Sc
theorem run_len2 (L : List Tk) (b : Nat) : ∀ cr ks, (run L b cr ks).2.length ≤ ks.length := by
  induction b with
  | zero => intro cr ks; simp [run]
  | succ b ih =>
    intro cr ks
    unfold run
    split
    · simp
    · rename_i h
      obtain ⟨k, hk, e, _⟩ := next_pos h
      rw [e, Int.toNat_natCast]
      have h1 := ih (next cr L ks).1 (ks.filter (· ≠ k))
      have h2 := filter_len hk
      simp only [List.length_cons]; omega
end Sc
theorem vld_len {cr : List Int} (h : vldB cr = true) : cr.length = 5 := ((vldB_iff cr).1 h).1
theorem nil_same (W : World) : Calls Try.prog 20 #[.slice none 0 0, .slice none 0 0] W fun e w' => e = .returned (.bool true) ∧ Below W.heap.size W w' :=
  same37_b none none 0 0 0 0 [] [] W rfl rfl (by unfold maxLen; omega) 0 0 (Rd.nil_ _ _ _ _) (Rd.nil_ _ _ _ _) true (decide_eq_true rfl)
set_option maxRecDepth 100000 in
set_option maxHeartbeats 4000000 in
theorem lawRunS (A0 : Option Addr) (n0 c0 : Nat) (cr : List Int) (hl0 : cr.length = n0) (nc0 : n0 ≤ c0) (cc0 : c0 ≤ 140737488355328) (xr0 : ∀ x ∈ cr, -9223372036854775808 ≤ x ∧ x ≤ 9223372036854775807)
    (A : Option Addr) (n c : Nat) (L : List Sc.Tk) (hL : L.length = n) (nc : n ≤ c) (cc : c ≤ 140737488355328) (xr1 : ∀ t ∈ L, TkOk t) (b : Int) (l2 : -9223372036854775808 ≤ b) (u2 : b ≤ 9223372036854775807) (w : World) (rd0 : Rd w w.heap.size 1 A0 n0 (ivs cr)) (rd1 : Rd w w.heap.size 5 A n (L.flatMap tcs)) :
    Calls Try.prog 4 #[.slice A0 n0 c0, .slice A n c, .int .i64 b] w fun e w' => e = .returned (.bool true) ∧ Below w.heap.size w w' := by
  clear xr0 xr1
  by_cases h60 : n ≤ 60
  case neg =>
    have h61 : (60 : Int) < (n : Int) := by omega
    clear rd0 rd1 hl0 hL
    go_enter Try.func4, Try.ntmps4
    go_wp2_with (go_at_call 10; refine (sanity_any _).mono ?_; rintro e w1 ⟨rfl, b1⟩)
    go_ret
    exact ⟨rfl, b1⟩
  case pos =>
  have h61 : (n : Int) ≤ 60 := by omega
  have HOWN := Lib.hid (fun (W : World) (hW : Below w.heap.size w W) => own_any A n c L hL (by omega) w.heap.size W (rd1.below hW) hW.size)
  by_cases hok : vldB cr = false ∨ b < 0
  case pos =>
    have HRUN := Lib.hid (fun (W : World) (t : Value) (hW : Below w.heap.size w W) => Run_bad A0 n0 c0 cr hl0 w.heap.size t b W (rd0.below hW) hW.size hok)
    have HREF := Lib.hid (fun (W : World) (t : Value) (hW : Below w.heap.size w W) => refRun_bad A0 n0 c0 cr hl0 w.heap.size t b W (rd0.below hW) hok)
    clear rd0 rd1 hl0 hL hok
    go_enter Try.func4, Try.ntmps4
    go_wp2_with fail
    refine (HOWN.out _ (Below.refl _ _)).mono ?_
    rintro e w1 ⟨A1, c1, rfl, own1, b1⟩
    go_wp2_with fail
    refine (HRUN.out w1 _ b1).mono ?_
    rintro e w2 ⟨rfl, b2⟩
    have hb2 := b1.trans (b2.mono b1.size)
    go_wp2_with fail
    obtain ⟨w3, hw3⟩ : ∃ x, w2.alloc (.cells #[.slice none 0 0] 26) = x := ⟨_, rfl⟩
    rw [hw3]
    obtain ⟨q3, z3, b3, _⟩ := new_st hw3
    clear hw3 own1
    have hb3 := hb2.trans (b3.mono hb2.size)
    refine (HREF.out w3 _ hb3).mono ?_
    rintro e w4 ⟨rfl, b4⟩
    have hb4 := hb3.trans (b4.mono hb3.size)
    have q4 := bcell q3 b4 z3
    have z4 : w2.heap.size < w4.heap.size := Nat.lt_of_lt_of_le z3 b4.size
    go_wp2_with fail
    refine (sanity_any _).mono ?_
    rintro e w5 ⟨rfl, b5⟩
    have hb5 := hb4.trans (b5.mono hb4.size)
    have q5 := bcell q4 b5 z4
    have HB5 := Lib.hid hb5
    clear q3 q4 z3 z4 b1 b2 b3 b4 b5 hb2 hb3 hb4 hb5
    go_wp2_with fail
    refine (nil_same _).mono ?_
    rintro e w6 ⟨rfl, b6⟩
    go_wp2_with fail
    refine (nil_same _).mono ?_
    rintro e w7 ⟨rfl, b7⟩
    go_wp2_with fail
    go_ret
    exact ⟨rfl, HB5.out.trans ((b6.trans (b7.mono b6.size)).mono HB5.out.size)⟩
  case neg =>
  have hv : vldB cr = true := by cases h : vldB cr with
    | true => rfl
    | false => exact absurd (Or.inl h) hok
  obtain ⟨bn, rfl⟩ : ∃ bn : Nat, b = bn := ⟨b.toNat, by have : ¬ b < 0 := fun h => hok (Or.inr h); omega⟩
  have h5 : n0 = 5 := by rw [← hl0]; exact vld_len hv
  subst h5
  have HRUN := Lib.hid (fun (W : World) (hW : Below w.heap.size w W) (A' : Option Addr) (c' base : Nat) (h : W.ownsRow base 58 5 (.slice A' n c') n (L.flatMap tcs)) => Run_ok A0 c0 cr hl0 w.heap.size bn u2 A' n c' L hL (by omega) W.heap.size W (Rd.of_own h) (Nat.le_refl _) (rd0.below hW) hW.size hv)
  have HREF := Lib.hid (fun (W : World) (hW : Below w.heap.size w W) => refRun_ok A0 c0 cr hl0 w.heap.size bn u2 A n c L hL (by omega) w.heap.size W (rd1.below hW) hW.size (rd0.below hW) hW.size hv)
  have HLEN := Lib.hid (Nat.le_trans (Sc.run_len2 L bn cr (List.range n)) (by simpa using h60))
  clear rd0 rd1 hl0 hL hv hok l2 u2
  go_enter Try.func4, Try.ntmps4
  go_wp2_with fail
  refine (HOWN.out _ (Below.refl _ _)).mono ?_
  rintro e w1 ⟨A1, c1, rfl, own1, b1⟩
  go_wp2_with fail
  refine (HRUN.out w1 b1 A1 c1 _ own1).mono ?_
  rintro e w2 ⟨g2, c2, P2, np2, cp2, rfl, C2, _, hn2, rP2, _, b2⟩
  have hb2 := b1.trans (b2.mono b1.size)
  clear own1
  go_wp2_with fail
  obtain ⟨w3, hw3⟩ : ∃ x, w2.alloc (.cells #[.slice (some ⟨g2, 0, none⟩) 5 c2] 26) = x := ⟨_, rfl⟩
  rw [hw3]
  obtain ⟨q3, z3, b3, _⟩ := new_st hw3
  clear hw3
  have hb3 := hb2.trans (b3.mono hb2.size)
  refine (HREF.out w3 hb3).mono ?_
  rintro e w4 ⟨g4, c4, P4, np4, cp4, rfl, C4, _, hn4, rP4, _, b4⟩
  have hb4 := hb3.trans (b4.mono hb3.size)
  have q4 := bcell q3 b4 z3
  have z4 : w2.heap.size < w4.heap.size := Nat.lt_of_lt_of_le z3 b4.size
  obtain rfl : np2 = np4 := by rw [← hn2, ← hn4]
  have hnp : np2 ≤ 60 := by rw [← hn2]; exact HLEN.out
  generalize (Sc.run L bn cr (List.range n)).1 = k1 at *
  generalize (Sc.run L bn cr (List.range n)).2 = k2 at *
  go_wp2_with fail
  refine (sanity_any _).mono ?_
  rintro e w5 ⟨rfl, b5⟩
  have hb5 := hb4.trans (b5.mono hb4.size)
  have q5 := bcell q4 b5 z4
  have l5 := C2.len
  have b24 := b3.trans (b4.mono b3.size)
  have b25 := b24.trans (b5.mono b24.size)
  have r1 := ((C2.below b25).rd)
  have r2 := ((C4.below b5).rd)
  have s1 := rP2.below b25
  have s2 := rP4.below b5
  rw [nvs_ivs] at s1 s2
  have hS1 := fun (W : World) (hW : Below w5.heap.size w5 W) => same37_b (some ⟨g2, 0, none⟩) (some ⟨g4, 0, none⟩) c2 c4 5 5 k1 k1 W l5 l5 (by unfold maxLen; omega) w5.heap.size w5.heap.size (r1.below hW) (r2.below hW) true (decide_eq_true rfl)
  have hS2 := fun (W : World) (hW : Below w5.heap.size w5 W) => same37_b P2 P4 cp2 cp4 np2 np2 (k2.map fun k : Nat => (k : Int)) (k2.map fun k : Nat => (k : Int)) W (by simpa using hn2) (by simpa using hn2) (by unfold maxLen; omega) w2.heap.size w4.heap.size (s1.below (hW.mono b25.size)) (s2.below (hW.mono b5.size)) true (decide_eq_true rfl)
  have HS1 := Lib.hid hS1
  have HS2 := Lib.hid hS2
  have HB5 := Lib.hid hb5
  clear q3 q4 z3 z4 b1 b2 b3 b4 b5 hb2 hb3 hb4 hb5 C2 C4 hn2 hn4 rP2 rP4 b24 b25 r1 r2 s1 s2 hS1 hS2
  go_wp2_with fail
  refine (HS1.out _ (Below.refl _ _)).mono ?_
  rintro e w6 ⟨rfl, b6⟩
  go_wp2_with fail
  refine (HS2.out _ b6).mono ?_
  rintro e w7 ⟨rfl, b7⟩
  go_wp2_with fail
  go_ret
  exact ⟨rfl, HB5.out.trans ((b6.trans (b7.mono b6.size)).mono HB5.out.size)⟩
end Go.Proofs.Ytfihdenapjmaeaa
