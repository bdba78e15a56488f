/- The law SchedMatchesSpec: it returns true. Conditions: none beyond what each argument's type says. -/
import Derived.Test.YtfihdenapjmaeaaSch25
import Derived.Test.YtfihdenapjmaeaaSch17
import Derived.Test.YtfihdenapjmaeaaSLawKit
namespace Go.Proofs.Ytfihdenapjmaeaa
set_option linter.unusedVariables false
set_option linter.unusedSimpArgs false
open Go.RowKit
theorem nil_same2 (W : World) : Calls Try.prog 20 #[.slice none 0 0, .slice none 0 0] W fun e w' => e = .returned (.bool true) ∧ Below W.heap.size W w' :=
  same37_b none none 0 0 0 0 [] [] W rfl rfl (by unfold maxLen; omega) 0 0 (Rd.nil_ _ _ _ _) (Rd.nil_ _ _ _ _) true (decide_eq_true rfl)
set_option maxRecDepth 100000 in
set_option maxHeartbeats 4000000 in
theorem lawNextS (A0 : Option Addr) (n0 c0 : Nat) (cr : List Int) (hl0 : cr.length = n0) (nc0 : n0 ≤ c0) (cc0 : c0 ≤ 140737488355328) (xr0 : ∀ x ∈ cr, -9223372036854775808 ≤ x ∧ x ≤ 9223372036854775807)
    (A : Option Addr) (n c : Nat) (L : List Sc.Tk) (hL : L.length = n) (nc : n ≤ c) (cc : c ≤ 140737488355328) (xr1 : ∀ t ∈ L, TkOk t) (x : Int) (l2 : -9223372036854775808 ≤ x) (u2 : x ≤ 9223372036854775807) (w : World) (rd0 : Rd w w.heap.size 1 A0 n0 (ivs cr)) (rd1 : Rd w w.heap.size 5 A n (L.flatMap tcs)) :
    Calls Try.prog 3 #[.slice A0 n0 c0, .slice A n c, .int .i64 x] w fun e w' => e = .returned (.bool true) ∧ Below w.heap.size w w' := by
  clear xr0 xr1
  by_cases h60 : n ≤ 60
  case neg =>
    have h61 : (60 : Int) < (n : Int) := by omega
    clear rd0 rd1 hl0 hL
    go_enter Try.func3, Try.ntmps3
    go_wp2_with (go_at_call 10; refine (sanity_any _).mono ?_; rintro e w1 ⟨rfl, b1⟩)
    go_ret
    exact ⟨rfl, b1⟩
  case pos =>
  have h61 : (n : Int) ≤ 60 := by omega
  have HOWN := Lib.hid (fun (W : World) (hW : Below w.heap.size w W) => own_any A n c L hL (by omega) w.heap.size W (rd1.below hW) hW.size)
  have HV1 := Lib.hid (fun (W : World) (hW : Below w.heap.size w W) => valid_any A0 n0 c0 cr hl0 w.heap.size W (rd0.below hW) hW.size)
  have HV2 := Lib.hid (fun (W : World) (hW : Below w.heap.size w W) => refValid_any A0 n0 c0 cr hl0 w.heap.size W (rd0.below hW))
  have HU1 := Lib.hid (fun (W : World) (A' : Option Addr) (c' base : Nat) (h : W.ownsRow base 58 5 (.slice A' n c') n (L.flatMap tcs)) => Urgent_any A' n c' L hL (by omega) W.heap.size W (Rd.of_own h) (Nat.le_refl _))
  have HU2 := Lib.hid (fun (W : World) (hW : Below w.heap.size w W) => refUrgent_any A n c L hL (by omega) w.heap.size W (rd1.below hW) hW.size)
  cases hv : vldB cr with
  | false =>
    rw [hv] at HV1 HV2
    have HNX := Lib.hid (fun (W : World) (t : Value) (hW : Below w.heap.size w W) => Next_bad A0 n0 c0 cr hl0 w.heap.size t W (rd0.below hW) hW.size hv)
    have HREF := Lib.hid (fun (W : World) (t : Value) (hW : Below w.heap.size w W) => refNext_bad A0 n0 c0 cr hl0 w.heap.size t W (rd0.below hW) hv)
    clear rd0 rd1 hl0 hL hv
    go_enter Try.func3, Try.ntmps3
    go_wp2_with fail
    refine (HOWN.out _ (Below.refl _ _)).mono ?_
    rintro e w1 ⟨A1, c1, rfl, own1, b1⟩
    go_wp2_with fail
    refine (HNX.out w1 _ b1).mono ?_
    rintro e w2 ⟨rfl, b2⟩
    have hb2 := b1.trans (b2.mono b1.size)
    go_wp2_with fail
    obtain ⟨w3, hw3⟩ : ∃ x, w2.alloc (.cells #[.slice none 0 0] 26) = x := ⟨_, rfl⟩
    rw [hw3]
    obtain ⟨q3, z3, b3, _⟩ := new_st hw3
    clear hw3 own1
    have hb3 := hb2.trans (b3.mono hb2.size)
    refine (HREF.out w3 _ hb3).mono ?_
    rintro e w4 ⟨rfl, b4⟩
    have hb4 := hb3.trans (b4.mono hb3.size)
    have q4 := bcell q3 b4 z3
    have z4 : w2.heap.size < w4.heap.size := Nat.lt_of_lt_of_le z3 b4.size
    go_wp2_with fail
    refine (sanity_any _).mono ?_
    rintro e w5 ⟨rfl, b5⟩
    have hb5 := hb4.trans (b5.mono hb4.size)
    have q5 := bcell q4 b5 z4
    have z5 : w2.heap.size < w5.heap.size := Nat.lt_of_lt_of_le z4 b5.size
    have HB5 := Lib.hid hb5
    have HS : Hid (∀ W : World, Below w5.heap.size w5 W → _) := Lib.hid (fun W _ => nil_same2 W)
    clear q3 q4 z3 z4 b1 b2 b3 b4 b5 hb2 hb3 hb4 hb5
    have hV1 := fun (W : World) (hW : Below w.heap.size w W) => HV1.out W hW
    go_wp2_with fail
    refine (HV1.out _ HB5.out).mono ?_
    rintro e w6 ⟨rfl, b6⟩
    have hb6 := HB5.out.trans (b6.mono HB5.out.size)
    have q6 := bcell q5 b6 z5
    go_wp2_with fail
    refine (HV2.out _ hb6).mono ?_
    rintro e w7 ⟨rfl, hw7⟩
    rw [hw7]
    clear hw7 w7
    go_wp2_with fail
    refine (weight_any x _).mono ?_
    rintro e w8 ⟨rfl, b8⟩
    have hb8 := hb6.trans (b8.mono hb6.size)
    have z6 : w2.heap.size < w6.heap.size := Nat.lt_of_lt_of_le z5 b6.size
    have q8 := bcell q6 b8 z6
    have z8 : w2.heap.size < w8.heap.size := Nat.lt_of_lt_of_le z6 b8.size
    go_wp2_with fail
    refine (refWeight_any x _).mono ?_
    rintro e w9 ⟨rfl, hw9⟩
    rw [hw9]
    clear hw9 w9
    generalize Sc.wt x = wx at *
    go_wp2_with fail
    refine (HOWN.out _ hb8).mono ?_
    rintro e w10 ⟨A10, c10, rfl, own10, b10⟩
    have hb10 := hb8.trans (b10.mono hb8.size)
    have q10 := bcell q8 b10 z8
    have z10 : w2.heap.size < w10.heap.size := Nat.lt_of_lt_of_le z8 b10.size
    go_wp2_with fail
    refine (HU1.out w10 A10 c10 _ own10).mono ?_
    rintro e w11 ⟨rfl, b11⟩
    have hb11 := hb10.trans (b11.mono hb10.size)
    have q11 := bcell q10 b11 z10
    have z11 : w2.heap.size < w11.heap.size := Nat.lt_of_lt_of_le z10 b11.size
    go_wp2_with fail
    refine (HU2.out w11 hb11).mono ?_
    rintro e w12 ⟨rfl, b12⟩
    have hb12 := hb11.trans (b12.mono hb11.size)
    have q12 := bcell q11 b12 z11
    generalize Sc.best L (List.range n) 1 Sc.urg = ux at *
    have b512 := b6.trans ((b8.trans ((b10.trans ((b11.trans (b12.mono b11.size)).mono b10.size)).mono b8.size)).mono b6.size)
    have HB12 := Lib.hid hb12
    have HS12 := Lib.hid (HS.out w12 b512)
    clear q5 q6 q8 q10 q11 z5 z6 z8 z10 z11 b6 b8 b10 b11 b12 hb6 hb8 hb10 hb11 hb12 b512 own10
    go_wp2_with fail
    refine HS12.out.mono ?_
    rintro e w13 ⟨rfl, b13⟩
    go_wp2_with fail
    go_ret
    exact ⟨rfl, HB12.out.trans (b13.mono HB12.out.size)⟩
  | true =>
    rw [hv] at HV1 HV2
    have h5 : n0 = 5 := by rw [← hl0]; exact ((vldB_iff cr).1 hv).1
    subst h5
    have HNX := Lib.hid (fun (W : World) (hW : Below w.heap.size w W) (A' : Option Addr) (c' base : Nat) (h : W.ownsRow base 58 5 (.slice A' n c') n (L.flatMap tcs)) => Next_ok A0 c0 cr hl0 w.heap.size A' n c' L hL (by omega) W.heap.size W (Rd.of_own h) (Nat.le_refl _) (rd0.below hW) hW.size hv)
    have HREF := Lib.hid (fun (W : World) (hW : Below w.heap.size w W) => refNext_ok A0 c0 cr hl0 w.heap.size A n c L hL (by omega) w.heap.size W (rd1.below hW) hW.size (rd0.below hW) hW.size hv)
    clear rd0 rd1 hl0 hL hv
    go_enter Try.func3, Try.ntmps3
    go_wp2_with fail
    refine (HOWN.out _ (Below.refl _ _)).mono ?_
    rintro e w1 ⟨A1, c1, rfl, own1, b1⟩
    go_wp2_with fail
    refine (HNX.out w1 b1 A1 c1 _ own1).mono ?_
    rintro e w2 ⟨g2, c2, rfl, C2, _, b2⟩
    have hb2 := b1.trans (b2.mono b1.size)
    clear own1
    go_wp2_with fail
    obtain ⟨w3, hw3⟩ : ∃ x, w2.alloc (.cells #[.slice (some ⟨g2, 0, none⟩) 5 c2] 26) = x := ⟨_, rfl⟩
    rw [hw3]
    obtain ⟨q3, z3, b3, _⟩ := new_st hw3
    clear hw3
    have hb3 := hb2.trans (b3.mono hb2.size)
    refine (HREF.out w3 hb3).mono ?_
    rintro e w4 ⟨g4, c4, rfl, C4, _, b4⟩
    have hb4 := hb3.trans (b4.mono hb3.size)
    have q4 := bcell q3 b4 z3
    have z4 : w2.heap.size < w4.heap.size := Nat.lt_of_lt_of_le z3 b4.size
    generalize (Sc.next cr L (List.range n)).1 = k1 at *
    generalize (Sc.next cr L (List.range n)).2 = k2 at *
    go_wp2_with fail
    refine (sanity_any _).mono ?_
    rintro e w5 ⟨rfl, b5⟩
    have hb5 := hb4.trans (b5.mono hb4.size)
    have q5 := bcell q4 b5 z4
    have z5 : w2.heap.size < w5.heap.size := Nat.lt_of_lt_of_le z4 b5.size
    have l5 := C2.len
    have b24 := b3.trans (b4.mono b3.size)
    have r1 := ((C2.below (b24.trans (b5.mono b24.size))).rd)
    have r2 := ((C4.below b5).rd)
    have HB5 := Lib.hid hb5
    have HS := Lib.hid (fun (W : World) (hW : Below w5.heap.size w5 W) => same37_b (some ⟨g2, 0, none⟩) (some ⟨g4, 0, none⟩) c2 c4 5 5 k1 k1 W l5 l5 (by unfold maxLen; omega) w5.heap.size w5.heap.size (r1.below hW) (r2.below hW) true (decide_eq_true rfl))
    clear q3 q4 z3 z4 b1 b2 b3 b4 b5 hb2 hb3 hb4 hb5 C2 C4 b24 r1 r2
    have hV1 := fun (W : World) (hW : Below w.heap.size w W) => HV1.out W hW
    go_wp2_with fail
    refine (HV1.out _ HB5.out).mono ?_
    rintro e w6 ⟨rfl, b6⟩
    have hb6 := HB5.out.trans (b6.mono HB5.out.size)
    have q6 := bcell q5 b6 z5
    go_wp2_with fail
    refine (HV2.out _ hb6).mono ?_
    rintro e w7 ⟨rfl, hw7⟩
    rw [hw7]
    clear hw7 w7
    go_wp2_with fail
    refine (weight_any x _).mono ?_
    rintro e w8 ⟨rfl, b8⟩
    have hb8 := hb6.trans (b8.mono hb6.size)
    have z6 : w2.heap.size < w6.heap.size := Nat.lt_of_lt_of_le z5 b6.size
    have q8 := bcell q6 b8 z6
    have z8 : w2.heap.size < w8.heap.size := Nat.lt_of_lt_of_le z6 b8.size
    go_wp2_with fail
    refine (refWeight_any x _).mono ?_
    rintro e w9 ⟨rfl, hw9⟩
    rw [hw9]
    clear hw9 w9
    generalize Sc.wt x = wx at *
    go_wp2_with fail
    refine (HOWN.out _ hb8).mono ?_
    rintro e w10 ⟨A10, c10, rfl, own10, b10⟩
    have hb10 := hb8.trans (b10.mono hb8.size)
    have q10 := bcell q8 b10 z8
    have z10 : w2.heap.size < w10.heap.size := Nat.lt_of_lt_of_le z8 b10.size
    go_wp2_with fail
    refine (HU1.out w10 A10 c10 _ own10).mono ?_
    rintro e w11 ⟨rfl, b11⟩
    have hb11 := hb10.trans (b11.mono hb10.size)
    have q11 := bcell q10 b11 z10
    have z11 : w2.heap.size < w11.heap.size := Nat.lt_of_lt_of_le z10 b11.size
    go_wp2_with fail
    refine (HU2.out w11 hb11).mono ?_
    rintro e w12 ⟨rfl, b12⟩
    have hb12 := hb11.trans (b12.mono hb11.size)
    have q12 := bcell q11 b12 z11
    generalize Sc.best L (List.range n) 1 Sc.urg = ux at *
    have b512 := b6.trans ((b8.trans ((b10.trans ((b11.trans (b12.mono b11.size)).mono b10.size)).mono b8.size)).mono b6.size)
    have HB12 := Lib.hid hb12
    have HS12 := Lib.hid (HS.out w12 b512)
    clear q5 q6 q8 q10 q11 z5 z6 z8 z10 z11 b6 b8 b10 b11 b12 hb6 hb8 hb10 hb11 hb12 b512 own10
    go_wp2_with fail
    refine HS12.out.mono ?_
    rintro e w13 ⟨rfl, b13⟩
    go_wp2_with fail
    go_ret
    exact ⟨rfl, HB12.out.trans (b13.mono HB12.out.size)⟩
end Go.Proofs.Ytfihdenapjmaeaa
