/- The walk of the statement DigestVerifyMatchesSpec: it returns true. Conditions: what the argument is, the tables of SHA-256. -/
import Derived.Test.YtfnbcchmembomaaDoorDSan
import Derived.Test.YtfnbcchmembomaaDoorDArgs2
import Derived.Test.YtfnbcchmembomaaDoorVPre
import Derived.Test.YtfnbcchmembomaaDoorPairV
import Derived.Test.YtfnbcchmembomaaDoorRefVerify
namespace Go.Proofs.YtfnbcchmembomaaDoor
set_option linter.unusedVariables false
set_option linter.unusedSimpArgs false
open Go.RowKit
def vcs (old root : List UInt8) (N I : Int) (v : Value) : List Value := bvs old ++ (bvs root ++ ([.int .i64 N] ++ ([.int .i64 I] ++ [v])))
theorem ver_rows {w : World} {b t : Nat} {old root : List UInt8} {N I : Int} {v : Value} (h : IsRow w b t (vcs old root N I v)) (ho : old.length = 16) (hr : root.length = 16) :
    w.rangeAt b 0 (bvs old) ∧ w.rangeAt b 16 (bvs root) ∧ w.cell? ⟨b, 32, none⟩ = some (.int .i64 N) ∧ w.cell? ⟨b, 33, none⟩ = some (.int .i64 I) ∧ w.cell? ⟨b, 34, none⟩ = some v := by
  have hbx : (bvs old).length = 16 := by rw [bvs_len, ho]
  have hby : (bvs root).length = 16 := by rw [bvs_len, hr]
  have hc : ∀ k, w.cell? ⟨b, k, none⟩ = (vcs old root N I v)[k]? := fun k => h.cell k
  unfold vcs at hc
  refine ⟨fun j u hu => ?_, fun j u hu => ?_, ?_, ?_, ?_⟩
  · have hj : j < (bvs old).length := (List.getElem?_eq_some_iff.1 hu).1
    rw [hc, Nat.zero_add, List.getElem?_append_left hj]; exact hu
  · have hj : j < (bvs root).length := (List.getElem?_eq_some_iff.1 hu).1
    rw [hc, List.getElem?_append_right (by omega), hbx, show 16 + j - 16 = j from by omega, List.getElem?_append_left hj]; exact hu
  all_goals (rw [hc, List.getElem?_append_right (by omega), hbx, List.getElem?_append_right (by omega), hby]; rfl)
theorem vpre_any (N I : Int) (hN : N ≤ 9223372036854775807) (old r : List UInt8) (ho : old.length = 16) (hr : r.length = 16) (A : Option Addr) (pl c : Nat) (hpc : pl ≤ c) (hcm : c ≤ maxLen) (proof : List (List UInt8)) (hpl : proof.length = pl) (hp : D16 proof) (B : Nat) (w : World) (hrd : Rd w B 16 A pl (dvs proof)) (hB : B ≤ w.heap.size) (hT : Tabs w) :
    Calls Tryd.prog 28 #[dv old, dv r, .int .i64 I, .int .i64 N, .slice A pl c] w fun e w' => e = .returned (.bool (Mk.verifyP old r I N proof)) ∧ Below w.heap.size w w' := by
  unfold Mk.verifyP
  by_cases h : 1 ≤ I ∧ I ≤ N
  · rw [if_pos h]
    obtain ⟨n', rfl⟩ : ∃ n' : Nat, N = n' := ⟨N.toNat, by omega⟩
    obtain ⟨m', rfl⟩ : ∃ m' : Nat, I = m' := ⟨I.toNat, by omega⟩
    rw [Int.toNat_natCast, Int.toNat_natCast]
    exact vpre_in n' m' (by omega) (by omega) (by omega) old r ho hr A pl c hpc hcm proof hpl hp B w hrd hB hT
  · rw [if_neg h]
    exact vpre_out N I (by omega) old r _ w
theorem refVPre_any (N I : Int) (hN : N ≤ 9223372036854775807) (old r : List UInt8) (ho : old.length = 16) (hr : r.length = 16) (A : Option Addr) (pl c : Nat) (hpc : pl ≤ c) (hcm : c ≤ 9223372036854775807) (hp40 : pl ≤ 1099511627776) (proof : List (List UInt8)) (hpl : proof.length = pl) (hp : D16 proof) (B : Nat) (w : World) (hrd : Rd w B 16 A pl (dvs proof)) (hB : B ≤ w.heap.size) (hT : RTab w) :
    Calls Tryd.prog 29 #[dv old, dv r, .int .i64 I, .int .i64 N, .slice A pl c] w fun e w' => e = .returned (.bool (Mk.verifyP old r I N proof)) ∧ Below w.heap.size w w' := by
  unfold Mk.verifyP
  by_cases h : 1 ≤ I ∧ I ≤ N
  · rw [if_pos h]
    obtain ⟨n', rfl⟩ : ∃ n' : Nat, N = n' := ⟨N.toNat, by omega⟩
    obtain ⟨m', rfl⟩ : ∃ m' : Nat, I = m' := ⟨I.toNat, by omega⟩
    rw [Int.toNat_natCast, Int.toNat_natCast]
    exact refVPre_in n' m' (by omega) (by omega) (by omega) old r ho hr A pl c hpc hcm hp40 proof hpl hp B w hrd hB hT
  · rw [if_neg h]
    exact refVPre_out N I (by omega) old r _ w
set_option maxRecDepth 100000 in
set_option maxHeartbeats 2000000 in
theorem lawVer_walk (old root : List UInt8) (ho : old.length = 16) (hr : root.length = 16) (N I : Int) (hN1 : -9223372036854775808 ≤ N ∧ -9223372036854775808 ≤ I) (hN2 : N ≤ 9223372036854775807) (A : Option Addr) (m c : Nat) (hmc : m ≤ c) (hcm : c ≤ 140737488355328) (pr : List (List UInt8)) (hpl : pr.length = m) (hp : D16 pr) (w : World) (hrd : Rd w w.heap.size 16 A m (dvs pr)) (hT : Tabs w) (hRT : RTab w) :
    Calls Tryd.prog 7 #[.agg (vcs old root N I (.slice A m c)).toArray] w fun e w' => e = .returned (.bool true) ∧ Below w.heap.size w w' := by
  have R0 := IsRow.new w 55 (vcs old root N I (.slice A m c))
  have hb0 : Below w.heap.size w (w.alloc (.cells (vcs old root N I (.slice A m c)).toArray 55)) := (Below.refl _ w).alloc (Nat.le_refl _) _
  generalize (vcs old root N I (.slice A m c)).toArray = va at *
  obtain ⟨w0, hw0⟩ : ∃ w0, w.alloc (.cells va 55) = w0 := ⟨_, rfl⟩
  rw [hw0] at R0 hb0
  have HW0 := Lib.hid hw0
  have hT0 := hT.below hb0
  have HO := Lib.hid ho
  have HR := Lib.hid hr
  clear hw0 ho hr
  by_cases hbig : 70 < m
  · have hb' : (70 : Int) < m := by omega
    go_enter Tryd.func7, Tryd.ntmps7
    go_wp2_with (first
      | (go_at_call 10; rw [HW0.out]; refine (sanity_any _ hT0).mono ?_; rintro e w1 ⟨rfl, b1⟩; have q1 := hb0.trans (b1.mono hb0.size); have R1 := R0.below' b1; obtain ⟨ro1, rr1, cN1, cI1, cP1⟩ := ver_rows R1 HO.out HR.out)
      | fail)
    go_ret
    exact ⟨rfl, q1⟩
  have hb' : ¬ (70 : Int) < m := by omega
  have HV1 := Lib.hid (fun (W : World) (h : Below w.heap.size w W) => verify_any N I hN2 root old HR.out HO.out A m c pr hpl hp w.heap.size W (hrd.below h) h.size (hT.below h))
  have HV2 := Lib.hid (fun (W : World) (h : Below w.heap.size w W) => refVerify_any N I hN2 root old HR.out HO.out A m c hmc (by omega) (by omega) pr hpl hp w.heap.size W (hrd.below h) h.size (hRT.below h))
  have HP1 := Lib.hid (fun (W : World) (h : Below w.heap.size w W) => vpre_any N I hN2 old root HO.out HR.out A m c hmc (by unfold maxLen; omega) pr hpl hp w.heap.size W (hrd.below h) h.size (hT.below h))
  have HP2 := Lib.hid (fun (W : World) (h : Below w.heap.size w W) => refVPre_any N I hN2 old root HO.out HR.out A m c hmc (by omega) (by omega) pr hpl hp w.heap.size W (hrd.below h) h.size (hRT.below h))
  generalize Mk.verify root N I old pr = x1 at *
  generalize Mk.verifyP old root I N pr = x2 at *
  clear hrd hpl hp hT hRT hN1 hN2
  go_enter Tryd.func7, Tryd.ntmps7
  go_wp2_with (first
    | (go_at_call 10; rw [HW0.out]; refine (sanity_any _ hT0).mono ?_; rintro e w1 ⟨rfl, b1⟩; have q1 := hb0.trans (b1.mono hb0.size); have R1 := R0.below' b1; obtain ⟨ro1, rr1, cN1, cI1, cP1⟩ := ver_rows R1 HO.out HR.out)
    | (refine wpList_load_mid rfl _ (.tmp 14) rfl w.heap.size 16 rfl (bvs root) _ rr1 Tryd.underlying30 rfl (by rw [bvs_len, HR.out]; exact size16) ?_)
    | (refine wpList_load_mid rfl _ (.tmp 20) rfl w.heap.size 0 rfl (bvs old) _ ro1 Tryd.underlying30 rfl (by rw [bvs_len, HO.out]; exact size16) ?_)
    | (go_at_call 26; refine (HV1.out _ q1).mono ?_; rintro e w2 ⟨rfl, b2⟩; have q2 := q1.trans (b2.mono q1.size); have R2 := R1.below' b2; obtain ⟨ro2, rr2, cN2, cI2, cP2⟩ := ver_rows R2 HO.out HR.out)
    | (refine wpList_load_mid rfl _ (.tmp 25) rfl w.heap.size 16 rfl (bvs root) _ rr2 Tryd.underlying30 rfl (by rw [bvs_len, HR.out]; exact size16) ?_)
    | (refine wpList_load_mid rfl _ (.tmp 31) rfl w.heap.size 0 rfl (bvs old) _ ro2 Tryd.underlying30 rfl (by rw [bvs_len, HO.out]; exact size16) ?_)
    | (go_at_call 27; refine (HV2.out _ q2).mono ?_; rintro e w3 ⟨rfl, b3⟩; have q3 := q2.trans (b3.mono q2.size); have R3 := R2.below' b3; obtain ⟨ro3, rr3, cN3, cI3, cP3⟩ := ver_rows R3 HO.out HR.out)
    | (refine wpList_load_mid rfl _ (.tmp 38) rfl w.heap.size 16 rfl (bvs root) _ rr3 Tryd.underlying30 rfl (by rw [bvs_len, HR.out]; exact size16) ?_)
    | (refine wpList_load_mid rfl _ (.tmp 36) rfl w.heap.size 0 rfl (bvs old) _ ro3 Tryd.underlying30 rfl (by rw [bvs_len, HO.out]; exact size16) ?_)
    | (go_at_call 28; refine (HP1.out _ q3).mono ?_; rintro e w4 ⟨rfl, b4⟩; have q4 := q3.trans (b4.mono q3.size); have R4 := R3.below' b4; obtain ⟨ro4, rr4, cN4, cI4, cP4⟩ := ver_rows R4 HO.out HR.out)
    | (refine wpList_load_mid rfl _ (.tmp 49) rfl w.heap.size 16 rfl (bvs root) _ rr4 Tryd.underlying30 rfl (by rw [bvs_len, HR.out]; exact size16) ?_)
    | (refine wpList_load_mid rfl _ (.tmp 47) rfl w.heap.size 0 rfl (bvs old) _ ro4 Tryd.underlying30 rfl (by rw [bvs_len, HO.out]; exact size16) ?_)
    | (go_at_call 29; refine (HP2.out _ q4).mono ?_; rintro e w5 ⟨rfl, b5⟩; have q5 := q4.trans (b5.mono q4.size); have R5 := R4.below' b5; obtain ⟨ro5, rr5, cN5, cI5, cP5⟩ := ver_rows R5 HO.out HR.out)
    | fail)
  cases x1 <;> cases x2 <;> · go_ret
                              exact ⟨rfl, q5⟩
theorem lawVer (y : VerArg) (w : World) (h : y.Ok w) (hT : Tabs w) (hRT : RTab w) :
    Calls Tryd.prog 7 #[.agg y.cells.toArray] w fun e w' => e = .returned (.bool true) ∧ Below w.heap.size w w' := by
  obtain ⟨h1, h2, h3, h4, h5, h6, h7, h8, h9⟩ := h
  exact lawVer_walk y.old y.root h1 h2 y.n y.i ⟨h3.1, h4.1⟩ h3.2 y.A y.m y.c h5 h6 y.pr h7 h8 w h9 hT hRT
end Go.Proofs.YtfnbcchmembomaaDoor
