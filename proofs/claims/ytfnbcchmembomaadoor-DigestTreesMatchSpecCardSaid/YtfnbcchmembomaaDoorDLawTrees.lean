/- The walk of the statement DigestTreesMatchSpec: it returns true. Conditions: what the arguments are, the tables of SHA-256. -/
import Derived.Test.YtfnbcchmembomaaDoorDSan
import Derived.Test.YtfnbcchmembomaaDoorRefTree2
namespace Go.Proofs.YtfnbcchmembomaaDoor
set_option linter.unusedVariables false
set_option linter.unusedSimpArgs false
open Go.RowKit
/-- a list of digests and an error -/
def TupRes (L : List (List UInt8)) (er : Int) (w : World) (e : Ending) (w' : World) : Prop := ∃ A' m c', e = .returned (.tuple #[.slice A' m c', .int .i64 er]) ∧ m = L.length ∧ Rd w' w'.heap.size 16 A' m (dvs L) ∧ Below w.heap.size w w'
theorem TupRes.nil {w w' : World} {e : Ending} (h : e = .returned (.tuple #[.slice none 0 0, .int .i64 12]) ∧ Below w.heap.size w w') : TupRes [] 12 w e w' := ⟨none, 0, 0, h.1, rfl, Rd.nil_ _ _ _ _, h.2⟩
namespace Mk
def proveZ (l : List (List UInt8)) (i : Int) : List (List UInt8) := if 0 ≤ i ∧ i < l.length then prove l i.toNat else []
def proveE (l : List (List UInt8)) (i : Int) : Int := if 0 ≤ i ∧ i < l.length then 0 else 12
def prefZ (l : List (List UInt8)) (m : Int) : List (List UInt8) := if 1 ≤ m ∧ m ≤ l.length then pref l m.toNat else []
def prefE (l : List (List UInt8)) (m : Int) : Int := if 1 ≤ m ∧ m ≤ l.length then 0 else 12
theorem prove_16 (l : List (List UInt8)) (i : Nat) : D16 (prove l i) := by unfold prove; intro d hd; rw [List.mem_reverse] at hd; exact sibs_16 _ _ d hd
theorem proveZ_16 (l : List (List UInt8)) (i : Int) : D16 (proveZ l i) := by
  unfold proveZ
  split
  · exact prove_16 _ _
  · intro d hd; cases hd
theorem prefZ_16 (l : List (List UInt8)) (i : Int) : D16 (prefZ l i) := by
  unfold prefZ
  split
  · exact pref_16 _ _
  · intro d hd; cases hd
end Mk
set_option maxRecDepth 100000 in
set_option maxHeartbeats 1000000 in
theorem provePrefix_err (A : Option Addr) (n c : Nat) (m : Int) (hi : m < 1 ∨ (n : Int) < m) (w : World) :
    Calls Tryd.prog 17 #[.slice A n c, .int .i64 m] w fun e w' => e = .returned (.tuple #[.slice none 0 0, .int .i64 12]) ∧ Below w.heap.size w w' := by
  by_cases h0 : m < 1
  · go_enter Tryd.func17, Tryd.ntmps17
    go_wp2
    exact bodyPost_ret (results_tmp2 rfl _ _ _) rfl ⟨rfl, Below.refl _ _⟩
  · have h1 : (n : Int) < m := by omega
    go_enter Tryd.func17, Tryd.ntmps17
    go_wp2
    exact bodyPost_ret (results_tmp2 rfl _ _ _) rfl ⟨rfl, Below.refl _ _⟩
set_option maxRecDepth 100000 in
set_option maxHeartbeats 1000000 in
theorem refPre_err (A : Option Addr) (n c : Nat) (m : Int) (hi : m < 1 ∨ (n : Int) < m) (w : World) :
    Calls Tryd.prog 18 #[.slice A n c, .int .i64 m] w fun e w' => e = .returned (.tuple #[.slice none 0 0, .int .i64 12]) ∧ Below w.heap.size w w' := by
  by_cases h0 : m < 1
  · go_enter Tryd.func18, Tryd.ntmps18
    go_wp2
    exact bodyPost_ret (results_tmp2 rfl _ _ _) rfl ⟨rfl, Below.refl _ _⟩
  · have h1 : (n : Int) < m := by omega
    go_enter Tryd.func18, Tryd.ntmps18
    go_wp2
    exact bodyPost_ret (results_tmp2 rfl _ _ _) rfl ⟨rfl, Below.refl _ _⟩
set_option maxRecDepth 100000 in
set_option maxHeartbeats 1000000 in
theorem refPre_ok (n c m : Nat) (A : Option Addr) (l : List (List UInt8)) (hl : l.length = n) (hn : n ≤ 1099511627776) (hm1 : 1 ≤ m) (hmn : m ≤ n) (B : Nat) (w : World) (hr : Rd w B 16 A n (dvs l)) (hd : D16 l) (hB : B ≤ w.heap.size) (hc : n ≤ c) (hcm : c ≤ maxLen) (hT : RTab w) :
    Calls Tryd.prog 18 #[.slice A n c, .int .i64 (m : Int)] w (TupRes (Mk.pref l m) 0 w) := by
  have hS := refSub_any n c m true A l hl hn hm1 hmn B w hr hd hB hc hcm hT
  have i0 : ¬ ((m : Int) < 1) := by omega
  have i1 : ¬ ((n : Int) < (m : Int)) := by omega
  clear hl hn hr hd hT
  go_enter Tryd.func18, Tryd.ntmps18
  go_wp2_with (go_at_call 44; refine hS.mono ?_; rintro e w1 ⟨v1, k1, rfl, hk1, own1, b1⟩; have HK := Lib.hid hk1; clear hk1; obtain ⟨A1, c1, rfl⟩ := own_slice own1)
  exact bodyPost_ret (results_tmp2 rfl _ _ _) rfl (show TupRes _ _ _ _ _ from ⟨A1, k1, c1, rfl, by rw [HK.out]; simp [Mk.pref], Rd.of_own own1, b1⟩)
section
variable (n c : Nat) (A : Option Addr) (l : List (List UInt8)) (hl : l.length = n) (hn : n ≤ 1099511627776) (hd : D16 l) (hc : n ≤ c) (hcm : c ≤ maxLen) (i : Int) (B : Nat) (w : World) (hr : Rd w B 16 A n (dvs l)) (hB : B ≤ w.heap.size)
include hl hn hd hc hcm hr hB
theorem prove_all (hT : Tabs w) : Calls Tryd.prog 15 #[.slice A n c, .int .i64 i] w (TupRes (Mk.proveZ l i) (Mk.proveE l i) w) := by
  unfold Mk.proveZ Mk.proveE
  by_cases hi : 0 ≤ i ∧ i < l.length
  · rw [if_pos hi, if_pos hi]
    obtain ⟨i', rfl⟩ : ∃ i' : Nat, i = i' := ⟨i.toNat, by omega⟩
    obtain ⟨b, off, rfl, _, _⟩ := hr.2 (by omega)
    refine (prove_ok n c b off i' l hl hn hd hc hcm (by omega) B w hT hr hB).mono ?_
    rintro e w' ⟨A', m, c', h1, h2, _, _, h5, h6⟩
    exact ⟨A', m, c', h1, h2, h5, h6⟩
  · rw [if_neg hi, if_neg hi]
    exact (prove_err A n c i (by omega) w).mono fun _ _ h => TupRes.nil h
theorem refProve_all (hT : RTab w) : Calls Tryd.prog 16 #[.slice A n c, .int .i64 i] w (TupRes (Mk.proveZ l i) (Mk.proveE l i) w) := by
  unfold Mk.proveZ Mk.proveE
  by_cases hi : 0 ≤ i ∧ i < l.length
  · rw [if_pos hi, if_pos hi]
    obtain ⟨i', rfl⟩ : ∃ i' : Nat, i = i' := ⟨i.toNat, by omega⟩
    rw [Int.toNat_natCast, Mk.prove_provL l i' (by omega)]
    refine (refProve_any n c i' A l hl hn (by omega) B w hr hd hB hc hcm hT).mono ?_
    rintro e w' ⟨v, k, h1, h2, h3, h4⟩
    obtain ⟨A', c', rfl⟩ := own_slice h3
    exact ⟨A', k, c', h1, h2, Rd.of_own h3, h4⟩
  · rw [if_neg hi, if_neg hi]
    exact (refProve_err A n c i (by omega) w).mono fun _ _ h => TupRes.nil h
theorem pre_all (hT : Tabs w) : Calls Tryd.prog 17 #[.slice A n c, .int .i64 i] w (TupRes (Mk.prefZ l i) (Mk.prefE l i) w) := by
  unfold Mk.prefZ Mk.prefE
  by_cases hi : 1 ≤ i ∧ i ≤ l.length
  · rw [if_pos hi, if_pos hi]
    obtain ⟨i', rfl⟩ : ∃ i' : Nat, i = i' := ⟨i.toNat, by omega⟩
    refine (provePrefix_ok n c i' A l hl hn hd hc hcm (by omega) (by omega) B w hT hr hB).mono ?_
    rintro e w' ⟨A', m, c', h1, h2, _, _, h5, h6⟩
    exact ⟨A', m, c', h1, h2, h5, h6⟩
  · rw [if_neg hi, if_neg hi]
    exact (provePrefix_err A n c i (by omega) w).mono fun _ _ h => TupRes.nil h
theorem refPre_all (hT : RTab w) : Calls Tryd.prog 18 #[.slice A n c, .int .i64 i] w (TupRes (Mk.prefZ l i) (Mk.prefE l i) w) := by
  unfold Mk.prefZ Mk.prefE
  by_cases hi : 1 ≤ i ∧ i ≤ l.length
  · rw [if_pos hi, if_pos hi]
    obtain ⟨i', rfl⟩ : ∃ i' : Nat, i = i' := ⟨i.toNat, by omega⟩
    exact refPre_ok n c i' A l hl hn (by omega) (by omega) B w hr hd hB hc hcm hT
  · rw [if_neg hi, if_neg hi]
    exact (refPre_err A n c i (by omega) w).mono fun _ _ h => TupRes.nil h
end
set_option maxRecDepth 100000 in
set_option maxHeartbeats 1000000 in
theorem lawTrees (A : Option Addr) (n c : Nat) (l : List (List UInt8)) (hl : l.length = n) (hnc : n ≤ c) (hc : c ≤ 140737488355328) (hd : D16 l) (i : Int) (hil : -9223372036854775808 ≤ i) (hiu : i ≤ 9223372036854775807) (w : World) (hr : Rd w w.heap.size 16 A n (dvs l)) (hT : Tabs w) (hR : RTab w) :
    Calls Tryd.prog 5 #[.slice A n c, .int .i64 i] w fun e w' => e = .returned (.bool true) ∧ Below w.heap.size w w' := by
  by_cases hbig : 64 < n
  · have hb' : (64 : Int) < n := by omega
    clear hl
    go_enter Tryd.func5, Tryd.ntmps5
    go_wp2_with (go_at_call 10; refine (sanity_any _ hT).mono ?_; rintro e w1 ⟨rfl, b1⟩)
    go_ret
    exact ⟨rfl, b1⟩
  have hb' : ¬ (64 : Int) < n := by omega
  have hcm : c ≤ maxLen := by unfold maxLen; omega
  have hP := fun (W : World) (h : Below w.heap.size w W) => prove_all n c A l hl (by omega) hd hnc hcm i w.heap.size W (hr.below h) h.size (hT.below h)
  have hRP := fun (W : World) (h : Below w.heap.size w W) => refProve_all n c A l hl (by omega) hd hnc hcm i w.heap.size W (hr.below h) h.size (hR.below h)
  have hQ := fun (W : World) (h : Below w.heap.size w W) => pre_all n c A l hl (by omega) hd hnc hcm i w.heap.size W (hr.below h) h.size (hT.below h)
  have hRQ := fun (W : World) (h : Below w.heap.size w W) => refPre_all n c A l hl (by omega) hd hnc hcm i w.heap.size W (hr.below h) h.size (hR.below h)
  have hO := fun (W : World) (h : Below w.heap.size w W) => root_any n c A l hl (by omega) w.heap.size W (hr.below h) hd h.size hnc hcm (hT.below h)
  have hRO := fun (W : World) (h : Below w.heap.size w W) => refRoot_any n c A l hl (by omega) w.heap.size W (hr.below h) hd h.size hnc hcm (hR.below h)
  have h16 := Mk.root_len l
  have hp16 := Mk.proveZ_16 l i
  have hq16 := Mk.prefZ_16 l i
  have hpl : (Mk.proveZ l i).length ≤ 1099511627776 := by
    unfold Mk.proveZ
    split
    · have := Mk.stepsF_len l.length 0 l.length i.toNat
      simp only [Mk.prove, List.length_reverse, List.length_map, Mk.steps]; omega
    · simp
  have hql : (Mk.prefZ l i).length ≤ 1099511627776 := by
    unfold Mk.prefZ
    split
    · have := Mk.prefD_len l i.toNat true (by omega) (by omega)
      simp only [Mk.pref, List.length_reverse]; omega
    · simp
  generalize Mk.root l = rt at *
  generalize Mk.proveZ l i = pz at *
  generalize Mk.proveE l i = pe at *
  generalize Mk.prefZ l i = qz at *
  generalize Mk.prefE l i = qe at *
  have hq : ∀ W, (binOp .eql 30 (.agg (bvs rt).toArray) (.agg (bvs rt).toArray)).run Tryd.prog W = .ok (.bool true) W := fun W => by rw [run_eql_digE W h16 h16]; simp
  have HP := Lib.hid hP
  have HRP := Lib.hid hRP
  have HQ := Lib.hid hQ
  have HRQ := Lib.hid hRQ
  have HO := Lib.hid hO
  have HRO := Lib.hid hRO
  have HP16 := Lib.hid hp16
  have HQ16 := Lib.hid hq16
  have HPL := Lib.hid hpl
  have HQL := Lib.hid hql
  clear hP hRP hQ hRQ hO hRO h16 hp16 hq16 hpl hql hl hd hr
  go_enter Tryd.func5, Tryd.ntmps5
  go_wp2_with (first
    | (go_at_call 10; refine (sanity_any _ hT).mono ?_; rintro e w1 ⟨rfl, b1⟩)
    | (go_at_call 15; refine (HP.out _ b1).mono ?_; rintro e w2 ⟨A2, m2, c2, rfl, hm2, rd2, b2⟩; have HM2 := Lib.hid hm2; clear hm2; have q2 := b1.trans (b2.mono b1.size))
    | (go_at_call 16; refine (HRP.out _ q2).mono ?_; rintro e w3 ⟨A3, m3, c3, rfl, hm3, rd3, b3⟩; have HM3 := Lib.hid hm3; clear hm3; have q3 := q2.trans (b3.mono q2.size))
    | (go_at_call 17; refine (HQ.out _ q3).mono ?_; rintro e w4 ⟨A4, m4, c4, rfl, hm4, rd4, b4⟩; have HM4 := Lib.hid hm4; clear hm4; have q4 := q3.trans (b4.mono q3.size))
    | (go_at_call 18; refine (HRQ.out _ q4).mono ?_; rintro e w5 ⟨A5, m5, c5, rfl, hm5, rd5, b5⟩; have HM5 := Lib.hid hm5; clear hm5; have q5 := q4.trans (b5.mono q4.size))
    | (go_at_call 19; refine (HO.out _ q5).mono ?_; rintro e w6 ⟨rfl, b6⟩; have q6 := q5.trans (b6.mono q5.size))
    | (go_at_call 20; refine (HRO.out _ q6).mono ?_; rintro e w7 ⟨rfl, b7⟩; have q7 := q6.trans (b7.mono q6.size); have h57 := b6.trans (b7.mono b6.size); have h47 := b5.trans (h57.mono b5.size); have h37 := b4.trans (h47.mono b4.size); have h27 := b3.trans (h37.mono b3.size))
    | (have tok := q8; go_at_call 21; refine (refSame2_any A4 A5 m4 m5 c4 c5 qz qz HM4.out.symm HM5.out.symm (by rw [HM4.out]; exact HQL.out) w8 HQ16.out HQ16.out (((rd4.below h47).below (b8.mono h47.size)).more (Nat.le_trans h47.size b8.size)) (((rd5.below h57).below (b8.mono h57.size)).more (Nat.le_trans h57.size b8.size))).mono ?_; rw [decide_eq_true (Eq.refl qz)]; rintro e w9 ⟨rfl, b9⟩; have q9 := q8.trans (b9.mono q8.size); clear tok q8)
    | (go_at_call 21; refine (refSame2_any A2 A3 m2 m3 c2 c3 pz pz HM2.out.symm HM3.out.symm (by rw [HM2.out]; exact HPL.out) w7 HP16.out HP16.out ((rd2.below h27).more h27.size) ((rd3.below h37).more h37.size)).mono ?_; rw [decide_eq_true (Eq.refl pz)]; rintro e w8 ⟨rfl, b8⟩; have q8 := q7.trans (b8.mono q7.size))
    | fail)
  go_ret
  exact ⟨rfl, q9⟩
end Go.Proofs.YtfnbcchmembomaaDoor
