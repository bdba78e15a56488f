/- The reference's Inputs: a walk of its text. -/
import Derived.Test.YtfnbcchmembomaaDoorRefInP
import Derived.Test.YtfnbcchmembomaaDoorRefTree
import Derived.Test.YtfnbcchmembomaaDoorHeld2
import Derived.Laws.Tables
namespace Go.Proofs.YtfnbcchmembomaaDoor
set_option linter.unusedVariables false
set_option linter.unusedSimpArgs false
open Go.RowKit
def InOk (L : List (List UInt8)) (m : Nat) (w : World) (e : Ending) (w' : World) : Prop := ∃ A' c' xs, e = .returned (.tuple #[.slice A' (m + 1) c', .bool true]) ∧ Below w.heap.size w w' ∧ w'.ownsRow w.heap.size 22 1 (.slice A' (m + 1) c') (m + 1) xs ∧ RowsJ w' A' xs L
def InNo (w : World) (e : Ending) (w' : World) : Prop := ∃ v, e = .returned (.tuple #[v, .bool false]) ∧ Below w.heap.size w w'
set_option maxRecDepth 100000 in
set_option maxHeartbeats 1000000 in
theorem refIn_out (n i : Int) (hi : i < 0 ∨ n ≤ i) (d : List UInt8) (P : Value) (w : World) :
    Calls Tryd.prog 24 #[.int .i64 n, .int .i64 i, dv d, P] w (InNo w) := by
  have hb0 : Below w.heap.size w (w.alloc (.cells (bvs d).toArray 30)) := (Below.refl _ w).alloc (Nat.le_refl _) _
  by_cases h0 : i < 0
  · go_enter Tryd.func24, Tryd.ntmps24
    go_wp2
    exact bodyPost_ret (results_tmp2 rfl _ _ _) rfl (show InNo _ _ _ from ⟨_, rfl, hb0⟩)
  · have h1 : n ≤ i := by omega
    go_enter Tryd.func24, Tryd.ntmps24
    go_wp2
    exact bodyPost_ret (results_tmp2 rfl _ _ _) rfl (show InNo _ _ _ from ⟨_, rfl, hb0⟩)
set_option maxRecDepth 100000 in
set_option maxHeartbeats 1000000 in
theorem refIn_empty (n i : Nat) (h2 : 2 ≤ n) (hi : i < n) (d : List UInt8) (A : Option Addr) (c : Nat) (w : World) :
    Calls Tryd.prog 24 #[.int .i64 (n : Int), .int .i64 (i : Int), dv d, .slice A 0 c] w (InNo w) := by
  have hb0 : Below w.heap.size w (w.alloc (.cells (bvs d).toArray 30)) := (Below.refl _ w).alloc (Nat.le_refl _) _
  have i0 : ¬ ((i : Int) < 0) := by omega
  have i1 : (i : Int) < (n : Int) := by omega
  have hne1 : ((n : Int) == 1) = false := by simp; omega
  go_enter Tryd.func24, Tryd.ntmps24
  go_wp2
  exact bodyPost_ret (results_tmp2 rfl _ _ _) rfl (show InNo _ _ _ from ⟨_, rfl, hb0⟩)
set_option maxRecDepth 100000 in
set_option maxHeartbeats 1000000 in
theorem refIn_one (d : List UInt8) (hd : d.length = 16) (A : Option Addr) (c : Nat) (w : World) :
    Calls Tryd.prog 24 #[.int .i64 1, .int .i64 0, dv d, .slice A 0 c] w (InOk [Mk.leaf d] 0 w) := by
  have r0 := IsRow.new w 30 (bvs d)
  have hb0 : Below w.heap.size w (w.alloc (.cells (bvs d).toArray 30)) := (Below.refl _ w).alloc (Nat.le_refl _) _
  have hz0 := alloc_size1 w (.cells (bvs d).toArray 30)
  obtain ⟨w0, hw0⟩ : ∃ w0, w.alloc (.cells (bvs d).toArray 30) = w0 := ⟨_, rfl⟩
  rw [hw0] at r0 hb0 hz0
  have HZ0 := Lib.hid hz0
  have HW0 := Lib.hid hw0
  have HD := Lib.hid hd
  clear hw0 hz0 hd
  have HT := Lib.hid (fun W => refText_any d HD.out W)
  have hle : (Mk.input 1 [Mk.str d]).length ≤ 1000 := leaf_le d HD.out
  obtain ⟨N, hN⟩ : ∃ N, (Mk.input 1 [Mk.str d]).length = N := ⟨_, rfl⟩
  have HIn := Lib.hid (fun (W : World) (A' : Option Addr) (c' : Nat) (rd : Rd W W.heap.size 1 A' 1 (svs [Mk.str d])) => refInput_any 1 A' 1 c' [Mk.str d] rfl W.heap.size W rd (Nat.le_refl _) N hN (by omega))
  rw [show Mk.input 1 [Mk.str d] = Mk.leaf d from rfl] at HIn hN
  have HN := Lib.hid hN
  generalize Mk.leaf d = lf at *
  clear hle hN
  go_enter Tryd.func24, Tryd.ntmps24
  go_wp2_with (first
    | (refine wpList_loadRow rfl _ (.tmp 6) rfl (by rw [HW0.out]; exact r0) rfl Tryd.underlying30 (by rw [bvs_len, HD.out]; exact size16) ?_; rw [HW0.out])
    | (go_at_call 51; refine (HT.out _).mono ?_; rintro e w2 ⟨rfl, b2⟩; have q2 := hb0.trans (b2.mono hb0.size))
    | (go_at_call 38; refine (HIn.out _ _ _ (by have := Rd.new w2 (svs [Mk.str d]) 9 1 (size := 1) rfl; rwa [← alloc_size1 w2 (.cells (svs [Mk.str d]).toArray 9)] at this)).mono ?_; rintro e w3 ⟨A3, c3, rfl, own3, b3⟩)
    | fail)
  have q3 : Below w.heap.size w w3 := (q2.alloc (by have := q2.size; omega) _).trans (b3.mono (by rw [alloc_size1]; have := q2.size; omega))
  have hz3 := b3.size
  exact bodyPost_ret (results_tmp2 rfl _ _ _) rfl (show InOk _ _ _ _ _ from ⟨some ⟨w3.heap.size, 0, none⟩, 1, [.slice A3 N c3], rfl, q3.alloc q3.size _, own_one w3 _ _ _ q3.size, rfl, fun j l hl => by
    have hj : j = 0 := by
      rcases Nat.eq_zero_or_pos j with h0 | h0
      · exact h0
      · rw [List.getElem?_eq_none (by simp; omega)] at hl; cases hl
    subst hj
    obtain rfl : lf = l := by simpa using hl
    refine ⟨A3, N, c3, rfl, HN.out.symm, ((Rd.of_own own3).alloc (Nat.le_refl _) _).more (by rw [alloc_size1]; omega), fun a ha => ?_⟩
    have := own_block_lt own3 a ha
    refine ⟨by rw [alloc_size1]; omega, fun e => ?_⟩
    have : a.block = w3.heap.size := by simpa [Value.ownBlock] using e
    omega⟩)
set_option maxRecDepth 100000 in
set_option maxHeartbeats 1000000 in
theorem refIn_one' (d : List UInt8) (hd : d.length = 16) (A : Option Addr) (m c : Nat) (hm : m ≠ 0) (w : World) :
    Calls Tryd.prog 24 #[.int .i64 1, .int .i64 0, dv d, .slice A m c] w (InNo w) := by
  have r0 := IsRow.new w 30 (bvs d)
  have hb0 : Below w.heap.size w (w.alloc (.cells (bvs d).toArray 30)) := (Below.refl _ w).alloc (Nat.le_refl _) _
  have hz0 := alloc_size1 w (.cells (bvs d).toArray 30)
  obtain ⟨w0, hw0⟩ : ∃ w0, w.alloc (.cells (bvs d).toArray 30) = w0 := ⟨_, rfl⟩
  rw [hw0] at r0 hb0 hz0
  have HZ0 := Lib.hid hz0
  have HW0 := Lib.hid hw0
  have HD := Lib.hid hd
  clear hw0 hz0 hd
  have HT := Lib.hid (fun W => refText_any d HD.out W)
  have hle : (Mk.input 1 [Mk.str d]).length ≤ 1000 := leaf_le d HD.out
  obtain ⟨N, hN⟩ : ∃ N, (Mk.input 1 [Mk.str d]).length = N := ⟨_, rfl⟩
  have HIn := Lib.hid (fun (W : World) (A' : Option Addr) (c' : Nat) (rd : Rd W W.heap.size 1 A' 1 (svs [Mk.str d])) => refInput_any 1 A' 1 c' [Mk.str d] rfl W.heap.size W rd (Nat.le_refl _) N hN (by omega))
  rw [show Mk.input 1 [Mk.str d] = Mk.leaf d from rfl] at HIn hN
  have HN := Lib.hid hN
  generalize Mk.leaf d = lf at *
  clear hle hN
  have hm0 : ((m : Int) == 0) = false := by simp; omega
  go_enter Tryd.func24, Tryd.ntmps24
  go_wp2_with (first
    | (refine wpList_loadRow rfl _ (.tmp 6) rfl (by rw [HW0.out]; exact r0) rfl Tryd.underlying30 (by rw [bvs_len, HD.out]; exact size16) ?_; rw [HW0.out])
    | (go_at_call 51; refine (HT.out _).mono ?_; rintro e w2 ⟨rfl, b2⟩; have q2 := hb0.trans (b2.mono hb0.size))
    | (go_at_call 38; refine (HIn.out _ _ _ (by have := Rd.new w2 (svs [Mk.str d]) 9 1 (size := 1) rfl; rwa [← alloc_size1 w2 (.cells (svs [Mk.str d]).toArray 9)] at this)).mono ?_; rintro e w3 ⟨A3, c3, rfl, own3, b3⟩)
    | fail)
  have q3 : Below w.heap.size w w3 := (q2.alloc (by have := q2.size; omega) _).trans (b3.mono (by rw [alloc_size1]; have := q2.size; omega))
  have hz3 := b3.size
  exact bodyPost_ret (results_tmp2 rfl _ _ _) rfl (show InNo _ _ _ from ⟨_, rfl, q3.alloc q3.size _⟩)
set_option maxRecDepth 100000 in
set_option maxHeartbeats 2000000 in
theorem refIn_lo_no (n i q c bp offp : Nat) (h2 : 2 ≤ n) (hn : n ≤ 9223372036854775807) (hi : i < Mk.split n) (d : List UInt8) (hd : d.length = 16) (last : List UInt8) (hl : last.length = 16) (hqc : q + 1 ≤ c) (hq : q ≤ 1099511627776) (hcm : c ≤ 9223372036854775807) (w : World) (hrg : w.rangeAt bp (offp + q * 16) (bvs last)) (hbp : bp < w.heap.size)
    (H1 : ∀ W, Below w.heap.size w W → Calls Tryd.prog 24 #[.int .i64 (Mk.split n : Int), .int .i64 (i : Int), dv d, .slice (some ⟨bp, offp, none⟩) q c] W (InNo W)) :
    Calls Tryd.prog 24 #[.int .i64 (n : Int), .int .i64 (i : Int), dv d, .slice (some ⟨bp, offp, none⟩) (q + 1) c] w (InNo w) := by
  have r0 := IsRow.new w 30 (bvs d)
  have hb0 : Below w.heap.size w (w.alloc (.cells (bvs d).toArray 30)) := (Below.refl _ w).alloc (Nat.le_refl _) _
  have hz0 := alloc_size1 w (.cells (bvs d).toArray 30)
  obtain ⟨w0, hw0⟩ : ∃ w0, w.alloc (.cells (bvs d).toArray 30) = w0 := ⟨_, rfl⟩
  rw [hw0] at r0 hb0 hz0
  have HZ0 := Lib.hid hz0
  have HW0 := Lib.hid hw0
  have HD := Lib.hid hd
  clear hw0 hz0 hd
  have HLA := Lib.hid hl
  have hsp := refSplit_any n (by omega) (by omega)
  have hp1 := Mk.split_pos n
  have hp2 := Mk.split_lt (n := n) (by omega)
  generalize Mk.split n = sp at *
  have HSP := Lib.hid hsp
  have HH1 := Lib.hid H1
  have hne1 : ((n : Int) == 1) = false := by simp; omega
  have hne2 : (((q : Int) + 1) == 0) = false := by simp; omega
  have i0 : ¬ ((i : Int) < 0) := by omega
  have i1 : (i : Int) < (n : Int) := by omega
  clear hl hsp H1
  go_enter Tryd.func24, Tryd.ntmps24
  go_wp2_with (first
    | (refine wpList_load_mid rfl _ (.tmp 41) rfl bp (offp + q * 16) rfl (bvs last) _ (by rw [HW0.out]; exact fun j v hv => (hb0.cell (p := ⟨bp, _, none⟩) hbp).trans (hrg j v hv)) Tryd.underlying30 rfl (by rw [bvs_len, HLA.out]; exact size16) ?_; rw [HW0.out])
    | (refine wpList_allocRow rfl _ rfl _ info16 ?_; intro w2 r2 b2 z2; have q2 := hb0.trans (b2.mono hb0.size); have r02 := r0.below' b2; clear z2)
    | (refine wpList_storeRow rfl _ (.tmp 10) (.tmp 42) rfl r2 rfl rfl (by rw [bvs_len, HLA.out]; exact size16) (by rw [bvs_len, HLA.out, List.length_replicate]) (bvs_all _) ?_; intro w3 rl3 g3 z3; have r03 := r02.grown g3 (fun e => by have e := Option.some.inj e; have := r0.lt; omega); have q3 := q2.grown g3 q2.size (fun j hj => by have hj := Option.some.inj hj; have := hb0.size; omega); clear z3)
    | (go_at_call 42; refine (HSP.out _).mono ?_; rintro e w' ⟨rfl, rfl⟩)
    | (refine wpList_loadRow rfl _ (.tmp 6) rfl r03 rfl Tryd.underlying30 (by rw [bvs_len, HD.out]; exact size16) ?_)
    | (go_at_call 24; refine (HH1.out _ q3).mono ?_; rintro e w4 ⟨v4, rfl, b4⟩; have q4 := q3.trans (b4.mono q3.size))
    | fail)
  exact bodyPost_ret (results_tmp2 rfl _ _ _) rfl (show InNo _ _ _ from ⟨_, rfl, q4⟩)
set_option maxRecDepth 100000 in
set_option maxHeartbeats 2000000 in
theorem refIn_hi_no (n i q c bp offp : Nat) (h2 : 2 ≤ n) (hn : n ≤ 9223372036854775807) (hi : ¬ i < Mk.split n) (hin : i < n) (d : List UInt8) (hd : d.length = 16) (last : List UInt8) (hl : last.length = 16) (hqc : q + 1 ≤ c) (hq : q ≤ 1099511627776) (hcm : c ≤ 9223372036854775807) (w : World) (hrg : w.rangeAt bp (offp + q * 16) (bvs last)) (hbp : bp < w.heap.size)
    (H1 : ∀ W, Below w.heap.size w W → Calls Tryd.prog 24 #[.int .i64 ((n : Int) - (Mk.split n : Int)), .int .i64 ((i : Int) - (Mk.split n : Int)), dv d, .slice (some ⟨bp, offp, none⟩) q c] W (InNo W)) :
    Calls Tryd.prog 24 #[.int .i64 (n : Int), .int .i64 (i : Int), dv d, .slice (some ⟨bp, offp, none⟩) (q + 1) c] w (InNo w) := by
  have r0 := IsRow.new w 30 (bvs d)
  have hb0 : Below w.heap.size w (w.alloc (.cells (bvs d).toArray 30)) := (Below.refl _ w).alloc (Nat.le_refl _) _
  have hz0 := alloc_size1 w (.cells (bvs d).toArray 30)
  obtain ⟨w0, hw0⟩ : ∃ w0, w.alloc (.cells (bvs d).toArray 30) = w0 := ⟨_, rfl⟩
  rw [hw0] at r0 hb0 hz0
  have HZ0 := Lib.hid hz0
  have HW0 := Lib.hid hw0
  have HD := Lib.hid hd
  clear hw0 hz0 hd
  have HLA := Lib.hid hl
  have hsp := refSplit_any n (by omega) (by omega)
  have hp1 := Mk.split_pos n
  have hp2 := Mk.split_lt (n := n) (by omega)
  generalize Mk.split n = sp at *
  have HSP := Lib.hid hsp
  have HH1 := Lib.hid H1
  have hne1 : ((n : Int) == 1) = false := by simp; omega
  have hne2 : (((q : Int) + 1) == 0) = false := by simp; omega
  have i0 : ¬ ((i : Int) < 0) := by omega
  have i1 : (i : Int) < (n : Int) := by omega
  clear hl hsp H1
  go_enter Tryd.func24, Tryd.ntmps24
  go_wp2_with (first
    | (refine wpList_load_mid rfl _ (.tmp 41) rfl bp (offp + q * 16) rfl (bvs last) _ (by rw [HW0.out]; exact fun j v hv => (hb0.cell (p := ⟨bp, _, none⟩) hbp).trans (hrg j v hv)) Tryd.underlying30 rfl (by rw [bvs_len, HLA.out]; exact size16) ?_; rw [HW0.out])
    | (refine wpList_allocRow rfl _ rfl _ info16 ?_; intro w2 r2 b2 z2; have q2 := hb0.trans (b2.mono hb0.size); have r02 := r0.below' b2; clear z2)
    | (refine wpList_storeRow rfl _ (.tmp 10) (.tmp 42) rfl r2 rfl rfl (by rw [bvs_len, HLA.out]; exact size16) (by rw [bvs_len, HLA.out, List.length_replicate]) (bvs_all _) ?_; intro w3 rl3 g3 z3; have r03 := r02.grown g3 (fun e => by have e := Option.some.inj e; have := r0.lt; omega); have q3 := q2.grown g3 q2.size (fun j hj => by have hj := Option.some.inj hj; have := hb0.size; omega); clear z3)
    | (go_at_call 42; refine (HSP.out _).mono ?_; rintro e w' ⟨rfl, rfl⟩)
    | (refine wpList_loadRow rfl _ (.tmp 6) rfl r03 rfl Tryd.underlying30 (by rw [bvs_len, HD.out]; exact size16) ?_)
    | (go_at_call 24; refine (HH1.out _ q3).mono ?_; rintro e w4 ⟨v4, rfl, b4⟩; have q4 := q3.trans (b4.mono q3.size))
    | fail)
  exact bodyPost_ret (results_tmp2 rfl _ _ _) rfl (show InNo _ _ _ from ⟨_, rfl, q4⟩)
theorem refIn_push {w w3 w4 w10 w11 : World} {g off M c4 N c5 c7 b8 : Nat} {A5 A7 : Option Addr} {xs : List Value} {L : List (List UInt8)} {nd : List UInt8} (hRJ : RowsJ w4 (some ⟨g, off, none⟩) xs L) (hv : Below w4.heap.size w4 w10) (q4 : Below w.heap.size w w4)
    (own4 : w4.ownsRow w3.heap.size 22 1 (.slice (some ⟨g, off, none⟩) M c4) M xs) (own7 : w11.ownsRow w.heap.size 22 1 (.slice A7 (M + 1) c7) (M + 1) (xs ++ [.slice A5 N c5])) (g7 : w10.grownBy w11 (Value.slice (some ⟨g, off, none⟩) M c4).ownBlock)
    (hA7 : A7 = some ⟨g, off, none⟩ ∨ ∃ a, A7 = some a ∧ a.block = w10.heap.size) (hN : nd.length = N) (own6 : w10.ownsRow b8 5 1 (.slice A5 N c5) N (bvs nd)) (hb8 : w4.heap.size ≤ b8) (h3 : w.heap.size ≤ w3.heap.size) :
    ∃ A' c' xs', Ending.returned (.tuple #[.slice A7 (M + 1) c7, .bool true]) = .returned (.tuple #[.slice A' (M + 1) c', .bool true]) ∧ Below w.heap.size w w11 ∧ w11.ownsRow w.heap.size 22 1 (.slice A' (M + 1) c') (M + 1) xs' ∧ RowsJ w11 A' xs' (L ++ [nd]) := by
  obtain ⟨g', cap, hv7, _, _⟩ := own7.form (by omega)
  injection hv7 with hA _ hc
  subst hA
  have hg := own_block_lt own4 _ rfl
  have hg1 : w3.heap.size ≤ g := hg.1
  have hg2 : g < w4.heap.size := hg.2
  have q10 := q4.trans (hv.mono q4.size)
  refine ⟨_, _, _, rfl, q10.grown g7 q10.size (fun j hj => by have hj : g = j := by simpa [Value.ownBlock] using hj
                                                              omega), own7, ?_⟩
  refine RowsJ.push (hRJ.below hv) g7 (hA7.imp (fun h => h.symm) fun ⟨a, ha, hb⟩ => by cases ha; simp at hb; omega) hN.symm ((Rd.of_own own6).more (by omega)) (fun a ha => ?_)
  have h1 := own_block_lt own6 a ha
  refine ⟨h1.2, fun e => ?_⟩
  have : a.block = g := by simpa [Value.ownBlock] using e
  omega
set_option maxRecDepth 100000 in
set_option maxHeartbeats 2000000 in
theorem refIn_lo (n i q c bp offp : Nat) (h2 : 2 ≤ n) (hn : n ≤ 9223372036854775807) (hi : i < Mk.split n) (d : List UInt8) (hd : d.length = 16) (last : List UInt8) (hl : last.length = 16) (hqc : q + 1 ≤ c) (hq : q ≤ 1099511627776) (hcm : c ≤ 9223372036854775807) (w : World) (hrg : w.rangeAt bp (offp + q * 16) (bvs last)) (hbp : bp < w.heap.size)
    (L : List (List UInt8)) (x : List UInt8) (hL : L[q]? = some x) (hx : x.length ≤ 1000) (hLl : L.length = q + 1) (hq64 : q ≤ 64) (hT : RTab w)
    (H1 : ∀ W, Below w.heap.size w W → Calls Tryd.prog 24 #[.int .i64 (Mk.split n : Int), .int .i64 (i : Int), dv d, .slice (some ⟨bp, offp, none⟩) q c] W (InOk L q W)) :
    Calls Tryd.prog 24 #[.int .i64 (n : Int), .int .i64 (i : Int), dv d, .slice (some ⟨bp, offp, none⟩) (q + 1) c] w (InOk (L ++ [Mk.up x (false, last)]) (q + 1) w) := by
  have r0 := IsRow.new w 30 (bvs d)
  have hb0 : Below w.heap.size w (w.alloc (.cells (bvs d).toArray 30)) := (Below.refl _ w).alloc (Nat.le_refl _) _
  have hz0 := alloc_size1 w (.cells (bvs d).toArray 30)
  obtain ⟨w0, hw0⟩ : ∃ w0, w.alloc (.cells (bvs d).toArray 30) = w0 := ⟨_, rfl⟩
  rw [hw0] at r0 hb0 hz0
  have HZ0 := Lib.hid hz0
  have HW0 := Lib.hid hw0
  have HD := Lib.hid hd
  clear hw0 hz0 hd
  have HLA := Lib.hid hl
  have hsp := refSplit_any n (by omega) (by omega)
  have hp1 := Mk.split_pos n
  have hp2 := Mk.split_lt (n := n) (by omega)
  generalize Mk.split n = sp at *
  have HSP := Lib.hid hsp
  have HH1 := Lib.hid H1
  have hne1 : ((n : Int) == 1) = false := by simp; omega
  have hne2 : (((q : Int) + 1) == 0) = false := by simp; omega
  have i0 : ¬ ((i : Int) < 0) := by omega
  have i1 : (i : Int) < (n : Int) := by omega
  have hsx := Mk.short_len x
  have hup : Mk.up x (false, last) = Mk.node (Mk.short x) last := rfl
  have HSH := Lib.hid (fun (A' : Option Addr) (N' c' : Nat) (hN : N' = x.length) (W : World) (hr : Rd W W.heap.size 1 A' N' (bvs x)) (hT : RTab W) => refShort_any A' N' c' x hN.symm (by omega) W.heap.size W hr (Nat.le_refl _) hT)
  rw [hup]
  clear hup
  generalize Mk.short x = sx at *
  have HSX := Lib.hid hsx
  have HTx := Lib.hid (fun W => refText_any sx HSX.out W)
  have HTl := Lib.hid (fun W => refText_any last HLA.out W)
  have hle : (Mk.input 2 [Mk.str sx, Mk.str last]).length ≤ 1000 := node_le _ _ hsx hl
  obtain ⟨N, hN⟩ : ∃ N, (Mk.input 2 [Mk.str sx, Mk.str last]).length = N := ⟨_, rfl⟩
  have HIn := Lib.hid (fun (W : World) (A' : Option Addr) (c' : Nat) (rd : Rd W W.heap.size 1 A' 2 (svs [Mk.str sx, Mk.str last])) => refInput_any 2 A' 2 c' [Mk.str sx, Mk.str last] rfl W.heap.size W rd (Nat.le_refl _) N hN (by omega))
  rw [show Mk.input 2 [Mk.str sx, Mk.str last] = Mk.node sx last from rfl] at HIn hN
  have HN := Lib.hid hN
  generalize Mk.node sx last = nd at *
  obtain ⟨M, hM⟩ : ∃ M, q + 1 = M := ⟨_, rfl⟩
  have hw1 : IntKind.i64.wrap ((M : Int) - 1) = (q : Int) := by rw [← hM]; have := IntWalk.i64_in (q : Int) (by omega); rw [show ((q + 1 : Nat) : Int) - 1 = (q : Int) from by omega]; exact this
  have hmM : (q : Int) < (M : Int) := by omega
  have HMM : Hid (q < M) := Lib.hid (by omega)
  have HM := Lib.hid hM
  have HLL := Lib.hid hLl
  have HQ := Lib.hid hq64
  have HT := Lib.hid hT
  clear hsx hle hN hM hLl hx hT
  clear hl hsp H1
  go_enter Tryd.func24, Tryd.ntmps24
  go_wp2_with (first
    | (refine wpList_load_mid rfl _ (.tmp 41) rfl bp (offp + q * 16) rfl (bvs last) _ (by rw [HW0.out]; exact fun j v hv => (hb0.cell (p := ⟨bp, _, none⟩) hbp).trans (hrg j v hv)) Tryd.underlying30 rfl (by rw [bvs_len, HLA.out]; exact size16) ?_; rw [HW0.out])
    | (refine wpList_allocRow rfl _ rfl _ info16 ?_; intro w2 r2 b2 z2; have q2 := hb0.trans (b2.mono hb0.size); have r02 := r0.below' b2; clear z2)
    | (refine wpList_storeRow rfl _ (.tmp 10) (.tmp 42) rfl r2 rfl rfl (by rw [bvs_len, HLA.out]; exact size16) (by rw [bvs_len, HLA.out, List.length_replicate]) (bvs_all _) ?_; intro w3 rl3 g3 z3; have r03 := r02.grown g3 (fun e => by have e := Option.some.inj e; have := r0.lt; omega); have q3 := q2.grown g3 q2.size (fun j hj => by have hj := Option.some.inj hj; have := hb0.size; omega); clear z3)
    | (go_at_call 42; refine (HSP.out _).mono ?_; rintro e w' ⟨rfl, rfl⟩)
    | (refine wpList_loadRow rfl _ (.tmp 6) rfl r03 rfl Tryd.underlying30 (by rw [bvs_len, HD.out]; exact size16) ?_)
    | (go_at_call 24; refine (HH1.out _ q3).mono ?_; rintro e w4 ⟨A4, c4, xs, rfl, b4, own4, RJ⟩; have q4 := q3.trans (b4.mono q3.size); have rl4 := rl3.below' b4; have RJ' := Lib.hid RJ; clear RJ; have rr := Rd.of_own own4; rw [HM.out] at rr own4; rw [HM.out])
    | fail)
  obtain ⟨g, off, rfl, hg, hcell⟩ := rr.2 (by have := HMM.out; omega)
  obtain ⟨A', N', c', hxm, hN', rdx, _⟩ := RJ'.out.2 q x hL
  have hcm' := hcell q _ hxm
  have HC := Lib.hid hcm'
  have HS := Lib.hid (fun (W : World) (h : Below w4.heap.size w4 W) => HSH.out A' N' c' hN' W ((rdx.below h).more h.size) ((HT.out.below q4).below h))
  clear hcm' hcell hxm hN' rdx
  have hv0 : Below w4.heap.size w4 w4.drew := (Below.refl _ _).drew
  refine wp_region_late (fun W => Below w4.heap.size w4 W) [14, 15, 16] (by kernel_rfl) (hv0) (fun hHeld => ?_)
  refine wpAnyL_take (i := 0) (oi := { dst := some 63, op := Op.move (Operand.tmp 13), type := 48, pos := "ref.go:169", after := #[], guard := none }) (v := ?v0_1) rfl (by kernel_rfl) (by kernel_rfl) (by kernel_rfl) (by kernel_rfl) (fun _ _ _ h => h) (Or.inl ⟨by rfl, ?h0_1⟩) (by assumption) ?r0_1
  case h0_1 =>
    intro W hSW
    try dsimp only at hSW
    go_simp
    try with_reducible rfl
  try simp only [Act.put, List.setIfInBounds_toArray, List.set_cons_zero, List.set_cons_succ]
  refine wpAnyL_take (i := 1) (oi := { dst := some 64, op := Op.move (Operand.tmp 13), type := 48, pos := "ref.go:169", after := #[], guard := none }) (v := ?v1_2) rfl (by kernel_rfl) (by kernel_rfl) (by kernel_rfl) (by kernel_rfl) (fun _ _ _ h => h) (Or.inl ⟨by rfl, ?h1_2⟩) (by assumption) ?r1_2
  case h1_2 =>
    intro W hSW
    try dsimp only at hSW
    go_simp
    try with_reducible rfl
  try simp only [Act.put, List.setIfInBounds_toArray, List.set_cons_zero, List.set_cons_succ]
  refine wpAnyL_take (i := 2) (oi := { dst := some 65, op := Op.move (Operand.tmp 13), type := 48, pos := "ref.go:169", after := #[], guard := none }) (v := ?v2_3) rfl (by kernel_rfl) (by kernel_rfl) (by kernel_rfl) (by kernel_rfl) (fun _ _ _ h => h) (Or.inl ⟨by rfl, ?h2_3⟩) (by assumption) ?r2_3
  case h2_3 =>
    intro W hSW
    try dsimp only at hSW
    go_simp
    try with_reducible rfl
  try simp only [Act.put, List.setIfInBounds_toArray, List.set_cons_zero, List.set_cons_succ]
  refine wpAnyL_take (i := 3) (oi := { dst := some 66, op := Op.call { callee := Callee.builtin Builtin.len, args := #[Operand.tmp 65], argTypes := #[48] }, type := 3, pos := "ref.go:169", after := #[{ on := 2, ground := Ground.data }], guard := none }) (v := ?v3_4) rfl (by kernel_rfl) (by kernel_rfl) (by kernel_rfl) (by kernel_rfl) (fun _ _ _ h => h) (Or.inl ⟨by rfl, ?h3_4⟩) (by assumption) ?r3_4
  case h3_4 =>
    intro W hSW
    try dsimp only at hSW
    go_simp
    try with_reducible rfl
  try simp only [Act.put, List.setIfInBounds_toArray, List.set_cons_zero, List.set_cons_succ]
  refine wpAnyL_take (i := 4) (oi := { dst := some 67, op := Op.binOp BinOp.sub 3 (Operand.tmp 66) (Operand.const (Value.int IntKind.i64 1)) 3, type := 3, pos := "ref.go:169", after := #[{ on := 3, ground := Ground.data }], guard := none }) (v := ?v4_5) rfl (by kernel_rfl) (by kernel_rfl) (by kernel_rfl) (by kernel_rfl) (fun _ _ _ h => h) (Or.inl ⟨by rfl, ?h4_5⟩) (by assumption) ?r4_5
  case h4_5 =>
    intro W hSW
    try dsimp only at hSW
    go_simp
    try with_reducible rfl
  try simp only [Act.put, List.setIfInBounds_toArray, List.set_cons_zero, List.set_cons_succ]
  refine wpAnyL_take (i := 5) (oi := { dst := some 68, op := Op.indexAddr 48 (Operand.tmp 64) (Operand.tmp 67), type := 0, pos := "ref.go:169", after := #[{ on := 1, ground := Ground.data }, { on := 4, ground := Ground.data }], guard := none }) (v := ?v5_6) rfl (by kernel_rfl) (by kernel_rfl) (by kernel_rfl) (by kernel_rfl) (fun _ _ _ h => h) (Or.inl ⟨by rfl, ?h5_6⟩) (by assumption) ?r5_6
  case h5_6 =>
    intro W hSW
    try dsimp only at hSW
    go_simp
    try with_reducible rfl
  try simp only [Act.put, List.setIfInBounds_toArray, List.set_cons_zero, List.set_cons_succ]
  refine wpAnyL_take (i := 6) (oi := { dst := some 69, op := Op.load 22 (Operand.tmp 68), type := 22, pos := "ref.go:169", after := #[{ on := 5, ground := Ground.data }], guard := none }) (v := ?v6_7) rfl (by kernel_rfl) (by kernel_rfl) (by kernel_rfl) (by kernel_rfl) (fun _ _ _ h => h) (Or.inl ⟨by rfl, ?h6_7⟩) (by assumption) ?r6_7
  case h6_7 =>
    intro W hSW
    try dsimp only at hSW
    have hcc := (hSW.cell (p := ⟨g, off + q, none⟩) hg).trans HC.out
    go_simp
    try with_reducible rfl
  try simp only [Act.put, List.setIfInBounds_toArray, List.set_cons_zero, List.set_cons_succ]
  refine wpAnyL_take (i := 9) (oi := { dst := some 72, op := Op.load 30 (Operand.tmp 10), type := 30, pos := "ref.go:169", after := #[], guard := none }) (v := _) rfl (by kernel_rfl) (by kernel_rfl) (by kernel_rfl) (by kernel_rfl) (fun _ _ _ h => h) (yi_row rfl _ (.tmp 10) rfl rfl (fun W hW => rl4.below' hW) Tryd.underlying30 (by rw [bvs_len, HLA.out]; exact size16)) (by assumption) ?_
  try simp only [Act.put, List.setIfInBounds_toArray, List.set_cons_zero, List.set_cons_succ]
  refine wpAnyL_ready (rs := [7]) (by kernel_rfl) (by simp) ?_
  refine AllReadyL.cons (o := { dst := some 70, op := Op.call { callee := Callee.value (Operand.func 25), args := #[Operand.tmp 69], argTypes := #[22] }, type := 30, pos := "ref.go:169", after := #[{ on := 6, ground := Ground.data }], guard := none }) rfl (fun K hK => ?_) AllReadyL.nil
  go_simp
  refine (HS.out _ hv0).mono ?_
  rintro e w5 ⟨rfl, b5⟩
  have hv5 : Below w4.heap.size w4 w5 := hv0.trans (b5.mono hv0.size)
  go_wp2_with fail
  refine hK.out _ _ (hv5) (fun hHeld => ?_)
  clear hK K
  try simp only [Act.put, List.setIfInBounds_toArray, List.set_cons_zero, List.set_cons_succ]
  refine wpAnyL_ready (rs := [8]) (by kernel_rfl) (by simp) ?_
  refine AllReadyL.cons (o := { dst := some 71, op := Op.call { callee := Callee.value (Operand.func 51), args := #[Operand.tmp 70], argTypes := #[30] }, type := 9, pos := "ref.go:169", after := #[{ on := 7, ground := Ground.data }, { on := 7, ground := Ground.chain }], guard := none }) rfl (fun K hK => ?_) AllReadyL.nil
  go_simp
  refine (HTx.out w5).mono ?_
  rintro e w6 ⟨rfl, b6⟩
  have hv6 : Below w4.heap.size w4 w6 := hv5.trans (b6.mono hv5.size)
  go_wp2_with fail
  refine hK.out _ _ (hv6) (fun hHeld => ?_)
  clear hK K
  try simp only [Act.put, List.setIfInBounds_toArray, List.set_cons_zero, List.set_cons_succ]
  refine wpAnyL_ready (rs := [10]) (by kernel_rfl) (by simp) ?_
  refine AllReadyL.cons (o := { dst := some 73, op := Op.call { callee := Callee.value (Operand.func 51), args := #[Operand.tmp 72], argTypes := #[30] }, type := 9, pos := "ref.go:169", after := #[{ on := 9, ground := Ground.data }, { on := 8, ground := Ground.chain }], guard := none }) rfl (fun K hK => ?_) AllReadyL.nil
  go_simp
  refine (HTl.out w6).mono ?_
  rintro e w7 ⟨rfl, b7⟩
  have hv7 : Below w4.heap.size w4 w7 := hv6.trans (b7.mono hv6.size)
  go_wp2_with fail
  refine hK.out _ _ (hv7) (fun hHeld => ?_)
  clear hK K
  try simp only [Act.put, List.setIfInBounds_toArray, List.set_cons_zero, List.set_cons_succ]
  refine wpAnyL_ready (rs := [11]) (by kernel_rfl) (by simp) ?_
  refine AllReadyL.cons (o := { dst := some 74, op := Op.buildSlice 28 2 #[(0, Operand.tmp 71), (1, Operand.tmp 73)], type := 28, pos := "ref.go:169", after := #[{ on := 8, ground := Ground.data }, { on := 10, ground := Ground.data }], guard := none }) rfl (fun K hK => ?_) AllReadyL.nil
  go_simp
  obtain ⟨w8, hw8⟩ : ∃ w', w7.alloc (.cells #[Value.string (Mk.str sx), Value.string (Mk.str last)] 9) = w' := ⟨_, rfl⟩
  rw [hw8]
  have hv8 : Below w4.heap.size w4 w8 := by rw [← hw8]; exact hv7.alloc hv7.size _
  have rds : Rd w8 w8.heap.size 1 (some ⟨w7.heap.size, 0, none⟩) 2 (svs [Mk.str sx, Mk.str last]) := by rw [← hw8, alloc_size1]; exact Rd.new w7 (svs [Mk.str sx, Mk.str last]) 9 2 (size := 1) rfl
  clear hw8
  refine hK.out _ _ (hv8) (fun hHeld => ?_)
  clear hK K
  try simp only [Act.put, List.setIfInBounds_toArray, List.set_cons_zero, List.set_cons_succ]
  refine wpAnyL_ready (rs := [12]) (by kernel_rfl) (by simp) ?_
  refine AllReadyL.cons (o := { dst := some 75, op := Op.call { callee := Callee.value (Operand.func 38), args := #[Operand.const (Value.int IntKind.i64 2), Operand.tmp 74], argTypes := #[3, 28] }, type := 22, pos := "ref.go:169", after := #[{ on := 11, ground := Ground.data }, { on := 10, ground := Ground.chain }], guard := none }) rfl (fun K hK => ?_) AllReadyL.nil
  go_simp
  refine (HIn.out _ _ _ rds).mono ?_
  rintro e w9 ⟨A5, c5, rfl, own5, b9⟩
  have hv9 : Below w4.heap.size w4 w9 := hv8.trans (b9.mono hv8.size)
  go_wp2_with fail
  refine hK.out _ _ (hv9) (fun hHeld => ?_)
  clear hK K
  try simp only [Act.put, List.setIfInBounds_toArray, List.set_cons_zero, List.set_cons_succ]
  refine wpAnyL_ready (rs := [13]) (by kernel_rfl) (by simp) ?_
  refine AllReadyL.cons (o := { dst := some 76, op := Op.buildSlice 48 1 #[(0, Operand.tmp 75)], type := 48, pos := "ref.go:169", after := #[{ on := 12, ground := Ground.data }], guard := none }) rfl (fun K hK => ?_) AllReadyL.nil
  go_simp
  obtain ⟨w10, hw10⟩ : ∃ w', w9.alloc (.cells #[Value.slice A5 N c5] 22) = w' := ⟨_, rfl⟩
  rw [hw10]
  have hv10 : Below w4.heap.size w4 w10 := by rw [← hw10]; exact hv9.alloc hv9.size _
  have rdo : Rd w10 w10.heap.size 1 (some ⟨w9.heap.size, 0, none⟩) 1 [Value.slice A5 N c5] := by rw [← hw10, alloc_size1]; exact Rd.one w9 (Value.slice A5 N c5) 22
  have own6 : w10.ownsRow w8.heap.size 5 1 (.slice A5 N c5) N (bvs nd) := by rw [← hw10]; exact own5.alloc _
  clear hw10
  refine hK.out _ _ (hv10) (fun hHeld => ?_)
  clear hK K
  try simp only [Act.put, List.setIfInBounds_toArray, List.set_cons_zero, List.set_cons_succ]
  refine wpAnyL_ready (rs := [14]) (by kernel_rfl) (by simp) ?_
  refine AllReadyL.late (o := { dst := some 77, op := Op.call { callee := Callee.builtin Builtin.append, args := #[Operand.tmp 63, Operand.tmp 76], argTypes := #[48, 48] }, type := 48, pos := "ref.go:169", after := #[{ on := 0, ground := Ground.data }, { on := 13, ground := Ground.data }, { on := 12, ground := Ground.chain }], guard := none }) rfl (by rfl) (fun K hK => ?_) AllReadyL.nil
  rw [if_pos (by rfl)]
  refine wp_app _ (.tmp 63) (.tmp 76) 48 rfl w.heap.size 22 _ 1 24 slicesE (some ⟨g, off, none⟩) M c4 xs rfl (own_base (own_below own4 hv10) q3.size) _ _ 1 1 [Value.slice A5 N c5] rfl rdo (by intro v hv; simp at hv; subst hv; rfl) (by have := HM.out; have := HQ.out; omega) (by have := HM.out; have := HQ.out; unfold maxLen; omega) (by have := hv10.size; have := q4.size; omega) ?_
  intro A7 c7 w11 own7 g7 hA7
  refine hK.out _ _ ?_
  clear hK K
  try simp only [Act.put, List.setIfInBounds_toArray, List.set_cons_zero, List.set_cons_succ]
  refine wpAnyL_takeE (i := 15) (oi := { dst := some 8, op := Op.assign (Operand.tmp 77), type := 48, pos := "ref.go:169", after := #[{ on := 14, ground := Ground.data }, { on := 14, ground := Ground.chain }, { on := 0, ground := Ground.phase }, { on := 1, ground := Ground.phase }, { on := 2, ground := Ground.phase }, { on := 3, ground := Ground.phase }, { on := 4, ground := Ground.phase }, { on := 5, ground := Ground.phase }, { on := 6, ground := Ground.phase }, { on := 7, ground := Ground.phase }, { on := 8, ground := Ground.phase }, { on := 9, ground := Ground.phase }, { on := 10, ground := Ground.phase }, { on := 11, ground := Ground.phase }, { on := 12, ground := Ground.phase }, { on := 13, ground := Ground.phase }, { on := 14, ground := Ground.phase }], guard := none }) (v := ?v15_9) rfl (by kernel_rfl) (by kernel_rfl) (by kernel_rfl) (by kernel_rfl) (fun _ _ _ h => h) (Or.inl ⟨by rfl, ?h15_9⟩) ?r15_9
  case h15_9 =>
    intro W
    go_simp
    try with_reducible rfl
  try simp only [Act.put, List.setIfInBounds_toArray, List.set_cons_zero, List.set_cons_succ]
  refine wpAnyL_takeE (i := 16) (oi := { dst := some 9, op := Op.assign (Operand.const (Value.bool true)), type := 4, pos := "ref.go:169", after := #[{ on := 15, ground := Ground.chain }, { on := 0, ground := Ground.phase }, { on := 1, ground := Ground.phase }, { on := 2, ground := Ground.phase }, { on := 3, ground := Ground.phase }, { on := 4, ground := Ground.phase }, { on := 5, ground := Ground.phase }, { on := 6, ground := Ground.phase }, { on := 7, ground := Ground.phase }, { on := 8, ground := Ground.phase }, { on := 9, ground := Ground.phase }, { on := 10, ground := Ground.phase }, { on := 11, ground := Ground.phase }, { on := 12, ground := Ground.phase }, { on := 13, ground := Ground.phase }, { on := 14, ground := Ground.phase }, { on := 15, ground := Ground.phase }], guard := none }) (v := ?v16_10) rfl (by kernel_rfl) (by kernel_rfl) (by kernel_rfl) (by kernel_rfl) (fun _ _ _ h => h) (Or.inl ⟨by rfl, ?h16_10⟩) ?r16_10
  case h16_10 =>
    intro W
    go_simp
    try with_reducible rfl
  try simp only [Act.put, List.setIfInBounds_toArray, List.set_cons_zero, List.set_cons_succ]
  refine wpAnyL_done (by kernel_rfl) ?_ _
  go_wp2_with fail
  have hok := refIn_push RJ'.out hv10 q4 own4 own7 g7 hA7 HN.out own6 hv8.size q3.size
  have hM' := HM.out
  subst hM'
  obtain ⟨A8, c8, xs8, he8, hb8, ho8, hr8⟩ := hok
  exact bodyPost_ret (results_tmp2 rfl _ _ _) rfl (show InOk _ _ _ _ _ from ⟨A8, c8, xs8, (by rw [← he8]; rfl), hb8, ho8, hr8⟩)
set_option maxRecDepth 100000 in
set_option maxHeartbeats 2000000 in
theorem refIn_hi (n i q c bp offp : Nat) (h2 : 2 ≤ n) (hn : n ≤ 9223372036854775807) (hi : ¬ i < Mk.split n) (hin : i < n) (d : List UInt8) (hd : d.length = 16) (last : List UInt8) (hl : last.length = 16) (hqc : q + 1 ≤ c) (hq : q ≤ 1099511627776) (hcm : c ≤ 9223372036854775807) (w : World) (hrg : w.rangeAt bp (offp + q * 16) (bvs last)) (hbp : bp < w.heap.size)
    (L : List (List UInt8)) (x : List UInt8) (hL : L[q]? = some x) (hx : x.length ≤ 1000) (hLl : L.length = q + 1) (hq64 : q ≤ 64) (hT : RTab w)
    (H1 : ∀ W, Below w.heap.size w W → Calls Tryd.prog 24 #[.int .i64 ((n : Int) - (Mk.split n : Int)), .int .i64 ((i : Int) - (Mk.split n : Int)), dv d, .slice (some ⟨bp, offp, none⟩) q c] W (InOk L q W)) :
    Calls Tryd.prog 24 #[.int .i64 (n : Int), .int .i64 (i : Int), dv d, .slice (some ⟨bp, offp, none⟩) (q + 1) c] w (InOk (L ++ [Mk.up x (true, last)]) (q + 1) w) := by
  have r0 := IsRow.new w 30 (bvs d)
  have hb0 : Below w.heap.size w (w.alloc (.cells (bvs d).toArray 30)) := (Below.refl _ w).alloc (Nat.le_refl _) _
  have hz0 := alloc_size1 w (.cells (bvs d).toArray 30)
  obtain ⟨w0, hw0⟩ : ∃ w0, w.alloc (.cells (bvs d).toArray 30) = w0 := ⟨_, rfl⟩
  rw [hw0] at r0 hb0 hz0
  have HZ0 := Lib.hid hz0
  have HW0 := Lib.hid hw0
  have HD := Lib.hid hd
  clear hw0 hz0 hd
  have HLA := Lib.hid hl
  have hsp := refSplit_any n (by omega) (by omega)
  have hp1 := Mk.split_pos n
  have hp2 := Mk.split_lt (n := n) (by omega)
  generalize Mk.split n = sp at *
  have HSP := Lib.hid hsp
  have HH1 := Lib.hid H1
  have hne1 : ((n : Int) == 1) = false := by simp; omega
  have hne2 : (((q : Int) + 1) == 0) = false := by simp; omega
  have i0 : ¬ ((i : Int) < 0) := by omega
  have i1 : (i : Int) < (n : Int) := by omega
  have hsx := Mk.short_len x
  have hup : Mk.up x (true, last) = Mk.node last (Mk.short x) := rfl
  have HSH := Lib.hid (fun (A' : Option Addr) (N' c' : Nat) (hN : N' = x.length) (W : World) (hr : Rd W W.heap.size 1 A' N' (bvs x)) (hT : RTab W) => refShort_any A' N' c' x hN.symm (by omega) W.heap.size W hr (Nat.le_refl _) hT)
  rw [hup]
  clear hup
  generalize Mk.short x = sx at *
  have HSX := Lib.hid hsx
  have HTx := Lib.hid (fun W => refText_any sx HSX.out W)
  have HTl := Lib.hid (fun W => refText_any last HLA.out W)
  have hle : (Mk.input 2 [Mk.str last, Mk.str sx]).length ≤ 1000 := node_le _ _ hl hsx
  obtain ⟨N, hN⟩ : ∃ N, (Mk.input 2 [Mk.str last, Mk.str sx]).length = N := ⟨_, rfl⟩
  have HIn := Lib.hid (fun (W : World) (A' : Option Addr) (c' : Nat) (rd : Rd W W.heap.size 1 A' 2 (svs [Mk.str last, Mk.str sx])) => refInput_any 2 A' 2 c' [Mk.str last, Mk.str sx] rfl W.heap.size W rd (Nat.le_refl _) N hN (by omega))
  rw [show Mk.input 2 [Mk.str last, Mk.str sx] = Mk.node last sx from rfl] at HIn hN
  have HN := Lib.hid hN
  generalize Mk.node last sx = nd at *
  obtain ⟨M, hM⟩ : ∃ M, q + 1 = M := ⟨_, rfl⟩
  have hw1 : IntKind.i64.wrap ((M : Int) - 1) = (q : Int) := by rw [← hM]; have := IntWalk.i64_in (q : Int) (by omega); rw [show ((q + 1 : Nat) : Int) - 1 = (q : Int) from by omega]; exact this
  have hmM : (q : Int) < (M : Int) := by omega
  have HMM : Hid (q < M) := Lib.hid (by omega)
  have HM := Lib.hid hM
  have HLL := Lib.hid hLl
  have HQ := Lib.hid hq64
  have HT := Lib.hid hT
  clear hsx hle hN hM hLl hx hT
  clear hl hsp H1
  go_enter Tryd.func24, Tryd.ntmps24
  go_wp2_with (first
    | (refine wpList_load_mid rfl _ (.tmp 41) rfl bp (offp + q * 16) rfl (bvs last) _ (by rw [HW0.out]; exact fun j v hv => (hb0.cell (p := ⟨bp, _, none⟩) hbp).trans (hrg j v hv)) Tryd.underlying30 rfl (by rw [bvs_len, HLA.out]; exact size16) ?_; rw [HW0.out])
    | (refine wpList_allocRow rfl _ rfl _ info16 ?_; intro w2 r2 b2 z2; have q2 := hb0.trans (b2.mono hb0.size); have r02 := r0.below' b2; clear z2)
    | (refine wpList_storeRow rfl _ (.tmp 10) (.tmp 42) rfl r2 rfl rfl (by rw [bvs_len, HLA.out]; exact size16) (by rw [bvs_len, HLA.out, List.length_replicate]) (bvs_all _) ?_; intro w3 rl3 g3 z3; have r03 := r02.grown g3 (fun e => by have e := Option.some.inj e; have := r0.lt; omega); have q3 := q2.grown g3 q2.size (fun j hj => by have hj := Option.some.inj hj; have := hb0.size; omega); clear z3)
    | (go_at_call 42; refine (HSP.out _).mono ?_; rintro e w' ⟨rfl, rfl⟩)
    | (refine wpList_loadRow rfl _ (.tmp 6) rfl r03 rfl Tryd.underlying30 (by rw [bvs_len, HD.out]; exact size16) ?_)
    | (go_at_call 24; refine (HH1.out _ q3).mono ?_; rintro e w4 ⟨A4, c4, xs, rfl, b4, own4, RJ⟩; have q4 := q3.trans (b4.mono q3.size); have rl4 := rl3.below' b4; have RJ' := Lib.hid RJ; clear RJ; have rr := Rd.of_own own4; rw [HM.out] at rr own4; rw [HM.out])
    | fail)
  obtain ⟨g, off, rfl, hg, hcell⟩ := rr.2 (by have := HMM.out; omega)
  obtain ⟨A', N', c', hxm, hN', rdx, _⟩ := RJ'.out.2 q x hL
  have hcm' := hcell q _ hxm
  have HC := Lib.hid hcm'
  have HS := Lib.hid (fun (W : World) (h : Below w4.heap.size w4 W) => HSH.out A' N' c' hN' W ((rdx.below h).more h.size) ((HT.out.below q4).below h))
  clear hcm' hcell hxm hN' rdx
  have hv0 : Below w4.heap.size w4 w4.drew := (Below.refl _ _).drew
  refine wp_region_late (fun W => Below w4.heap.size w4 W) [14, 15, 16] (by kernel_rfl) (hv0) (fun hHeld => ?_)
  refine wpAnyL_take (i := 0) (oi := { dst := some 92, op := Op.move (Operand.tmp 15), type := 48, pos := "ref.go:175", after := #[], guard := none }) (v := ?v0_1) rfl (by kernel_rfl) (by kernel_rfl) (by kernel_rfl) (by kernel_rfl) (fun _ _ _ h => h) (Or.inl ⟨by rfl, ?h0_1⟩) (by assumption) ?r0_1
  case h0_1 =>
    intro W hSW
    try dsimp only at hSW
    go_simp
    try with_reducible rfl
  try simp only [Act.put, List.setIfInBounds_toArray, List.set_cons_zero, List.set_cons_succ]
  refine wpAnyL_take (i := 1) (oi := { dst := some 93, op := Op.load 30 (Operand.tmp 10), type := 30, pos := "ref.go:175", after := #[], guard := none }) (v := _) rfl (by kernel_rfl) (by kernel_rfl) (by kernel_rfl) (by kernel_rfl) (fun _ _ _ h => h) (yi_row rfl _ (.tmp 10) rfl rfl (fun W hW => rl4.below' hW) Tryd.underlying30 (by rw [bvs_len, HLA.out]; exact size16)) (by assumption) ?_
  try simp only [Act.put, List.setIfInBounds_toArray, List.set_cons_zero, List.set_cons_succ]
  refine wpAnyL_take (i := 3) (oi := { dst := some 95, op := Op.move (Operand.tmp 15), type := 48, pos := "ref.go:175", after := #[], guard := none }) (v := ?v3_3) rfl (by kernel_rfl) (by kernel_rfl) (by kernel_rfl) (by kernel_rfl) (fun _ _ _ h => h) (Or.inl ⟨by rfl, ?h3_3⟩) (by assumption) ?r3_3
  case h3_3 =>
    intro W hSW
    try dsimp only at hSW
    go_simp
    try with_reducible rfl
  try simp only [Act.put, List.setIfInBounds_toArray, List.set_cons_zero, List.set_cons_succ]
  refine wpAnyL_take (i := 4) (oi := { dst := some 96, op := Op.move (Operand.tmp 15), type := 48, pos := "ref.go:175", after := #[], guard := none }) (v := ?v4_4) rfl (by kernel_rfl) (by kernel_rfl) (by kernel_rfl) (by kernel_rfl) (fun _ _ _ h => h) (Or.inl ⟨by rfl, ?h4_4⟩) (by assumption) ?r4_4
  case h4_4 =>
    intro W hSW
    try dsimp only at hSW
    go_simp
    try with_reducible rfl
  try simp only [Act.put, List.setIfInBounds_toArray, List.set_cons_zero, List.set_cons_succ]
  refine wpAnyL_take (i := 5) (oi := { dst := some 97, op := Op.call { callee := Callee.builtin Builtin.len, args := #[Operand.tmp 96], argTypes := #[48] }, type := 3, pos := "ref.go:175", after := #[{ on := 4, ground := Ground.data }], guard := none }) (v := ?v5_5) rfl (by kernel_rfl) (by kernel_rfl) (by kernel_rfl) (by kernel_rfl) (fun _ _ _ h => h) (Or.inl ⟨by rfl, ?h5_5⟩) (by assumption) ?r5_5
  case h5_5 =>
    intro W hSW
    try dsimp only at hSW
    go_simp
    try with_reducible rfl
  try simp only [Act.put, List.setIfInBounds_toArray, List.set_cons_zero, List.set_cons_succ]
  refine wpAnyL_take (i := 6) (oi := { dst := some 98, op := Op.binOp BinOp.sub 3 (Operand.tmp 97) (Operand.const (Value.int IntKind.i64 1)) 3, type := 3, pos := "ref.go:175", after := #[{ on := 5, ground := Ground.data }], guard := none }) (v := ?v6_6) rfl (by kernel_rfl) (by kernel_rfl) (by kernel_rfl) (by kernel_rfl) (fun _ _ _ h => h) (Or.inl ⟨by rfl, ?h6_6⟩) (by assumption) ?r6_6
  case h6_6 =>
    intro W hSW
    try dsimp only at hSW
    go_simp
    try with_reducible rfl
  try simp only [Act.put, List.setIfInBounds_toArray, List.set_cons_zero, List.set_cons_succ]
  refine wpAnyL_take (i := 7) (oi := { dst := some 99, op := Op.indexAddr 48 (Operand.tmp 95) (Operand.tmp 98), type := 0, pos := "ref.go:175", after := #[{ on := 3, ground := Ground.data }, { on := 6, ground := Ground.data }], guard := none }) (v := ?v7_7) rfl (by kernel_rfl) (by kernel_rfl) (by kernel_rfl) (by kernel_rfl) (fun _ _ _ h => h) (Or.inl ⟨by rfl, ?h7_7⟩) (by assumption) ?r7_7
  case h7_7 =>
    intro W hSW
    try dsimp only at hSW
    go_simp
    try with_reducible rfl
  try simp only [Act.put, List.setIfInBounds_toArray, List.set_cons_zero, List.set_cons_succ]
  refine wpAnyL_take (i := 8) (oi := { dst := some 100, op := Op.load 22 (Operand.tmp 99), type := 22, pos := "ref.go:175", after := #[{ on := 7, ground := Ground.data }], guard := none }) (v := ?v8_8) rfl (by kernel_rfl) (by kernel_rfl) (by kernel_rfl) (by kernel_rfl) (fun _ _ _ h => h) (Or.inl ⟨by rfl, ?h8_8⟩) (by assumption) ?r8_8
  case h8_8 =>
    intro W hSW
    try dsimp only at hSW
    have hcc := (hSW.cell (p := ⟨g, off + q, none⟩) hg).trans HC.out
    go_simp
    try with_reducible rfl
  try simp only [Act.put, List.setIfInBounds_toArray, List.set_cons_zero, List.set_cons_succ]
  refine wpAnyL_ready (rs := [2]) (by kernel_rfl) (by simp) ?_
  refine AllReadyL.cons (o := { dst := some 94, op := Op.call { callee := Callee.value (Operand.func 51), args := #[Operand.tmp 93], argTypes := #[30] }, type := 9, pos := "ref.go:175", after := #[{ on := 1, ground := Ground.data }], guard := none }) rfl (fun K hK => ?_) AllReadyL.nil
  go_simp
  refine (HTl.out w4.drew).mono ?_
  rintro e w5 ⟨rfl, b5⟩
  have hv5 : Below w4.heap.size w4 w5 := hv0.trans (b5.mono hv0.size)
  go_wp2_with fail
  refine hK.out _ _ (hv5) (fun hHeld => ?_)
  clear hK K
  try simp only [Act.put, List.setIfInBounds_toArray, List.set_cons_zero, List.set_cons_succ]
  refine wpAnyL_ready (rs := [9]) (by kernel_rfl) (by simp) ?_
  refine AllReadyL.cons (o := { dst := some 101, op := Op.call { callee := Callee.value (Operand.func 25), args := #[Operand.tmp 100], argTypes := #[22] }, type := 30, pos := "ref.go:175", after := #[{ on := 8, ground := Ground.data }, { on := 2, ground := Ground.chain }], guard := none }) rfl (fun K hK => ?_) AllReadyL.nil
  go_simp
  refine (HS.out _ hv5).mono ?_
  rintro e w6 ⟨rfl, b6⟩
  have hv6 : Below w4.heap.size w4 w6 := hv5.trans (b6.mono hv5.size)
  go_wp2_with fail
  refine hK.out _ _ (hv6) (fun hHeld => ?_)
  clear hK K
  try simp only [Act.put, List.setIfInBounds_toArray, List.set_cons_zero, List.set_cons_succ]
  refine wpAnyL_ready (rs := [10]) (by kernel_rfl) (by simp) ?_
  refine AllReadyL.cons (o := { dst := some 102, op := Op.call { callee := Callee.value (Operand.func 51), args := #[Operand.tmp 101], argTypes := #[30] }, type := 9, pos := "ref.go:175", after := #[{ on := 9, ground := Ground.data }, { on := 9, ground := Ground.chain }], guard := none }) rfl (fun K hK => ?_) AllReadyL.nil
  go_simp
  refine (HTx.out w6).mono ?_
  rintro e w7 ⟨rfl, b7⟩
  have hv7 : Below w4.heap.size w4 w7 := hv6.trans (b7.mono hv6.size)
  go_wp2_with fail
  refine hK.out _ _ (hv7) (fun hHeld => ?_)
  clear hK K
  try simp only [Act.put, List.setIfInBounds_toArray, List.set_cons_zero, List.set_cons_succ]
  refine wpAnyL_ready (rs := [11]) (by kernel_rfl) (by simp) ?_
  refine AllReadyL.cons (o := { dst := some 103, op := Op.buildSlice 28 2 #[(0, Operand.tmp 94), (1, Operand.tmp 102)], type := 28, pos := "ref.go:175", after := #[{ on := 2, ground := Ground.data }, { on := 10, ground := Ground.data }], guard := none }) rfl (fun K hK => ?_) AllReadyL.nil
  go_simp
  obtain ⟨w8, hw8⟩ : ∃ w', w7.alloc (.cells #[Value.string (Mk.str last), Value.string (Mk.str sx)] 9) = w' := ⟨_, rfl⟩
  rw [hw8]
  have hv8 : Below w4.heap.size w4 w8 := by rw [← hw8]; exact hv7.alloc hv7.size _
  have rds : Rd w8 w8.heap.size 1 (some ⟨w7.heap.size, 0, none⟩) 2 (svs [Mk.str last, Mk.str sx]) := by rw [← hw8, alloc_size1]; exact Rd.new w7 (svs [Mk.str last, Mk.str sx]) 9 2 (size := 1) rfl
  clear hw8
  refine hK.out _ _ (hv8) (fun hHeld => ?_)
  clear hK K
  try simp only [Act.put, List.setIfInBounds_toArray, List.set_cons_zero, List.set_cons_succ]
  refine wpAnyL_ready (rs := [12]) (by kernel_rfl) (by simp) ?_
  refine AllReadyL.cons (o := { dst := some 104, op := Op.call { callee := Callee.value (Operand.func 38), args := #[Operand.const (Value.int IntKind.i64 2), Operand.tmp 103], argTypes := #[3, 28] }, type := 22, pos := "ref.go:175", after := #[{ on := 11, ground := Ground.data }, { on := 10, ground := Ground.chain }], guard := none }) rfl (fun K hK => ?_) AllReadyL.nil
  go_simp
  refine (HIn.out _ _ _ rds).mono ?_
  rintro e w9 ⟨A5, c5, rfl, own5, b9⟩
  have hv9 : Below w4.heap.size w4 w9 := hv8.trans (b9.mono hv8.size)
  go_wp2_with fail
  refine hK.out _ _ (hv9) (fun hHeld => ?_)
  clear hK K
  try simp only [Act.put, List.setIfInBounds_toArray, List.set_cons_zero, List.set_cons_succ]
  refine wpAnyL_ready (rs := [13]) (by kernel_rfl) (by simp) ?_
  refine AllReadyL.cons (o := { dst := some 105, op := Op.buildSlice 48 1 #[(0, Operand.tmp 104)], type := 48, pos := "ref.go:175", after := #[{ on := 12, ground := Ground.data }], guard := none }) rfl (fun K hK => ?_) AllReadyL.nil
  go_simp
  obtain ⟨w10, hw10⟩ : ∃ w', w9.alloc (.cells #[Value.slice A5 N c5] 22) = w' := ⟨_, rfl⟩
  rw [hw10]
  have hv10 : Below w4.heap.size w4 w10 := by rw [← hw10]; exact hv9.alloc hv9.size _
  have rdo : Rd w10 w10.heap.size 1 (some ⟨w9.heap.size, 0, none⟩) 1 [Value.slice A5 N c5] := by rw [← hw10, alloc_size1]; exact Rd.one w9 (Value.slice A5 N c5) 22
  have own6 : w10.ownsRow w8.heap.size 5 1 (.slice A5 N c5) N (bvs nd) := by rw [← hw10]; exact own5.alloc _
  clear hw10
  refine hK.out _ _ (hv10) (fun hHeld => ?_)
  clear hK K
  try simp only [Act.put, List.setIfInBounds_toArray, List.set_cons_zero, List.set_cons_succ]
  refine wpAnyL_ready (rs := [14]) (by kernel_rfl) (by simp) ?_
  refine AllReadyL.late (o := { dst := some 106, op := Op.call { callee := Callee.builtin Builtin.append, args := #[Operand.tmp 92, Operand.tmp 105], argTypes := #[48, 48] }, type := 48, pos := "ref.go:175", after := #[{ on := 0, ground := Ground.data }, { on := 13, ground := Ground.data }, { on := 12, ground := Ground.chain }], guard := none }) rfl (by rfl) (fun K hK => ?_) AllReadyL.nil
  rw [if_pos (by rfl)]
  refine wp_app _ (.tmp 92) (.tmp 105) 48 rfl w.heap.size 22 _ 1 24 slicesE (some ⟨g, off, none⟩) M c4 xs rfl (own_base (own_below own4 hv10) q3.size) _ _ 1 1 [Value.slice A5 N c5] rfl rdo (by intro v hv; simp at hv; subst hv; rfl) (by have := HM.out; have := HQ.out; omega) (by have := HM.out; have := HQ.out; unfold maxLen; omega) (by have := hv10.size; have := q4.size; omega) ?_
  intro A7 c7 w11 own7 g7 hA7
  refine hK.out _ _ ?_
  clear hK K
  try simp only [Act.put, List.setIfInBounds_toArray, List.set_cons_zero, List.set_cons_succ]
  refine wpAnyL_takeE (i := 15) (oi := { dst := some 8, op := Op.assign (Operand.tmp 106), type := 48, pos := "ref.go:175", after := #[{ on := 14, ground := Ground.data }, { on := 14, ground := Ground.chain }, { on := 0, ground := Ground.phase }, { on := 1, ground := Ground.phase }, { on := 2, ground := Ground.phase }, { on := 3, ground := Ground.phase }, { on := 4, ground := Ground.phase }, { on := 5, ground := Ground.phase }, { on := 6, ground := Ground.phase }, { on := 7, ground := Ground.phase }, { on := 8, ground := Ground.phase }, { on := 9, ground := Ground.phase }, { on := 10, ground := Ground.phase }, { on := 11, ground := Ground.phase }, { on := 12, ground := Ground.phase }, { on := 13, ground := Ground.phase }, { on := 14, ground := Ground.phase }], guard := none }) (v := ?v15_9) rfl (by kernel_rfl) (by kernel_rfl) (by kernel_rfl) (by kernel_rfl) (fun _ _ _ h => h) (Or.inl ⟨by rfl, ?h15_9⟩) ?r15_9
  case h15_9 =>
    intro W
    go_simp
    try with_reducible rfl
  try simp only [Act.put, List.setIfInBounds_toArray, List.set_cons_zero, List.set_cons_succ]
  refine wpAnyL_takeE (i := 16) (oi := { dst := some 9, op := Op.assign (Operand.const (Value.bool true)), type := 4, pos := "ref.go:175", after := #[{ on := 15, ground := Ground.chain }, { on := 0, ground := Ground.phase }, { on := 1, ground := Ground.phase }, { on := 2, ground := Ground.phase }, { on := 3, ground := Ground.phase }, { on := 4, ground := Ground.phase }, { on := 5, ground := Ground.phase }, { on := 6, ground := Ground.phase }, { on := 7, ground := Ground.phase }, { on := 8, ground := Ground.phase }, { on := 9, ground := Ground.phase }, { on := 10, ground := Ground.phase }, { on := 11, ground := Ground.phase }, { on := 12, ground := Ground.phase }, { on := 13, ground := Ground.phase }, { on := 14, ground := Ground.phase }, { on := 15, ground := Ground.phase }], guard := none }) (v := ?v16_10) rfl (by kernel_rfl) (by kernel_rfl) (by kernel_rfl) (by kernel_rfl) (fun _ _ _ h => h) (Or.inl ⟨by rfl, ?h16_10⟩) ?r16_10
  case h16_10 =>
    intro W
    go_simp
    try with_reducible rfl
  try simp only [Act.put, List.setIfInBounds_toArray, List.set_cons_zero, List.set_cons_succ]
  refine wpAnyL_done (by kernel_rfl) ?_ _
  go_wp2_with fail
  have hok := refIn_push RJ'.out hv10 q4 own4 own7 g7 hA7 HN.out own6 hv8.size q3.size
  have hM' := HM.out
  subst hM'
  obtain ⟨A8, c8, xs8, he8, hb8, ho8, hr8⟩ := hok
  exact bodyPost_ret (results_tmp2 rfl _ _ _) rfl (show InOk _ _ _ _ _ from ⟨A8, c8, xs8, (by rw [← he8]; rfl), hb8, ho8, hr8⟩)
end Go.Proofs.YtfnbcchmembomaaDoor
