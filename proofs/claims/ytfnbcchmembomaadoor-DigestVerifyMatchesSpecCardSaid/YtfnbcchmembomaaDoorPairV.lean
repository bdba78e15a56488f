/- The reference's check of a prefix proof, whatever the proof: pairOf and VerifyPrefix. -/
import Derived.Test.YtfnbcchmembomaaDoorPairW
import Derived.Test.YtfnbcchmembomaaDoorVPre
namespace Go.Proofs.YtfnbcchmembomaaDoor
set_option linter.unusedVariables false
set_option linter.unusedSimpArgs false
open Go.RowKit
theorem refPair_any (old : List UInt8) (ho : old.length = 16) : ∀ (n m : Nat) (b : Bool) (pl c : Nat) (A : Option Addr) (proof : List (List UInt8)), proof.length = pl → D16 proof → 1 ≤ m → m ≤ n → n ≤ 9223372036854775807 → pl ≤ c → c ≤ 9223372036854775807 → pl ≤ 1099511627776 → ∀ (B : Nat) (w : World), Rd w B 16 A pl (dvs proof) → B ≤ w.heap.size → RTab w →
    Calls Tryd.prog 53 #[dv old, .int .i64 (m : Int), .int .i64 (n : Int), .bool b, .slice A pl c] w (PairRes (Mk.pairD old m n b proof) w) := by
  intro n
  induction n using Nat.strongRecOn with
  | ind n ih =>
    intro m b pl c A proof hpl hd hm1 hmn hn hpc hc hp40 B w hr hB hT
    by_cases hw : n ≤ m ∧ b = true
    · obtain ⟨h1, rfl⟩ := hw
      obtain rfl : m = n := by omega
      unfold Mk.pairD
      rw [Mk.pairF_whole m old m m proof h1]
      have := pair_whole old ho m A pl c w
      have e : decide (pl = 0) = proof.isEmpty := by
        cases proof with
        | nil => simp at hpl; simp [hpl]
        | cons x p => simp at hpl; simp; omega
      rw [e] at this
      exact this
    · rcases Mk.snoc_cases proof with rfl | ⟨rest, last, rfl⟩
      · simp at hpl
        subst hpl
        unfold Mk.pairD
        rw [Mk.pairF_nil n old m n b hw]
        exact pair_none old ho m n b (fun h => hw ⟨by omega, h.2⟩) A c w
      · obtain ⟨q, rfl⟩ : ∃ q, pl = q + 1 := ⟨rest.length, by simpa using hpl.symm⟩
        have hrl : rest.length = q := by simpa using hpl
        obtain ⟨bp, offp, rfl, hbp, _⟩ := hr.2 (by omega)
        have hl16 : last.length = 16 := hd last (by simp)
        have hdr : D16 rest := fun d h => hd d (by simp [h])
        have hrg : w.rangeAt bp (offp + q * 16) (bvs last) := by
          have := Rd.ranges hd hpl hr q (by omega)
          have e : (rest ++ [last]).getD q [] = last := by rw [List.getD, List.getElem?_append_right (by omega), hrl]; simp
          rwa [e] at this
        have hrr : Rd w B 16 (some ⟨bp, offp, none⟩) q (dvs rest) := by
          have := hr.first hd (k := q) (by omega)
          rwa [List.take_left' hrl] at this
        by_cases h1 : n ≤ m
        · obtain rfl : m = n := by omega
          have hb : b = false := by
            cases b with
            | true => exact absurd ⟨h1, rfl⟩ hw
            | false => rfl
          subst hb
          unfold Mk.pairD
          rw [Mk.pairF_end m old m m rest last h1]
          have := pair_end old ho m q c bp offp last hl16 hpc (by omega) hc w hrg (by omega)
          have e : decide (q = 0) = rest.isEmpty := by
            cases rest with
            | nil => simp at hrl; simp [← hrl]
            | cons x p => simp at hrl; simp; omega
          rw [e] at this
          exact this
        · have hs1 := Mk.split_pos n
          have hs2 := Mk.split_lt (n := n) (by omega)
          by_cases h4 : m ≤ Mk.split n
          · rw [Mk.pairD_lo old m n b rest last hm1 h1 h4]
            have h16 := Mk.pairD_16 old m (Mk.split n) b rest ho hdr
            have hI := fun (W : World) (hW : Below w.heap.size w W) => ih (Mk.split n) hs2 m b q c (some ⟨bp, offp, none⟩) rest hrl hdr hm1 h4 (by omega) (by omega) hc (by omega) B W (hrr.below (hW.mono hB)) (Nat.le_trans hB hW.size) (hT.below hW)
            generalize Mk.pairD old m (Mk.split n) b rest = P at *
            obtain ⟨⟨x, y⟩, ok⟩ := P
            exact pair_lo old ho m n q c bp offp b hm1 (by omega) hn h4 last hl16 hpc (by omega) hc w hrg (by omega) hT x y ok h16.1 h16.2 hI
          · rw [Mk.pairD_hi old m n b rest last hm1 h1 h4]
            have h16 := Mk.pairD_16 old (m - Mk.split n) (n - Mk.split n) false rest ho hdr
            have hI := fun (W : World) (hW : Below w.heap.size w W) => ih (n - Mk.split n) (by omega) (m - Mk.split n) false q c (some ⟨bp, offp, none⟩) rest hrl hdr (by omega) (by omega) (by omega) (by omega) hc (by omega) B W (hrr.below (hW.mono hB)) (Nat.le_trans hB hW.size) (hT.below hW)
            rw [show ((m - Mk.split n : Nat) : Int) = (m : Int) - (Mk.split n : Int) from by omega, show ((n - Mk.split n : Nat) : Int) = (n : Int) - (Mk.split n : Int) from by omega] at hI
            generalize Mk.pairD old (m - Mk.split n) (n - Mk.split n) false rest = P at *
            obtain ⟨⟨x, y⟩, ok⟩ := P
            exact pair_hi old ho m n q c bp offp b hm1 (by omega) hn h4 last hl16 hpc (by omega) hc w hrg (by omega) hT x y ok h16.1 h16.2 hI
/-- a load of a part of a row under a guard that is met -/
theorem wpList_loadMidG {P : Program} {w : World} {ops : Array Oper} {rest : List Oper} {o : Oper} {a : Act} {Q : Exit → Act → World → Prop} (hw : Region.wanted o (yielded ops a.tmps) = true) (ty : TypeId) (x : Operand) (ho : o.op = .load ty x) (b off : Nat) {n e : Nat} {l : List Value} (hr : w.rangeAt b off l) (hx : a.eval x = .pointer (some ⟨b, off, none⟩))
    (hu : P.underlying ty = some (.array n e)) (hi : (P.info? ty).map (·.size) = some l.length) (h : wpList P ops Q rest (a.put o.dst (.agg l.toArray)) w) : wpList P ops Q (o :: rest) a w :=
  wpList_step fun K hK => by
    rw [if_pos hw]
    exact wp_load_mid ty x ho b off hx l _ hr hu rfl hi (hK _ _ h)
set_option maxRecDepth 100000 in
set_option maxHeartbeats 1000000 in
theorem refVPre_out (n m : Int) (hi : m < 1 ∨ n < m) (old r : List UInt8) (P : Value) (w : World) :
    Calls Tryd.prog 29 #[dv old, dv r, .int .i64 m, .int .i64 n, P] w fun e w' => e = .returned (.bool false) ∧ Below w.heap.size w w' := by
  have hbw : Below w.heap.size w ((w.alloc (.cells (bvs old).toArray 30)).alloc (.cells (bvs r).toArray 30)) := ((Below.refl _ w).alloc (Nat.le_refl _) _).alloc (by rw [alloc_size1]; omega) _
  by_cases h0 : m < 1
  · go_enter Tryd.func29, Tryd.ntmps29
    go_wp2
    exact bodyPost_ret (results_tmp rfl _ _ _) rfl ⟨rfl, hbw⟩
  · have h1 : n < m := by omega
    go_enter Tryd.func29, Tryd.ntmps29
    go_wp2
    exact bodyPost_ret (results_tmp rfl _ _ _) rfl ⟨rfl, hbw⟩
set_option maxRecDepth 100000 in
set_option maxHeartbeats 2000000 in
theorem refVPre_in (n m : Nat) (hm1 : 1 ≤ m) (hmn : m ≤ n) (hn : n ≤ 9223372036854775807) (old r : List UInt8) (ho : old.length = 16) (hr : r.length = 16) (A : Option Addr) (pl c : Nat) (hpc : pl ≤ c) (hcm : c ≤ 9223372036854775807) (hp40 : pl ≤ 1099511627776) (proof : List (List UInt8)) (hpl : proof.length = pl) (hp : D16 proof) (B : Nat) (w : World) (hrd : Rd w B 16 A pl (dvs proof)) (hB : B ≤ w.heap.size) (hT : RTab w) :
    Calls Tryd.prog 29 #[dv old, dv r, .int .i64 (m : Int), .int .i64 (n : Int), .slice A pl c] w fun e w' => e = .returned (.bool (Mk.verifyN old r m n proof)) ∧ Below w.heap.size w w' := by
  have hv := Mk.verifyN_pair old r m n proof hm1 hmn
  have h16 := Mk.pairD_16 old m n true proof ho hp
  have hI := fun (W : World) (hW : Below w.heap.size w W) => refPair_any old ho n m true pl c A proof hpl hp hm1 hmn hn hpc hcm hp40 B W (hrd.below (hW.mono hB)) (Nat.le_trans hB hW.size) (hT.below hW)
  generalize Mk.pairD old m n true proof = P at *
  obtain ⟨⟨x, y⟩, ok⟩ := P
  obtain ⟨res, hres⟩ : ∃ res, Mk.verifyN old r m n proof = res := ⟨_, rfl⟩
  rw [hres] at hv ⊢
  dsimp only at hv h16
  have HI := Lib.hid hI
  have HX := Lib.hid h16.1
  have HY := Lib.hid h16.2
  have HO := Lib.hid ho
  have HR := Lib.hid hr
  have hq1 : ∀ W, (binOp .eql 30 (.agg (bvs x).toArray) (.agg (bvs old).toArray)).run Tryd.prog W = .ok (.bool (x == old)) W := fun W => run_eql_digE W HX.out HO.out
  have hq2 : ∀ W, (binOp .eql 30 (.agg (bvs y).toArray) (.agg (bvs r).toArray)).run Tryd.prog W = .ok (.bool (y == r)) W := fun W => run_eql_digE W HY.out HR.out
  generalize (x == old) = e1 at *
  generalize (y == r) = e2 at *
  have h2 := rows2 w 30 30 (bvs old) (bvs r)
  have hbw : Below w.heap.size w ((w.alloc (.cells (bvs old).toArray 30)).alloc (.cells (bvs r).toArray 30)) := ((Below.refl _ w).alloc (Nat.le_refl _) _).alloc (by rw [alloc_size1]; omega) _
  obtain ⟨W0, hW0⟩ : ∃ W0, ((w.alloc (.cells (bvs old).toArray 30)).alloc (.cells (bvs r).toArray 30)) = W0 := ⟨_, rfl⟩
  rw [hW0] at h2 hbw
  have r5 := h2.1
  have r6 := h2.2
  have HW0 := Lib.hid hW0
  have i0 : ¬ ((m : Int) < 1) := by omega
  have i1 : ¬ ((n : Int) < (m : Int)) := by omega
  have HV := Lib.hid hv
  clear hI h16 ho hr h2 hW0 hrd hT hpl hp hres hv
  cases ok with
  | false =>
    go_enter Tryd.func29, Tryd.ntmps29
    go_wp2_with (first
      | (refine wpList_loadRow rfl _ (.tmp 5) rfl (by rw [HW0.out]; exact r5) rfl Tryd.underlying30 (by rw [bvs_len, HO.out]; exact size16) ?_; rw [HW0.out])
      | (go_at_call 53; refine (HI.out _ hbw).mono ?_; rintro e w1 ⟨rfl, b1⟩; have q1 := hbw.trans (b1.mono hbw.size))
      | (refine wpList_allocRow rfl _ rfl _ info33 ?_; intro w2 r2 b2 z2; have q2 := q1.trans (b2.mono q1.size); clear z2)
      | (refine wpList_storeRow rfl _ (.tmp 11) (.tmp 23) rfl r2 rfl rfl (by rw [pcs_len _ _ _ HX.out HY.out]; exact size33) (by rw [pcs_len _ _ _ HX.out HY.out]; rfl) (pcs_all _ _ _) ?_; intro w3 r3 g3 z3; have hok := (pair_rows r3 HX.out HY.out).2.2; have q3 := q2.grown g3 q2.size (fun j hj => by have hj := Option.some.inj hj; have := q1.size; omega); clear z3)
      | fail)
    have hre := HV.out
    subst hre
    exact bodyPost_ret (results_tmp rfl _ _ _) rfl ⟨rfl, q3⟩
  | true =>
    cases e1 with
    | false =>
      go_enter Tryd.func29, Tryd.ntmps29
      go_wp2_with (first
        | (refine wpList_loadRow rfl _ (.tmp 5) rfl (by rw [HW0.out]; exact r5) rfl Tryd.underlying30 (by rw [bvs_len, HO.out]; exact size16) ?_; rw [HW0.out])
        | (go_at_call 53; refine (HI.out _ hbw).mono ?_; rintro e w1 ⟨rfl, b1⟩; have q1 := hbw.trans (b1.mono hbw.size); have r51 := r5.below' b1)
        | (refine wpList_allocRow rfl _ rfl _ info33 ?_; intro w2 r2 b2 z2; have q2 := q1.trans (b2.mono q1.size); have r52 := r51.below' b2; clear z2)
        | (refine wpList_storeRow rfl _ (.tmp 11) (.tmp 23) rfl r2 rfl rfl (by rw [pcs_len _ _ _ HX.out HY.out]; exact size33) (by rw [pcs_len _ _ _ HX.out HY.out]; rfl) (pcs_all _ _ _) ?_; intro w3 r3 g3 z3; obtain ⟨hx0, hy0, hok⟩ := pair_rows r3 HX.out HY.out; have r53 := r52.grown g3 (fun e => by have e := Option.some.inj e; have := r51.lt; omega); have q3 := q2.grown g3 q2.size (fun j hj => by have hj := Option.some.inj hj; have := q1.size; omega); clear z3)
        | (refine wpList_loadMidG rfl _ (.tmp 27) rfl _ 0 hx0 rfl Tryd.underlying30 (by rw [bvs_len, HX.out]; exact size16) ?_)
        | (refine wpList_loadRowG rfl _ (.tmp 5) rfl r53 rfl Tryd.underlying30 (by rw [bvs_len, HO.out]; exact size16) ?_)
        | fail)
      have hre := HV.out
      subst hre
      exact bodyPost_ret (results_tmp rfl _ _ _) rfl ⟨rfl, q3⟩
    | true =>
      go_enter Tryd.func29, Tryd.ntmps29
      go_wp2_with (first
        | (refine wpList_loadRow rfl _ (.tmp 5) rfl (by rw [HW0.out]; exact r5) rfl Tryd.underlying30 (by rw [bvs_len, HO.out]; exact size16) ?_; rw [HW0.out])
        | (go_at_call 53; refine (HI.out _ hbw).mono ?_; rintro e w1 ⟨rfl, b1⟩; have q1 := hbw.trans (b1.mono hbw.size); have r51 := r5.below' b1; have r61 := r6.below' b1)
        | (refine wpList_allocRow rfl _ rfl _ info33 ?_; intro w2 r2 b2 z2; have q2 := q1.trans (b2.mono q1.size); have r52 := r51.below' b2; have r62 := r61.below' b2; clear z2)
        | (refine wpList_storeRow rfl _ (.tmp 11) (.tmp 23) rfl r2 rfl rfl (by rw [pcs_len _ _ _ HX.out HY.out]; exact size33) (by rw [pcs_len _ _ _ HX.out HY.out]; rfl) (pcs_all _ _ _) ?_; intro w3 r3 g3 z3; obtain ⟨hx0, hy0, hok⟩ := pair_rows r3 HX.out HY.out; have r53 := r52.grown g3 (fun e => by have e := Option.some.inj e; have := r51.lt; omega); have r63 := r62.grown g3 (fun e => by have e := Option.some.inj e; have := r61.lt; omega); have q3 := q2.grown g3 q2.size (fun j hj => by have hj := Option.some.inj hj; have := q1.size; omega); clear z3)
        | (refine wpList_loadMidG rfl _ (.tmp 27) rfl _ 0 hx0 rfl Tryd.underlying30 (by rw [bvs_len, HX.out]; exact size16) ?_)
        | (refine wpList_loadRowG rfl _ (.tmp 5) rfl r53 rfl Tryd.underlying30 (by rw [bvs_len, HO.out]; exact size16) ?_)
        | (refine wpList_loadMidG rfl _ (.tmp 33) rfl _ 16 hy0 rfl Tryd.underlying30 (by rw [bvs_len, HY.out]; exact size16) ?_)
        | (refine wpList_loadRowG rfl _ (.tmp 6) rfl r63 rfl Tryd.underlying30 (by rw [bvs_len, HR.out]; exact size16) ?_)
        | fail)
      have hre := HV.out
      subst hre
      exact bodyPost_ret (results_tmp rfl _ _ _) rfl ⟨rfl, q3⟩
end Go.Proofs.YtfnbcchmembomaaDoor
