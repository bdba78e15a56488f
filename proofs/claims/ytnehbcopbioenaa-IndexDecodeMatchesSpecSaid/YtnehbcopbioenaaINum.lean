/- The readers' number, the program's and the reference's. -/
import Derived.Test.YtnehbcopbioenaaIEnc2
import Derived.Test.YtnehbcopbioenaaWireGetInt
import Derived.Test.YtnehbcopbioenaaWireDec
namespace Go.Proofs.Ytnehbcopbioenaa
set_option linter.unusedVariables false
set_option linter.unusedSimpArgs false
open Go.RowKit Go.ChangeMaps

theorem wGet_len (A : Option Addr) (c n0 : Nat) (b : List UInt8) (w : World) (B : Nat) (hn0 : b.length = n0) (hr : Rd w B 1 A n0 (bvs b)) (hL : n0 ≤ 1099511627776) (hc : n0 ≤ c) (hcm : c ≤ maxLen)
    (n : Int) (u : Nat) (er : Int) (hd : Wire.dec b = (n, u, er)) (hB : B ≤ w.heap.size) :
    Calls Try.prog 41 #[.slice A n0 c] w fun e w' => e = .returned (.tuple #[.int .i64 n, .int .i64 u, .int .i64 er]) ∧ Below w.heap.size w w' := by
  subst hn0
  refine (wireGetInt_any A c b w B hr hL hc hcm n u er hd).mono ?_
  rintro e w' ⟨rfl, rfl⟩
  exact ⟨rfl, Below.refl _ _⟩
theorem rGet_len (A : Option Addr) (c n0 : Nat) (b : List UInt8) (w : World) (B : Nat) (hn0 : b.length = n0) (hr : Rd w B 1 A n0 (bvs b)) (hL : n0 ≤ 1099511627776) (hc : n0 ≤ c) (hcm : c ≤ maxLen)
    (n : Int) (u : Nat) (er : Int) (hd : Wire.dec b = (n, u, er)) (hB : B ≤ w.heap.size) :
    Calls Try.prog 42 #[.slice A n0 c] w fun e w' => e = .returned (.tuple #[.int .i64 n, .int .i64 u, .int .i64 er]) ∧ Below w.heap.size w w' := by
  subst hn0; exact refGetInt_any A c b w B hB hr hL hc hcm n u er hd

/-- a reader lies in block rb, behind block B: it reads the bytes b, its first error is e -/
def RdrAt (w : World) (T : TypeId) (rb B : Nat) (b : List UInt8) (e : Int) : Prop :=
  ∃ A n c, w.heap[rb]? = some (.cells #[.slice A n c, .int .i64 e] T) ∧ b.length = n ∧ n ≤ c ∧ c ≤ maxLen ∧ Rd w B 1 A n (bvs b) ∧ B ≤ rb
theorem RdrAt.keep {w w' : World} {T : TypeId} {rb B : Nat} {b : List UInt8} {e : Int} {S : Nat → Prop} (h : RdrAt w T rb B b e) (hk : Keep S w w') (h1 : ¬ S rb) (h2 : ∀ k, k < B → ¬ S k) : RdrAt w' T rb B b e := by
  obtain ⟨A, n, c, hb, hn, hc, hm, hr, hB⟩ := h
  have hlt := (Array.getElem?_eq_some_iff.1 hb).1
  exact ⟨A, n, c, (hk.block rb hlt h1).trans hb, hn, hc, hm, hr.keep fun p hp => hk.cell (by omega) (h2 _ hp), hB⟩
theorem RdrAt.below {w w' : World} {T : TypeId} {rb B : Nat} {b : List UInt8} {e : Int} (h : RdrAt w T rb B b e) (hb : Below w.heap.size w w') : RdrAt w' T rb B b e := h.keep (S := fun _ => False) (Keep.of_below hb) id fun _ _ h => h
theorem RdrAt.lt {w : World} {T : TypeId} {rb B : Nat} {b : List UInt8} {e : Int} (h : RdrAt w T rb B b e) : rb < w.heap.size := by
  obtain ⟨A, n, c, hb, _⟩ := h; exact (Array.getElem?_eq_some_iff.1 hb).1
theorem RdrAt.cellE {w : World} {T : TypeId} {rb B : Nat} {b : List UInt8} {e : Int} (h : RdrAt w T rb B b e) : w.cell? ⟨rb, 1, none⟩ = some (.int .i64 e) := by
  obtain ⟨A, n, c, hb, _⟩ := h; rw [cell_of_row _ _ _ _ _ _ hb]; rfl
theorem RdrAt.setE {w : World} {T : TypeId} {rb B : Nat} {b : List UInt8} {e : Int} (h : RdrAt w T rb B b e) (e' : Int) : RdrAt (w.setCell ⟨rb, 1, none⟩ (.int .i64 e')) T rb B b e' := by
  obtain ⟨A, n, c, hb, hn, hc, hm, hr, hB⟩ := h
  exact ⟨A, n, c, heap_setCell_same w rb 1 _ _ _ hb, hn, hc, hm, hr.setCell (p := ⟨rb, 1, none⟩) hB _, hB⟩
theorem RdrAt.frozen {w : World} {T : TypeId} {rb B : Nat} {b : List UInt8} {e : Int} (h : RdrAt w T rb B b e) (k : Nat) : w.frozen? ⟨rb, k, none⟩ = false := by
  obtain ⟨A, n, c, hb, _⟩ := h; exact frozen_of_row _ _ _ _ _ hb
theorem setE_keep (w : World) (rb : Nat) (k : Nat) (v : Value) : Keep (fun k => k = rb) w (w.setCell ⟨rb, k, none⟩ v) := Keep.setCell (S := fun k => k = rb) (Keep.refl _ w) (a := ⟨rb, k, none⟩) (.inl rfl) v

set_option maxHeartbeats 1600000 in
theorem number_any (rb B : Nat) (b : List UInt8) (e lo hi : Int) (hL : b.length ≤ 1099511627776) (w : World) (h : RdrAt w 75 rb B b e) :
    Calls Try.prog 37 #[.pointer (some ⟨rb, 0, none⟩), .int .i64 lo, .int .i64 hi] w fun e' w' => e' = .returned (.int .i64 (num b e lo hi).1) ∧ RdrAt w' 75 rb B (num b e lo hi).2.1 (num b e lo hi).2.2 ∧ Keep (fun k => k = rb) w w' := by
  have hce := h.cellE
  by_cases he : e = 0
  · subst he
    obtain ⟨A, n, c, hb, hn, hc, hm, hr, hB⟩ := h
    have hcs : w.cell? ⟨rb, 0, none⟩ = some (.slice A n c) := by rw [cell_of_row _ _ _ _ _ _ hb]; rfl
    have hlt := (Array.getElem?_eq_some_iff.1 hb).1
    obtain ⟨x, u, er, hd⟩ : ∃ x u er, Wire.dec b = (x, u, er) := ⟨_, _, _, rfl⟩
    have HG := Lib.hid (wGet_len A c n b w B hn hr (by omega) hc hm x u er hd (by omega))
    have HB := Lib.hid hb
    have HN := Lib.hid hn
    have HD := Lib.hid hd
    clear hb hn hd
    by_cases her : er = 0
    · subst her
      by_cases hlo : x < lo ∨ hi < x
      · have hnum : Hid (num b 0 lo hi = (0, b, 6)) := by show _ = _; unfold num; rw [if_pos rfl, HD.out]; simp only [if_true]; rw [if_pos hlo]
        rw [hnum.out]
        by_cases h1 : x < lo
        all_goals
          go_enter Try.func37, Try.ntmps37
          go_wp2_with fail
          refine HG.out.mono ?_
          rintro e' w1 ⟨rfl, b1⟩
          have hR1 : RdrAt w1 75 rb B b 0 := RdrAt.below ⟨A, n, c, HB.out, HN.out, hc, hm, hr, hB⟩ b1
          have hce1 := hR1.cellE
          have hfz := hR1.frozen 1
          first
          | have h2 : hi < x := by omega
          | skip
          go_wp2
          go_ret
          exact ⟨rfl, hR1.setE 6, (Keep.of_below b1).trans (setE_keep w1 rb 1 _)⟩
      · have hnum : Hid (num b 0 lo hi = (x, b.drop u, 0)) := by show _ = _; unfold num; rw [if_pos rfl, HD.out]; simp only [if_true]; rw [if_neg hlo]
        rw [hnum.out]
        obtain ⟨r1, r2, r3, r4, r5, _⟩ := Wire.dec_ok HD.out
        rw [HN.out] at r5
        have h1 : ¬ x < lo := by omega
        have h2 : ¬ hi < x := by omega
        have hrc := hr.cut (k := u) r5 hc
        have hsl := fun w => run_cutFrom (P := Try.prog) w bytesE A n c u .i64 r5
        obtain ⟨A', hA'⟩ : ∃ A', (if c = u then A else A.map (·.add (u * 1))) = A' := ⟨_, rfl⟩
        rw [hA'] at hrc
        have hu0 : (0 : Int) ≤ u := by omega
        have hu1 : (u : Int) ≤ n := by omega
        rw [Nat.mul_one] at hrc hA'
        simp only [Nat.mul_one, hA'] at hsl
        clear hA'
        go_enter Try.func37, Try.ntmps37
        go_wp2_with fail
        refine HG.out.mono ?_
        rintro e' w1 ⟨rfl, b1⟩
        have hR1 : RdrAt w1 75 rb B b 0 := RdrAt.below ⟨A, n, c, HB.out, HN.out, hc, hm, hr, hB⟩ b1
        have hce1 := hR1.cellE
        have hcs1 : w1.cell? ⟨rb, 0, none⟩ = some (.slice A n c) := (b1.cell (p := ⟨rb, 0, none⟩) hlt).trans hcs
        have hfz := hR1.frozen 1
        have hfz0 := hR1.frozen 0
        have hb1 := (b1.block rb hlt).trans HB.out
        have HB1 := Lib.hid hb1
        have hrc1 := hrc.keep fun p hp => b1.cell (p := p) (by omega)
        clear hb1 hce hcs
        go_wp2
        go_ret
        refine ⟨rfl, ⟨A', n - u, c - u, ?_, by rw [List.length_drop, HN.out], by omega, by omega, ?_, hB⟩, ((Keep.of_below b1).trans (setE_keep w1 rb 1 _)).trans (setE_keep _ rb 0 _)⟩
        · have h3 := heap_setCell_same w1 rb 1 _ _ (.int .i64 0) HB1.out
          exact heap_setCell_same _ rb 0 _ _ (.slice A' (n - u) (c - u)) h3
        · rw [bvs, List.map_drop]
          exact (hrc1.setCell (p := ⟨rb, 1, none⟩) hB _).setCell (p := ⟨rb, 0, none⟩) hB _

    · have hnum : Hid (num b 0 lo hi = (0, b, er)) := by show _ = _; unfold num; rw [if_pos rfl, HD.out]; simp only; rw [if_neg her]
      rw [hnum.out]
      have her' : (er == 0) = false := by simpa using her
      have her2 : (er != 0) = true := by simpa using her
      clear her
      go_enter Try.func37, Try.ntmps37
      go_wp2_with fail
      refine HG.out.mono ?_
      rintro e' w1 ⟨rfl, b1⟩
      have hR1 : RdrAt w1 75 rb B b 0 := RdrAt.below ⟨A, n, c, HB.out, HN.out, hc, hm, hr, hB⟩ b1
      have hce1 := hR1.cellE
      have hfz := hR1.frozen 1
      go_wp2
      go_ret
      exact ⟨rfl, hR1.setE er, (Keep.of_below b1).trans (setE_keep w1 rb 1 _)⟩
  · have hnum : Hid (num b e lo hi = (0, b, e)) := num_stop he
    rw [hnum.out]
    have he' : (e != 0) = true := by simpa using he
    clear he
    go_enter Try.func37, Try.ntmps37
    go_wp2
    go_ret
    exact ⟨rfl, h, Keep.refl _ _⟩

set_option maxHeartbeats 1600000 in
theorem refNumber_any (rb B : Nat) (b : List UInt8) (e lo hi : Int) (hL : b.length ≤ 1099511627776) (w : World) (h : RdrAt w 80 rb B b e) :
    Calls Try.prog 39 #[.pointer (some ⟨rb, 0, none⟩), .int .i64 lo, .int .i64 hi] w fun e' w' => e' = .returned (.int .i64 (num b e lo hi).1) ∧ RdrAt w' 80 rb B (num b e lo hi).2.1 (num b e lo hi).2.2 ∧ Keep (fun k => k = rb) w w' := by
  have hce := h.cellE
  by_cases he : e = 0
  · subst he
    obtain ⟨A, n, c, hb, hn, hc, hm, hr, hB⟩ := h
    have hcs : w.cell? ⟨rb, 0, none⟩ = some (.slice A n c) := by rw [cell_of_row _ _ _ _ _ _ hb]; rfl
    have hlt := (Array.getElem?_eq_some_iff.1 hb).1
    obtain ⟨x, u, er, hd⟩ : ∃ x u er, Wire.dec b = (x, u, er) := ⟨_, _, _, rfl⟩
    have HG := Lib.hid (rGet_len A c n b w B hn hr (by omega) hc hm x u er hd (by omega))
    have HB := Lib.hid hb
    have HN := Lib.hid hn
    have HD := Lib.hid hd
    clear hb hn hd
    by_cases her : er = 0
    · subst her
      by_cases hlo : x < lo ∨ hi < x
      · have hnum : Hid (num b 0 lo hi = (0, b, 6)) := by show _ = _; unfold num; rw [if_pos rfl, HD.out]; simp only [if_true]; rw [if_pos hlo]
        rw [hnum.out]
        by_cases h1 : x < lo
        all_goals
          go_enter Try.func39, Try.ntmps39
          go_wp2_with fail
          refine HG.out.mono ?_
          rintro e' w1 ⟨rfl, b1⟩
          have hR1 : RdrAt w1 80 rb B b 0 := RdrAt.below ⟨A, n, c, HB.out, HN.out, hc, hm, hr, hB⟩ b1
          have hce1 := hR1.cellE
          have hfz := hR1.frozen 1
          first
          | have h2 : hi < x := by omega
          | skip
          go_wp2
          go_ret
          exact ⟨rfl, hR1.setE 6, (Keep.of_below b1).trans (setE_keep w1 rb 1 _)⟩
      · have hnum : Hid (num b 0 lo hi = (x, b.drop u, 0)) := by show _ = _; unfold num; rw [if_pos rfl, HD.out]; simp only [if_true]; rw [if_neg hlo]
        rw [hnum.out]
        obtain ⟨r1, r2, r3, r4, r5, _⟩ := Wire.dec_ok HD.out
        rw [HN.out] at r5
        have h1 : ¬ x < lo := by omega
        have h2 : ¬ hi < x := by omega
        have hrc := hr.cut (k := u) r5 hc
        have hsl := fun w => run_cutFrom (P := Try.prog) w bytesE A n c u .i64 r5
        obtain ⟨A', hA'⟩ : ∃ A', (if c = u then A else A.map (·.add (u * 1))) = A' := ⟨_, rfl⟩
        rw [hA'] at hrc
        have hu0 : (0 : Int) ≤ u := by omega
        have hu1 : (u : Int) ≤ n := by omega
        rw [Nat.mul_one] at hrc hA'
        simp only [Nat.mul_one, hA'] at hsl
        clear hA'
        go_enter Try.func39, Try.ntmps39
        go_wp2_with fail
        refine HG.out.mono ?_
        rintro e' w1 ⟨rfl, b1⟩
        have hR1 : RdrAt w1 80 rb B b 0 := RdrAt.below ⟨A, n, c, HB.out, HN.out, hc, hm, hr, hB⟩ b1
        have hce1 := hR1.cellE
        have hcs1 : w1.cell? ⟨rb, 0, none⟩ = some (.slice A n c) := (b1.cell (p := ⟨rb, 0, none⟩) hlt).trans hcs
        have hfz := hR1.frozen 1
        have hfz0 := hR1.frozen 0
        have hb1 := (b1.block rb hlt).trans HB.out
        have HB1 := Lib.hid hb1
        have hrc1 := hrc.keep fun p hp => b1.cell (p := p) (by omega)
        clear hb1 hce hcs
        go_wp2
        go_ret
        refine ⟨rfl, ⟨A', n - u, c - u, heap_setCell_same w1 rb 0 _ _ _ HB1.out, by rw [List.length_drop, HN.out], by omega, by omega, ?_, hB⟩, (Keep.of_below b1).trans (setE_keep w1 rb 0 _)⟩
        rw [bvs, List.map_drop]
        exact hrc1.setCell (p := ⟨rb, 0, none⟩) hB _

    · have hnum : Hid (num b 0 lo hi = (0, b, er)) := by show _ = _; unfold num; rw [if_pos rfl, HD.out]; simp only; rw [if_neg her]
      rw [hnum.out]
      have her' : (er == 0) = false := by simpa using her
      have her2 : (er != 0) = true := by simpa using her
      clear her
      go_enter Try.func39, Try.ntmps39
      go_wp2_with fail
      refine HG.out.mono ?_
      rintro e' w1 ⟨rfl, b1⟩
      have hR1 : RdrAt w1 80 rb B b 0 := RdrAt.below ⟨A, n, c, HB.out, HN.out, hc, hm, hr, hB⟩ b1
      have hce1 := hR1.cellE
      have hfz := hR1.frozen 1
      go_wp2
      go_ret
      exact ⟨rfl, hR1.setE er, (Keep.of_below b1).trans (setE_keep w1 rb 1 _)⟩
  · have hnum : Hid (num b e lo hi = (0, b, e)) := num_stop he
    rw [hnum.out]
    have he' : (e != 0) = true := by simpa using he
    clear he
    go_enter Try.func39, Try.ntmps39
    go_wp2
    go_ret
    exact ⟨rfl, h, Keep.refl _ _⟩
end Go.Proofs.Ytnehbcopbioenaa
