/- Layer 35's Decode: the program's reader: check, number, list. Conditions: the bytes lie before the reader's variable. -/
import Derived.Test.YtkjomnakolhdcaaDoorBilDp
import Derived.Test.YtkjomnakolhdcaaDoorBilW1
namespace Go.Proofs.YtkjomnakolhdcaaDoor
set_option linter.unusedVariables false
set_option linter.unusedSimpArgs false
open Go.RowKit
/-- the program's reader in memory -/
structure PSt (w : World) (br : Nat) (b : List UInt8) (e : Int) : Prop where
  row : ∃ A n c, IsRow w br 100 [.slice A n c, .int .i64 e] ∧ b.length = n ∧ n ≤ c ∧ c ≤ maxLen ∧ n ≤ 1099511627776 ∧ Rd w br 1 A n (bvs b)
theorem PSt.lt {w : World} {br : Nat} {b : List UInt8} {e : Int} (h : PSt w br b e) : br < w.heap.size := by obtain ⟨A, n, c, h, _⟩ := h.row; exact h.lt
theorem PSt.below {w w' : World} {br : Nat} {b : List UInt8} {e : Int} (h : PSt w br b e) (hb : Below w.heap.size w w') : PSt w' br b e := by
  obtain ⟨A, n, c, h1, h2, h3, h4, h5, h6⟩ := h.row
  exact ⟨A, n, c, h1.below' hb, h2, h3, h4, h5, h6.below (hb.mono (Nat.le_of_lt h1.lt))⟩
theorem PSt.keeps {S : Nat → Prop} {w w' : World} {br : Nat} {b : List UInt8} {e : Int} (h : PSt w br b e) (hk : Keep S w w') (hs : ∀ q, q ≤ br → ¬ S q) : PSt w' br b e := by
  obtain ⟨A, n, c, h1, h2, h3, h4, h5, h6⟩ := h.row
  have hl := h1.lt
  exact ⟨A, n, c, h1.keep (hk.block br hl (hs br (Nat.le_refl _))), h2, h3, h4, h5, h6.keep fun p hp => World.cell?_of_block (hk.block p.block (by omega) (hs _ (by omega)))⟩
theorem PSt.cell1 {w : World} {br : Nat} {b : List UInt8} {e : Int} (h : PSt w br b e) : w.cell? ⟨br, 1, none⟩ = some (.int .i64 e) := by obtain ⟨A, n, c, h1, _⟩ := h.row; exact h1.cell 1
theorem PSt.fail {w : World} {br : Nat} {b : List UInt8} {e : Int} (h : PSt w br b e) (e' : Int) : PSt (w.setCell ⟨br, 1, none⟩ (.int .i64 e')) br b e' := by
  obtain ⟨A, n, c, h1, h2, h3, h4, h5, h6⟩ := h.row
  exact ⟨A, n, c, h1.set 1 _, h2, h3, h4, h5, rd_set h6 h1.lt⟩
theorem keep_br (w : World) (br j : Nat) (v : Value) : Keep (fun q => q = br) w (w.setCell ⟨br, j, none⟩ v) := Keep.of_grown (grown_setCell _ _ _ _) fun k e => (Option.some.inj e).symm
set_option maxHeartbeats 800000 in
theorem pcheck_ok (br : Nat) (b : List UInt8) (u : Nat) (hu : u ≤ b.length) (w : World) (h : PSt w br b 0) :
    Calls Tryd.prog 60 #[.pointer (some ⟨br, 0, none⟩), .int .i64 (u : Int), .int .i64 0, .bool true] w fun r w' => r = .returned (.bool true) ∧ PSt w' br (b.drop u) 0 ∧ Keep (fun q => q = br) w w' := by
  have HH := Lib.hid h
  have hf := h.fail 0
  obtain ⟨A, n, c, hr, hn, hnc, hcm, hn40, hrd⟩ := hf.row
  have c1 : w.cell? ⟨br, 1, none⟩ = some (.int .i64 0) := h.cell1
  have f1 : w.frozen? ⟨br, 1, none⟩ = false := by obtain ⟨A, n, c, h1, _⟩ := h.row; exact h1.frozen 1
  obtain ⟨w1, hw1⟩ : ∃ x, w.setCell ⟨br, 1, none⟩ (.int .i64 0) = x := ⟨_, rfl⟩
  have HW1 := Lib.hid (show Keep (fun q => q = br) w w1 from hw1 ▸ keep_br w br 1 _)
  rw [hw1] at hr hrd
  have HR := Lib.hid (And.intro hr (And.intro hn (And.intro hnc (And.intro hcm (And.intro hn40 hrd)))))
  have c0 : w1.cell? ⟨br, 0, none⟩ = some (.slice A n c) := hr.cell 0
  have f0 : w1.frozen? ⟨br, 0, none⟩ = false := hr.frozen 0
  have hun : u ≤ n := by omega
  have hcut := fun (V : World) => run_cutFrom (P := Tryd.prog) V bytesE A n c u .i64 hun
  have rd2 := hrd.cut hun hnc
  obtain ⟨A2, hA2⟩ : ∃ y, (if c = u then A else A.map (·.add (u * 1))) = y := ⟨_, rfl⟩
  rw [hA2] at rd2
  simp only [hA2] at hcut
  obtain ⟨m, hm⟩ : ∃ y, n - u = y := ⟨_, rfl⟩
  obtain ⟨c2, hc2⟩ : ∃ y, c - u = y := ⟨_, rfl⟩
  rw [hm] at rd2
  simp only [hm, hc2] at hcut
  have hdr : (bvs b).drop (u * 1) = bvs (b.drop u) := by rw [Nat.mul_one]; simp [bvs, List.map_drop]
  rw [hdr] at rd2
  have HRD2 := Lib.hid rd2
  have HM : Hid ((b.drop u).length = m ∧ m ≤ c2 ∧ c2 ≤ maxLen ∧ m ≤ 1099511627776) := Lib.hid ⟨by rw [List.length_drop, hn, hm], by omega, by omega, by omega⟩
  clear h hf hr hn hnc hcm hn40 hrd rd2 hdr hA2 hm hc2 hun hu
  go_enter Tryd.func60, Tryd.ntmps60
  go_upto_region 4 with fail
  try rw [hw1]
  clear hw1 c1 f1
  go_wp2_with fail
  go_ret
  exact ⟨rfl, ⟨A2, m, c2, HR.out.1.set 0 _, HM.out.1, HM.out.2.1, HM.out.2.2.1, HM.out.2.2.2, rd_set HRD2.out HR.out.1.lt⟩, HW1.out.trans (keep_br _ _ _ _)⟩
set_option maxHeartbeats 800000 in
theorem pcheck_bad (br : Nat) (b : List UInt8) (u e : Int) (p : Bool) (w : World) (h : PSt w br b 0) (hbad : e ≠ 0 ∨ p = false) :
    Calls Tryd.prog 60 #[.pointer (some ⟨br, 0, none⟩), .int .i64 u, .int .i64 e, .bool p] w fun r w' => r = .returned (.bool false) ∧ PSt w' br b (if e = 0 then 6 else e) ∧ Keep (fun q => q = br) w w' := by
  have HH := Lib.hid h
  have c1 : w.cell? ⟨br, 1, none⟩ = some (.int .i64 0) := h.cell1
  have f1 : w.frozen? ⟨br, 1, none⟩ = false := by obtain ⟨A, n, c, h1, _⟩ := h.row; exact h1.frozen 1
  by_cases he : e = 0
  · subst he
    have hp : p = false := hbad.elim (fun h => absurd rfl h) id
    subst hp
    clear h hbad
    go_enter Tryd.func60, Tryd.ntmps60
    go_wp2_with fail
    go_ret
    exact ⟨rfl, HH.out.fail 6, keep_br _ _ _ _⟩
  · have hen : (e == 0) = false := by rw [beq_eq_false_iff_ne]; exact he
    have HE := Lib.hid he
    clear h hbad he
    go_enter Tryd.func60, Tryd.ntmps60
    go_wp2_with fail
    go_ret
    try rw [if_neg HE.out]
    exact ⟨rfl, HH.out.fail e, keep_br _ _ _ _⟩
set_option maxRecDepth 100000 in
set_option maxHeartbeats 1600000 in
theorem pnumber_any (br : Nat) (b : List UInt8) (e lo hi : Int) (w : World) (h : PSt w br b e) :
    Calls Tryd.prog 59 #[.pointer (some ⟨br, 0, none⟩), .int .i64 lo, .int .i64 hi] w fun r w' => r = .returned (.int .i64 (Bil.num b e lo hi).1) ∧ PSt w' br (Bil.num b e lo hi).2.1 (Bil.num b e lo hi).2.2 ∧ Keep (fun q => q = br) w w' := by
  obtain ⟨A, n, c, hr, hn, hnc, hcm, hn40, hrd⟩ := h.row
  have c1 : w.cell? ⟨br, 1, none⟩ = some (.int .i64 e) := hr.cell 1
  have c0 : w.cell? ⟨br, 0, none⟩ = some (.slice A n c) := hr.cell 0
  by_cases he : e = 0
  · subst he
    obtain ⟨x, u, er, hd⟩ : ∃ x u er, Wire.dec b = (x, u, er) := ⟨_, _, _, rfl⟩
    have HG := Lib.hid (wireGetInt_len A c n b w br hn hrd hn40 hnc hcm x u er hd)
    by_cases hz : er = 0
    · subst hz
      have hok := Wire.dec_ok hd
      by_cases hlo : lo ≤ x ∧ x ≤ hi
      · have e1 : Bil.num b 0 lo hi = (x, b.drop u, 0) := by unfold Bil.num; rw [if_pos rfl, hd]; simp only; rw [if_pos trivial, if_neg (by omega)]
        rw [e1]
        have d1 : decide (lo ≤ x) = true := decide_eq_true hlo.1
        have d2 : decide (x ≤ hi) = true := decide_eq_true hlo.2
        have HC := Lib.hid (pcheck_ok br b u (by omega) w h)
        clear hr hn hnc hcm hn40 hrd h hok e1 hd hlo
        go_enter Tryd.func59, Tryd.ntmps59
        go_wp2_with (first
          | (go_at_call 80; refine HG.out.mono ?_; rintro r w2 ⟨rfl, rfl⟩)
          | (go_at_call 60; refine HC.out.mono ?_; rintro r w3 ⟨rfl, h3, k3⟩; have H3 := Lib.hid (And.intro h3 k3); clear h3 k3))
        go_ret
        exact ⟨rfl, H3.out.1, H3.out.2⟩
      · have e1 : Bil.num b 0 lo hi = (0, b, 6) := by unfold Bil.num; rw [if_pos rfl, hd]; simp only; rw [if_pos trivial, if_pos (by omega)]
        rw [e1]
        have HC := Lib.hid (pcheck_bad br b u 0 false w h (.inr rfl))
        by_cases h1 : lo ≤ x
        · have d1 : decide (lo ≤ x) = true := decide_eq_true h1
          have d2 : decide (x ≤ hi) = false := decide_eq_false (fun hh => hlo ⟨h1, hh⟩)
          clear h1 hr hn hnc hcm hn40 hrd h hok e1 hd hlo
          go_enter Tryd.func59, Tryd.ntmps59
          go_wp2_with (first
            | (go_at_call 80; refine HG.out.mono ?_; rintro r w2 ⟨rfl, rfl⟩)
            | (go_at_call 60; refine HC.out.mono ?_; rintro r w3 ⟨rfl, h3, k3⟩; have H3 := Lib.hid (And.intro h3 k3); clear h3 k3))
          go_ret
          exact ⟨rfl, H3.out.1, H3.out.2⟩
        · have d1 : decide (lo ≤ x) = false := decide_eq_false h1
          clear hr hn hnc hcm hn40 hrd h hok e1 hd hlo h1
          go_enter Tryd.func59, Tryd.ntmps59
          go_wp2_with (first
            | (go_at_call 80; refine HG.out.mono ?_; rintro r w2 ⟨rfl, rfl⟩)
            | (go_at_call 60; refine HC.out.mono ?_; rintro r w3 ⟨rfl, h3, k3⟩; have H3 := Lib.hid (And.intro h3 k3); clear h3 k3))
          go_ret
          exact ⟨rfl, H3.out.1, H3.out.2⟩
    · have e1 : Bil.num b 0 lo hi = (0, b, er) := by unfold Bil.num; rw [if_pos rfl, hd]; simp only; rw [if_neg hz]
      rw [e1]
      have hx0 : x = 0 ∧ u = 0 := by
        rcases Wire.dec_err hd with rfl | ⟨h1, h2, h3⟩
        · exact absurd rfl hz
        · exact ⟨by first | exact h1 | exact h2 | exact h3, by first | exact h3 | exact h2 | exact h1⟩
      obtain ⟨rfl, rfl⟩ := hx0
      have HC := Lib.hid (fun p => pcheck_bad br b ((0 : Nat) : Int) er p w h (.inl hz))
      simp only [if_neg hz] at HC
      by_cases h1 : lo ≤ 0
      · have d1 : decide (lo ≤ 0) = true := decide_eq_true h1
        obtain ⟨pp, d2⟩ : ∃ p : Bool, decide (0 ≤ hi) = p := ⟨_, rfl⟩
        clear h1
        skip
        · clear hr hn hnc hcm hn40 hrd h e1 hd hz
          go_enter Tryd.func59, Tryd.ntmps59
          go_wp2_with (first
            | (go_at_call 80; refine HG.out.mono ?_; rintro r w2 ⟨rfl, rfl⟩)
            | (go_at_call 60; refine (HC.out _).mono ?_; rintro r w3 ⟨rfl, h3, k3⟩; have H3 := Lib.hid (And.intro h3 k3); clear h3 k3))
          go_ret
          exact ⟨rfl, H3.out.1, H3.out.2⟩
      · have d1 : decide (lo ≤ 0) = false := decide_eq_false h1
        clear hr hn hnc hcm hn40 hrd h e1 hd hz h1
        go_enter Tryd.func59, Tryd.ntmps59
        go_wp2_with (first
          | (go_at_call 80; refine HG.out.mono ?_; rintro r w2 ⟨rfl, rfl⟩)
          | (go_at_call 60; refine (HC.out _).mono ?_; rintro r w3 ⟨rfl, h3, k3⟩; have H3 := Lib.hid (And.intro h3 k3); clear h3 k3))
        go_ret
        exact ⟨rfl, H3.out.1, H3.out.2⟩
  · have e1 : Bil.num b e lo hi = (0, b, e) := by unfold Bil.num; rw [if_neg he]
    rw [e1]
    have n1 : (e != 0) = true := by rw [bne_iff_ne]; exact he
    have HH := Lib.hid h
    clear hr hn hnc hcm hn40 hrd h e1 he
    go_enter Tryd.func59, Tryd.ntmps59
    go_wp2_with fail
    go_ret
    exact ⟨rfl, HH.out, Keep.refl _ _⟩
set_option maxHeartbeats 400000 in
theorem free_any (i : Int) (w : World) : Calls Tryd.prog 61 #[.int .i64 i] w fun r w' => r = .returned (.int .i64 9223372036854775807) ∧ w' = w := by
  go_enter Tryd.func61, Tryd.ntmps61
  go_wp2
  go_ret
  exact ⟨rfl, rfl⟩
set_option maxHeartbeats 400000 in
theorem media_any (i : Int) (w : World) : Calls Tryd.prog 84 #[.int .i64 i] w fun r w' => r = .returned (.int .i64 1099511627776) ∧ w' = w := by
  go_enter Tryd.func84, Tryd.ntmps84
  go_wp2
  go_ret
  exact ⟨rfl, rfl⟩
set_option maxHeartbeats 400000 in
theorem charged_any (b7 g n c : Nat) (C : List Int) (hn : C.length = n) (i : Nat) (hi : i < n) (w : World) (h3 : w.cell? ⟨b7, 3, none⟩ = some (.slice (some ⟨g, 0, none⟩) n c)) (hg : w.cell? ⟨g, i, none⟩ = some (.int .i64 (C.getD i 0))) :
    Calls Tryd.prog 85 #[.int .i64 (i : Int), .pointer (some ⟨b7, 0, none⟩)] w fun r w' => r = .returned (.int .i64 (C.getD i 0)) ∧ w' = w := by
  obtain ⟨x, hx⟩ : ∃ x, C.getD i 0 = x := ⟨_, rfl⟩
  rw [hx] at hg ⊢
  have i1 : (i : Int) < (n : Int) := by omega
  clear hn hi hx
  go_enter Tryd.func85, Tryd.ntmps85
  go_wp2
  go_ret
  exact ⟨rfl, rfl⟩
theorem own_keepD {S : Nat → Prop} {W W' : World} {base e sz n : Nat} {v : Value} {xs : List Value} (h : W.ownsRow base e sz v n xs) (hk : Keep S W W') (hs : ∀ b, S b → b < base) : W'.ownsRow base e sz v n xs := by
  refine ⟨h.1, ?_⟩
  rcases h.2 with h | ⟨g, cap, cur, hv, hb, hh, r⟩
  · exact .inl h
  · have hlt := (Array.getElem?_eq_some_iff.1 hh).1
    exact .inr ⟨g, cap, cur, hv, hb, (hk.block g hlt (fun hS => by have := hs g hS; omega)).trans hh, r⟩
/-- what list gives: the list is a row of the call's own -/
def LstRes (w : World) (br : Nat) (R : List Int × List UInt8 × Int) (r : Ending) (w' : World) : Prop := ∃ A c, r = .returned (.slice A R.1.length c) ∧ w'.ownsRow w.heap.size 3 1 (.slice A R.1.length c) R.1.length (ivs R.1) ∧ PSt w' br R.2.1 R.2.2 ∧ Keep (fun q => q = br) w w'
set_option maxRecDepth 100000 in
set_option maxHeartbeats 1600000 in
theorem plist_free (br : Nat) (b : List UInt8) (e : Int) (n : Nat)  (w : World) (h : PSt w br b e)  :
    Calls Tryd.prog 62 #[.pointer (some ⟨br, 0, none⟩), .int .i64 (n : Int), .func (.func 61) #[] #[]] w (LstRes w br (Bil.lst b e n (fun _ => 9223372036854775807))) := by
  obtain ⟨mx, hmx⟩ : ∃ f : Nat → Int, (fun _ => 9223372036854775807) = f := ⟨_, rfl⟩
  rw [hmx]
  have HMX : Hid (∀ i, (9223372036854775807 : Int) = mx i) := Lib.hid (fun i => by rw [← hmx]; try rfl)
  clear hmx
  by_cases he : e = 0
  · subst he
    obtain ⟨A, n0, c, hr, hn, hnc, hcm, hn40, hrd⟩ := h.row
    have c1 : w.cell? ⟨br, 1, none⟩ = some (.int .i64 0) := hr.cell 1
    have c0 : w.cell? ⟨br, 0, none⟩ = some (.slice A n0 c) := hr.cell 0
    obtain ⟨l, u, er, hd⟩ : ∃ x u er, Wire.decI b = (x, u, er) := ⟨_, _, _, rfl⟩
    have HG : Hid (Calls Tryd.prog 78 #[.slice A n0 c] w fun e w' => ∃ A' c', e = .returned (.tuple #[.slice A' l.length c', .int .i64 u, .int .i64 er]) ∧ w'.ownsRow w.heap.size 3 1 (.slice A' l.length c') l.length (ivs l) ∧ Below w.heap.size w w') := Lib.hid (by
      subst hn
      exact wireGetInts_any A c b w (hrd.more (Nat.le_of_lt hr.lt)) hn40 hnc hcm l u er hd)
    obtain ⟨R, hR⟩ : ∃ R, Bil.lst b 0 n mx = R := ⟨_, rfl⟩
    have hRd : R = if er = 0 then (if l.length = n ∧ ∀ i, i < n → 0 ≤ l.getD i 0 ∧ l.getD i 0 ≤ mx i then (l, b.drop u, 0) else ([], b, 6)) else ([], b, er) := by
      rw [← hR]; unfold Bil.lst; rw [if_pos rfl, hd]
    have HRD := Lib.hid hRd
    rw [hR]
    have HH := Lib.hid h
    have HN : Hid (b.length = n0) := Lib.hid hn
    have hll : l.length ≤ 1099511627776 := by have := Wire.decI_len hd; omega
    have HUL : Hid (er = 0 → u ≤ b.length) := Lib.hid (fun h0 => by subst h0; exact (Wire.decI_ok hd).1)
    have HER : Hid (er ≠ 0 → l = []) := Lib.hid (fun h0 => (Wire.decI_err' hd h0).1)
    clear hr hn hnc hcm hn40 hrd h hd hR hRd
    obtain ⟨pb, hpb⟩ : ∃ p : Bool, decide (l.length = n) = p := ⟨_, rfl⟩
    have hpi : decide ((l.length : Int) = (n : Int)) = pb := by
      rw [← hpb]; cases hq : decide (l.length = n) with
      | true => rw [decide_eq_true_iff] at hq ⊢; omega
      | false => rw [decide_eq_false_iff_not] at hq ⊢; omega
    have hpi2 : ((l.length : Int) == (n : Int)) = pb := by rw [← hpi]; rfl
    have HP0 : Hid (pb = true ↔ l.length = n) := Lib.hid (by rw [← hpb]; exact decide_eq_true_iff)
    clear hpb
    obtain ⟨L, hL⟩ : ∃ L, l.length = L := ⟨_, rfl⟩
    have HLL := Lib.hid hL
    rw [hL] at hpi hpi2 hll HP0 HG HRD
    clear hL
    go_enter Tryd.func62, Tryd.ntmps62
    go_upto_region 4 with (go_at_call 78; refine HG.out.mono ?_; rintro r w2 ⟨A2, c2, rfl, own, b2⟩; have HO := Lib.hid (And.intro own b2); clear own b2)
    have hH2 := HH.out.below HO.out.2
    have HH2 := Lib.hid hH2
    go_upto_region 5 with fail
    clear hpi hpi2 c0 c1
    go_wp2_with fail
    go_loopw [10, 33] (fun u10 u33 wr => ∃ (i : Nat) (p : Bool), i ≤ L ∧ u33 = .int .i64 (i : Int) ∧ u10 = .bool p ∧ w2 = wr ∧ Hid (p = true ↔ (L = n ∧ ∀ j, j < i → 0 ≤ l.getD j 0 ∧ l.getD j 0 ≤ mx j))) (fun _ u33 _ => L - (intOf u33).toNat)
    case atStart => exact ⟨0, pb, by omega, rfl, rfl, rfl, Lib.hid ⟨fun hp => ⟨HP0.out.1 hp, fun j hj => absurd hj (Nat.not_lt_zero _)⟩, fun hp => HP0.out.2 hp.1⟩⟩
    case round =>
      obtain ⟨i, p, hi, rfl, rfl, rfl, HP⟩ := hrel
      by_cases hlt : i < L
      · obtain ⟨x, hx⟩ : ∃ x, l.getD i 0 = x := ⟨_, rfl⟩
        have hA : ∃ g, A2 = some ⟨g, 0, none⟩ := by obtain ⟨g, cap, hv, _, _⟩ := HO.out.1.form (by omega); injection hv with hA _ _; exact ⟨g, hA⟩
        obtain ⟨g, rfl⟩ := hA
        have hcx : w2.cell? ⟨g, i, none⟩ = some (.int .i64 x) := by
          have h1 := HO.out.1.cells (g := g) rfl i (.int .i64 x) (by rw [← hx]; simp [ivs, List.getElem?_map, List.getD, List.getElem?_eq_getElem (show i < l.length by rw [HLL.out]; exact hlt)])
          rwa [Addr.add_lit, Nat.zero_add] at h1
        have HX := Lib.hid hx
        have i1 : (i : Int) < (L : Int) := by omega
        clear hx
        have HSTEP : Hid (∀ q : Bool, (q = true ↔ p = true ∧ 0 ≤ x ∧ x ≤ mx i) → (q = true ↔ (L = n ∧ ∀ j, j < i + 1 → 0 ≤ l.getD j 0 ∧ l.getD j 0 ≤ mx j))) := Lib.hid (fun q hq => by
          rw [hq, HP.out]
          constructor
          · rintro ⟨⟨h1, h2⟩, h3⟩
            refine ⟨h1, fun j hj => ?_⟩
            by_cases hji : j = i
            · subst hji; rw [HX.out]; exact h3
            · exact h2 j (by omega)
          · rintro ⟨h1, h2⟩
            exact ⟨⟨h1, fun j hj => h2 j (by omega)⟩, by have := h2 i (by omega); rwa [HX.out] at this⟩)
        cases p with
        | false =>
          have HQ := Lib.hid (HSTEP.out false ⟨fun h => (by cases h), fun h => (by cases h.1)⟩)
          go_wp2_with fail
          go_roundw
          case rel => exact ⟨i + 1, false, by omega, by go_num, by first | rfl | trivial, by first | rfl | trivial, by first | exact HQ | exact Lib.hid (by simpa using HQ.out)⟩
          case measure => simp [intOf]; omega
        | true =>
          have hLn : L = n := (HP.out.1 rfl).1
          by_cases hx0 : 0 ≤ x
          · have HCF := Lib.hid (free_any (i : Int) w2)
            obtain ⟨y, hy⟩ : ∃ y, mx i = y := ⟨_, rfl⟩
            rw [hy] at HSTEP
            have HV := Lib.hid ((HMX.out i).trans hy)
            by_cases hxy : x ≤ y
            · have HQ := Lib.hid (HSTEP.out true ⟨fun _ => ⟨by trivial, hx0, hxy⟩, fun _ => by trivial⟩)
              have hd1 : decide (x ≤ y) = true := decide_eq_true hxy
              clear hLn
              go_wp2_with (go_at_call 61; refine HCF.out.mono ?_; rintro r w3 ⟨rfl, hw3⟩; rw [hw3, show (9223372036854775807 : Int) = y from HV.out]; clear hw3 w3)
              go_roundw
              case rel => exact ⟨i + 1, true, by omega, by go_num, by first | rfl | trivial, by first | rfl | trivial, by first | exact HQ | exact Lib.hid (by simpa using HQ.out)⟩
              case measure => simp [intOf]; omega
            · have HQ := Lib.hid (HSTEP.out false ⟨fun h => (by cases h), fun h => absurd h.2.2 hxy⟩)
              have hd1 : decide (x ≤ y) = false := decide_eq_false hxy
              clear hLn
              go_wp2_with (go_at_call 61; refine HCF.out.mono ?_; rintro r w3 ⟨rfl, hw3⟩; rw [hw3, show (9223372036854775807 : Int) = y from HV.out]; clear hw3 w3)
              go_roundw
              case rel => exact ⟨i + 1, false, by omega, by go_num, by first | rfl | trivial, by first | rfl | trivial, by first | exact HQ | exact Lib.hid (by simpa using HQ.out)⟩
              case measure => simp [intOf]; omega
          · have HQ := Lib.hid (HSTEP.out false ⟨fun h => (by cases h), fun h => absurd h.2.1 hx0⟩)
            clear hLn
            go_wp2_with fail
            go_roundw
            case rel => exact ⟨i + 1, false, by omega, by go_num, by first | rfl | trivial, by first | rfl | trivial, by first | exact HQ | exact Lib.hid (by simpa using HQ.out)⟩
            case measure => simp [intOf]; omega
      · obtain rfl : i = L := by omega
        by_cases hz : er = 0
        · subst hz
          cases p with
          | true =>
            have hpp := HP.out.1 rfl
            have HC := Lib.hid (pcheck_ok br b u (HUL.out rfl) w2 HH2.out)
            have HRR : Hid (R = (l, b.drop u, 0)) := Lib.hid (by rw [HRD.out, if_pos rfl, if_pos ⟨hpp.1, fun j hj => hpp.2 j (by rw [hpp.1]; exact hj)⟩])
            clear hpp
            go_wp2_with (go_at_call 60; refine HC.out.mono ?_; rintro r w3 ⟨rfl, h3, k3⟩; have H3 := Lib.hid (And.intro h3 k3); clear h3 k3)
            go_ret
            rw [HRR.out]
            refine ⟨A2, c2, by simp only [HLL.out]; rfl, ?_, H3.out.1, (Keep.of_below HO.out.2).trans H3.out.2⟩
            simp only [HLL.out]
            exact own_keepD HO.out.1 H3.out.2 (fun q hq => by have := HH.out.lt; omega)
          | false =>
            have hpp : ¬ (i = n ∧ ∀ j, j < i → 0 ≤ l.getD j 0 ∧ l.getD j 0 ≤ mx j) := fun hh => by have := HP.out.2 hh; cases this
            have HC := Lib.hid (pcheck_bad br b u 0 false w2 HH2.out (.inr rfl))
            have HRR : Hid (R = ([], b, 6)) := Lib.hid (by rw [HRD.out, if_pos rfl, if_neg (fun hh => hpp ⟨hh.1, fun j hj => hh.2 j (by rw [← hh.1]; exact hj)⟩)])
            clear hpp
            go_wp2_with (go_at_call 60; refine HC.out.mono ?_; rintro r w3 ⟨rfl, h3, k3⟩; have H3 := Lib.hid (And.intro h3 k3); clear h3 k3)
            go_ret
            rw [HRR.out]
            exact ⟨none, 0, rfl, World.ownsRow_nil _ _ _ _, H3.out.1, (Keep.of_below HO.out.2).trans H3.out.2⟩
        · have HC := Lib.hid (pcheck_bad br b u er p w2 HH2.out (.inl hz))
          rw [if_neg hz] at HC
          have HRR : Hid (R = ([], b, er)) := Lib.hid (by rw [HRD.out, if_neg hz])
          clear hz
          go_wp2_with (go_at_call 60; refine HC.out.mono ?_; rintro r w3 ⟨rfl, h3, k3⟩; have H3 := Lib.hid (And.intro h3 k3); clear h3 k3)
          go_ret
          rw [HRR.out]
          exact ⟨none, 0, rfl, World.ownsRow_nil _ _ _ _, H3.out.1, (Keep.of_below HO.out.2).trans H3.out.2⟩
  · have e1 : Bil.lst b e n mx = ([], b, e) := by unfold Bil.lst; rw [if_neg he]
    rw [e1]
    have n1 : (e != 0) = true := by rw [bne_iff_ne]; exact he
    have c1 : w.cell? ⟨br, 1, none⟩ = some (.int .i64 e) := h.cell1
    have HH := Lib.hid h
    clear h e1 he
    go_enter Tryd.func62, Tryd.ntmps62
    go_wp2_with fail
    go_ret
    exact ⟨none, 0, rfl, World.ownsRow_nil _ _ _ _, HH.out, Keep.refl _ _⟩
set_option maxRecDepth 100000 in
set_option maxHeartbeats 1600000 in
theorem plist_media (br : Nat) (b : List UInt8) (e : Int) (n : Nat)  (w : World) (h : PSt w br b e)  :
    Calls Tryd.prog 62 #[.pointer (some ⟨br, 0, none⟩), .int .i64 (n : Int), .func (.func 84) #[] #[]] w (LstRes w br (Bil.lst b e n (fun _ => Bil.MX))) := by
  obtain ⟨mx, hmx⟩ : ∃ f : Nat → Int, (fun _ => Bil.MX) = f := ⟨_, rfl⟩
  rw [hmx]
  have HMX : Hid (∀ i, (1099511627776 : Int) = mx i) := Lib.hid (fun i => by rw [← hmx]; try rfl)
  clear hmx
  by_cases he : e = 0
  · subst he
    obtain ⟨A, n0, c, hr, hn, hnc, hcm, hn40, hrd⟩ := h.row
    have c1 : w.cell? ⟨br, 1, none⟩ = some (.int .i64 0) := hr.cell 1
    have c0 : w.cell? ⟨br, 0, none⟩ = some (.slice A n0 c) := hr.cell 0
    obtain ⟨l, u, er, hd⟩ : ∃ x u er, Wire.decI b = (x, u, er) := ⟨_, _, _, rfl⟩
    have HG : Hid (Calls Tryd.prog 78 #[.slice A n0 c] w fun e w' => ∃ A' c', e = .returned (.tuple #[.slice A' l.length c', .int .i64 u, .int .i64 er]) ∧ w'.ownsRow w.heap.size 3 1 (.slice A' l.length c') l.length (ivs l) ∧ Below w.heap.size w w') := Lib.hid (by
      subst hn
      exact wireGetInts_any A c b w (hrd.more (Nat.le_of_lt hr.lt)) hn40 hnc hcm l u er hd)
    obtain ⟨R, hR⟩ : ∃ R, Bil.lst b 0 n mx = R := ⟨_, rfl⟩
    have hRd : R = if er = 0 then (if l.length = n ∧ ∀ i, i < n → 0 ≤ l.getD i 0 ∧ l.getD i 0 ≤ mx i then (l, b.drop u, 0) else ([], b, 6)) else ([], b, er) := by
      rw [← hR]; unfold Bil.lst; rw [if_pos rfl, hd]
    have HRD := Lib.hid hRd
    rw [hR]
    have HH := Lib.hid h
    have HN : Hid (b.length = n0) := Lib.hid hn
    have hll : l.length ≤ 1099511627776 := by have := Wire.decI_len hd; omega
    have HUL : Hid (er = 0 → u ≤ b.length) := Lib.hid (fun h0 => by subst h0; exact (Wire.decI_ok hd).1)
    have HER : Hid (er ≠ 0 → l = []) := Lib.hid (fun h0 => (Wire.decI_err' hd h0).1)
    clear hr hn hnc hcm hn40 hrd h hd hR hRd
    obtain ⟨pb, hpb⟩ : ∃ p : Bool, decide (l.length = n) = p := ⟨_, rfl⟩
    have hpi : decide ((l.length : Int) = (n : Int)) = pb := by
      rw [← hpb]; cases hq : decide (l.length = n) with
      | true => rw [decide_eq_true_iff] at hq ⊢; omega
      | false => rw [decide_eq_false_iff_not] at hq ⊢; omega
    have hpi2 : ((l.length : Int) == (n : Int)) = pb := by rw [← hpi]; rfl
    have HP0 : Hid (pb = true ↔ l.length = n) := Lib.hid (by rw [← hpb]; exact decide_eq_true_iff)
    clear hpb
    obtain ⟨L, hL⟩ : ∃ L, l.length = L := ⟨_, rfl⟩
    have HLL := Lib.hid hL
    rw [hL] at hpi hpi2 hll HP0 HG HRD
    clear hL
    go_enter Tryd.func62, Tryd.ntmps62
    go_upto_region 4 with (go_at_call 78; refine HG.out.mono ?_; rintro r w2 ⟨A2, c2, rfl, own, b2⟩; have HO := Lib.hid (And.intro own b2); clear own b2)
    have hH2 := HH.out.below HO.out.2
    have HH2 := Lib.hid hH2
    go_upto_region 5 with fail
    clear hpi hpi2 c0 c1
    go_wp2_with fail
    go_loopw [10, 33] (fun u10 u33 wr => ∃ (i : Nat) (p : Bool), i ≤ L ∧ u33 = .int .i64 (i : Int) ∧ u10 = .bool p ∧ w2 = wr ∧ Hid (p = true ↔ (L = n ∧ ∀ j, j < i → 0 ≤ l.getD j 0 ∧ l.getD j 0 ≤ mx j))) (fun _ u33 _ => L - (intOf u33).toNat)
    case atStart => exact ⟨0, pb, by omega, rfl, rfl, rfl, Lib.hid ⟨fun hp => ⟨HP0.out.1 hp, fun j hj => absurd hj (Nat.not_lt_zero _)⟩, fun hp => HP0.out.2 hp.1⟩⟩
    case round =>
      obtain ⟨i, p, hi, rfl, rfl, rfl, HP⟩ := hrel
      by_cases hlt : i < L
      · obtain ⟨x, hx⟩ : ∃ x, l.getD i 0 = x := ⟨_, rfl⟩
        have hA : ∃ g, A2 = some ⟨g, 0, none⟩ := by obtain ⟨g, cap, hv, _, _⟩ := HO.out.1.form (by omega); injection hv with hA _ _; exact ⟨g, hA⟩
        obtain ⟨g, rfl⟩ := hA
        have hcx : w2.cell? ⟨g, i, none⟩ = some (.int .i64 x) := by
          have h1 := HO.out.1.cells (g := g) rfl i (.int .i64 x) (by rw [← hx]; simp [ivs, List.getElem?_map, List.getD, List.getElem?_eq_getElem (show i < l.length by rw [HLL.out]; exact hlt)])
          rwa [Addr.add_lit, Nat.zero_add] at h1
        have HX := Lib.hid hx
        have i1 : (i : Int) < (L : Int) := by omega
        clear hx
        have HSTEP : Hid (∀ q : Bool, (q = true ↔ p = true ∧ 0 ≤ x ∧ x ≤ mx i) → (q = true ↔ (L = n ∧ ∀ j, j < i + 1 → 0 ≤ l.getD j 0 ∧ l.getD j 0 ≤ mx j))) := Lib.hid (fun q hq => by
          rw [hq, HP.out]
          constructor
          · rintro ⟨⟨h1, h2⟩, h3⟩
            refine ⟨h1, fun j hj => ?_⟩
            by_cases hji : j = i
            · subst hji; rw [HX.out]; exact h3
            · exact h2 j (by omega)
          · rintro ⟨h1, h2⟩
            exact ⟨⟨h1, fun j hj => h2 j (by omega)⟩, by have := h2 i (by omega); rwa [HX.out] at this⟩)
        cases p with
        | false =>
          have HQ := Lib.hid (HSTEP.out false ⟨fun h => (by cases h), fun h => (by cases h.1)⟩)
          go_wp2_with fail
          go_roundw
          case rel => exact ⟨i + 1, false, by omega, by go_num, by first | rfl | trivial, by first | rfl | trivial, by first | exact HQ | exact Lib.hid (by simpa using HQ.out)⟩
          case measure => simp [intOf]; omega
        | true =>
          have hLn : L = n := (HP.out.1 rfl).1
          by_cases hx0 : 0 ≤ x
          · have HCF := Lib.hid (media_any (i : Int) w2)
            obtain ⟨y, hy⟩ : ∃ y, mx i = y := ⟨_, rfl⟩
            rw [hy] at HSTEP
            have HV := Lib.hid ((HMX.out i).trans hy)
            by_cases hxy : x ≤ y
            · have HQ := Lib.hid (HSTEP.out true ⟨fun _ => ⟨by trivial, hx0, hxy⟩, fun _ => by trivial⟩)
              have hd1 : decide (x ≤ y) = true := decide_eq_true hxy
              clear hLn
              go_wp2_with (go_at_call 84; refine HCF.out.mono ?_; rintro r w3 ⟨rfl, hw3⟩; rw [hw3, show (1099511627776 : Int) = y from HV.out]; clear hw3 w3)
              go_roundw
              case rel => exact ⟨i + 1, true, by omega, by go_num, by first | rfl | trivial, by first | rfl | trivial, by first | exact HQ | exact Lib.hid (by simpa using HQ.out)⟩
              case measure => simp [intOf]; omega
            · have HQ := Lib.hid (HSTEP.out false ⟨fun h => (by cases h), fun h => absurd h.2.2 hxy⟩)
              have hd1 : decide (x ≤ y) = false := decide_eq_false hxy
              clear hLn
              go_wp2_with (go_at_call 84; refine HCF.out.mono ?_; rintro r w3 ⟨rfl, hw3⟩; rw [hw3, show (1099511627776 : Int) = y from HV.out]; clear hw3 w3)
              go_roundw
              case rel => exact ⟨i + 1, false, by omega, by go_num, by first | rfl | trivial, by first | rfl | trivial, by first | exact HQ | exact Lib.hid (by simpa using HQ.out)⟩
              case measure => simp [intOf]; omega
          · have HQ := Lib.hid (HSTEP.out false ⟨fun h => (by cases h), fun h => absurd h.2.1 hx0⟩)
            clear hLn
            go_wp2_with fail
            go_roundw
            case rel => exact ⟨i + 1, false, by omega, by go_num, by first | rfl | trivial, by first | rfl | trivial, by first | exact HQ | exact Lib.hid (by simpa using HQ.out)⟩
            case measure => simp [intOf]; omega
      · obtain rfl : i = L := by omega
        by_cases hz : er = 0
        · subst hz
          cases p with
          | true =>
            have hpp := HP.out.1 rfl
            have HC := Lib.hid (pcheck_ok br b u (HUL.out rfl) w2 HH2.out)
            have HRR : Hid (R = (l, b.drop u, 0)) := Lib.hid (by rw [HRD.out, if_pos rfl, if_pos ⟨hpp.1, fun j hj => hpp.2 j (by rw [hpp.1]; exact hj)⟩])
            clear hpp
            go_wp2_with (go_at_call 60; refine HC.out.mono ?_; rintro r w3 ⟨rfl, h3, k3⟩; have H3 := Lib.hid (And.intro h3 k3); clear h3 k3)
            go_ret
            rw [HRR.out]
            refine ⟨A2, c2, by simp only [HLL.out]; rfl, ?_, H3.out.1, (Keep.of_below HO.out.2).trans H3.out.2⟩
            simp only [HLL.out]
            exact own_keepD HO.out.1 H3.out.2 (fun q hq => by have := HH.out.lt; omega)
          | false =>
            have hpp : ¬ (i = n ∧ ∀ j, j < i → 0 ≤ l.getD j 0 ∧ l.getD j 0 ≤ mx j) := fun hh => by have := HP.out.2 hh; cases this
            have HC := Lib.hid (pcheck_bad br b u 0 false w2 HH2.out (.inr rfl))
            have HRR : Hid (R = ([], b, 6)) := Lib.hid (by rw [HRD.out, if_pos rfl, if_neg (fun hh => hpp ⟨hh.1, fun j hj => hh.2 j (by rw [← hh.1]; exact hj)⟩)])
            clear hpp
            go_wp2_with (go_at_call 60; refine HC.out.mono ?_; rintro r w3 ⟨rfl, h3, k3⟩; have H3 := Lib.hid (And.intro h3 k3); clear h3 k3)
            go_ret
            rw [HRR.out]
            exact ⟨none, 0, rfl, World.ownsRow_nil _ _ _ _, H3.out.1, (Keep.of_below HO.out.2).trans H3.out.2⟩
        · have HC := Lib.hid (pcheck_bad br b u er p w2 HH2.out (.inl hz))
          rw [if_neg hz] at HC
          have HRR : Hid (R = ([], b, er)) := Lib.hid (by rw [HRD.out, if_neg hz])
          clear hz
          go_wp2_with (go_at_call 60; refine HC.out.mono ?_; rintro r w3 ⟨rfl, h3, k3⟩; have H3 := Lib.hid (And.intro h3 k3); clear h3 k3)
          go_ret
          rw [HRR.out]
          exact ⟨none, 0, rfl, World.ownsRow_nil _ _ _ _, H3.out.1, (Keep.of_below HO.out.2).trans H3.out.2⟩
  · have e1 : Bil.lst b e n mx = ([], b, e) := by unfold Bil.lst; rw [if_neg he]
    rw [e1]
    have n1 : (e != 0) = true := by rw [bne_iff_ne]; exact he
    have c1 : w.cell? ⟨br, 1, none⟩ = some (.int .i64 e) := h.cell1
    have HH := Lib.hid h
    clear h e1 he
    go_enter Tryd.func62, Tryd.ntmps62
    go_wp2_with fail
    go_ret
    exact ⟨none, 0, rfl, World.ownsRow_nil _ _ _ _, HH.out, Keep.refl _ _⟩
set_option maxRecDepth 100000 in
set_option maxHeartbeats 1600000 in
theorem plist_charged (br : Nat) (b : List UInt8) (e : Int) (n : Nat) (b7 gc cc : Nat) (C : List Int) (w : World) (h : PSt w br b e) (hC : C.length = n) (h3 : e = 0 → w.cell? ⟨b7, 3, none⟩ = some (.slice (some ⟨gc, 0, none⟩) n cc) ∧ b7 < w.heap.size ∧ gc < w.heap.size) (hg : e = 0 → ∀ i, i < n → w.cell? ⟨gc, i, none⟩ = some (.int .i64 (C.getD i 0))) :
    Calls Tryd.prog 62 #[.pointer (some ⟨br, 0, none⟩), .int .i64 (n : Int), .func (.func 85) #[] #[.pointer (some ⟨b7, 0, none⟩)]] w (LstRes w br (Bil.lst b e n (fun i => C.getD i 0))) := by
  obtain ⟨mx, hmx⟩ : ∃ f : Nat → Int, (fun i => C.getD i 0) = f := ⟨_, rfl⟩
  rw [hmx]
  have HMX : Hid (∀ i, C.getD i 0 = mx i) := Lib.hid (fun i => by rw [← hmx]; try rfl)
  clear hmx
  by_cases he : e = 0
  · subst he
    have HCH := Lib.hid (And.intro hC (And.intro h3 hg))
    clear hC h3 hg
    obtain ⟨A, n0, c, hr, hn, hnc, hcm, hn40, hrd⟩ := h.row
    have c1 : w.cell? ⟨br, 1, none⟩ = some (.int .i64 0) := hr.cell 1
    have c0 : w.cell? ⟨br, 0, none⟩ = some (.slice A n0 c) := hr.cell 0
    obtain ⟨l, u, er, hd⟩ : ∃ x u er, Wire.decI b = (x, u, er) := ⟨_, _, _, rfl⟩
    have HG : Hid (Calls Tryd.prog 78 #[.slice A n0 c] w fun e w' => ∃ A' c', e = .returned (.tuple #[.slice A' l.length c', .int .i64 u, .int .i64 er]) ∧ w'.ownsRow w.heap.size 3 1 (.slice A' l.length c') l.length (ivs l) ∧ Below w.heap.size w w') := Lib.hid (by
      subst hn
      exact wireGetInts_any A c b w (hrd.more (Nat.le_of_lt hr.lt)) hn40 hnc hcm l u er hd)
    obtain ⟨R, hR⟩ : ∃ R, Bil.lst b 0 n mx = R := ⟨_, rfl⟩
    have hRd : R = if er = 0 then (if l.length = n ∧ ∀ i, i < n → 0 ≤ l.getD i 0 ∧ l.getD i 0 ≤ mx i then (l, b.drop u, 0) else ([], b, 6)) else ([], b, er) := by
      rw [← hR]; unfold Bil.lst; rw [if_pos rfl, hd]
    have HRD := Lib.hid hRd
    rw [hR]
    have HH := Lib.hid h
    have HN : Hid (b.length = n0) := Lib.hid hn
    have hll : l.length ≤ 1099511627776 := by have := Wire.decI_len hd; omega
    have HUL : Hid (er = 0 → u ≤ b.length) := Lib.hid (fun h0 => by subst h0; exact (Wire.decI_ok hd).1)
    have HER : Hid (er ≠ 0 → l = []) := Lib.hid (fun h0 => (Wire.decI_err' hd h0).1)
    clear hr hn hnc hcm hn40 hrd h hd hR hRd
    obtain ⟨pb, hpb⟩ : ∃ p : Bool, decide (l.length = n) = p := ⟨_, rfl⟩
    have hpi : decide ((l.length : Int) = (n : Int)) = pb := by
      rw [← hpb]; cases hq : decide (l.length = n) with
      | true => rw [decide_eq_true_iff] at hq ⊢; omega
      | false => rw [decide_eq_false_iff_not] at hq ⊢; omega
    have hpi2 : ((l.length : Int) == (n : Int)) = pb := by rw [← hpi]; rfl
    have HP0 : Hid (pb = true ↔ l.length = n) := Lib.hid (by rw [← hpb]; exact decide_eq_true_iff)
    clear hpb
    obtain ⟨L, hL⟩ : ∃ L, l.length = L := ⟨_, rfl⟩
    have HLL := Lib.hid hL
    rw [hL] at hpi hpi2 hll HP0 HG HRD
    clear hL
    go_enter Tryd.func62, Tryd.ntmps62
    go_upto_region 4 with (go_at_call 78; refine HG.out.mono ?_; rintro r w2 ⟨A2, c2, rfl, own, b2⟩; have HO := Lib.hid (And.intro own b2); clear own b2)
    have hH2 := HH.out.below HO.out.2
    have HH2 := Lib.hid hH2
    go_upto_region 5 with fail
    clear hpi hpi2 c0 c1
    go_wp2_with fail
    go_loopw [10, 33] (fun u10 u33 wr => ∃ (i : Nat) (p : Bool), i ≤ L ∧ u33 = .int .i64 (i : Int) ∧ u10 = .bool p ∧ w2 = wr ∧ Hid (p = true ↔ (L = n ∧ ∀ j, j < i → 0 ≤ l.getD j 0 ∧ l.getD j 0 ≤ mx j))) (fun _ u33 _ => L - (intOf u33).toNat)
    case atStart => exact ⟨0, pb, by omega, rfl, rfl, rfl, Lib.hid ⟨fun hp => ⟨HP0.out.1 hp, fun j hj => absurd hj (Nat.not_lt_zero _)⟩, fun hp => HP0.out.2 hp.1⟩⟩
    case round =>
      obtain ⟨i, p, hi, rfl, rfl, rfl, HP⟩ := hrel
      by_cases hlt : i < L
      · obtain ⟨x, hx⟩ : ∃ x, l.getD i 0 = x := ⟨_, rfl⟩
        have hA : ∃ g, A2 = some ⟨g, 0, none⟩ := by obtain ⟨g, cap, hv, _, _⟩ := HO.out.1.form (by omega); injection hv with hA _ _; exact ⟨g, hA⟩
        obtain ⟨g, rfl⟩ := hA
        have hcx : w2.cell? ⟨g, i, none⟩ = some (.int .i64 x) := by
          have h1 := HO.out.1.cells (g := g) rfl i (.int .i64 x) (by rw [← hx]; simp [ivs, List.getElem?_map, List.getD, List.getElem?_eq_getElem (show i < l.length by rw [HLL.out]; exact hlt)])
          rwa [Addr.add_lit, Nat.zero_add] at h1
        have HX := Lib.hid hx
        have i1 : (i : Int) < (L : Int) := by omega
        clear hx
        have HSTEP : Hid (∀ q : Bool, (q = true ↔ p = true ∧ 0 ≤ x ∧ x ≤ mx i) → (q = true ↔ (L = n ∧ ∀ j, j < i + 1 → 0 ≤ l.getD j 0 ∧ l.getD j 0 ≤ mx j))) := Lib.hid (fun q hq => by
          rw [hq, HP.out]
          constructor
          · rintro ⟨⟨h1, h2⟩, h3⟩
            refine ⟨h1, fun j hj => ?_⟩
            by_cases hji : j = i
            · subst hji; rw [HX.out]; exact h3
            · exact h2 j (by omega)
          · rintro ⟨h1, h2⟩
            exact ⟨⟨h1, fun j hj => h2 j (by omega)⟩, by have := h2 i (by omega); rwa [HX.out] at this⟩)
        cases p with
        | false =>
          have HQ := Lib.hid (HSTEP.out false ⟨fun h => (by cases h), fun h => (by cases h.1)⟩)
          go_wp2_with fail
          go_roundw
          case rel => exact ⟨i + 1, false, by omega, by go_num, by first | rfl | trivial, by first | rfl | trivial, by first | exact HQ | exact Lib.hid (by simpa using HQ.out)⟩
          case measure => simp [intOf]; omega
        | true =>
          have hLn : L = n := (HP.out.1 rfl).1
          by_cases hx0 : 0 ≤ x
          · have HCF := Lib.hid (charged_any b7 gc n cc C HCH.out.1 i (by omega) w2 ((HO.out.2.cell (p := ⟨b7, 3, none⟩) (HCH.out.2.1 (by trivial)).2.1).trans (HCH.out.2.1 (by trivial)).1) ((HO.out.2.cell (p := ⟨gc, i, none⟩) (HCH.out.2.1 (by trivial)).2.2).trans (HCH.out.2.2 (by trivial) i (by omega))))
            obtain ⟨y, hy⟩ : ∃ y, mx i = y := ⟨_, rfl⟩
            rw [hy] at HSTEP
            have HV := Lib.hid ((HMX.out i).trans hy)
            by_cases hxy : x ≤ y
            · have HQ := Lib.hid (HSTEP.out true ⟨fun _ => ⟨by trivial, hx0, hxy⟩, fun _ => by trivial⟩)
              have hd1 : decide (x ≤ y) = true := decide_eq_true hxy
              clear hLn
              go_wp2_with (go_at_call 85; refine HCF.out.mono ?_; rintro r w3 ⟨rfl, hw3⟩; rw [hw3, show C.getD i 0 = y from HV.out]; clear hw3 w3)
              go_roundw
              case rel => exact ⟨i + 1, true, by omega, by go_num, by first | rfl | trivial, by first | rfl | trivial, by first | exact HQ | exact Lib.hid (by simpa using HQ.out)⟩
              case measure => simp [intOf]; omega
            · have HQ := Lib.hid (HSTEP.out false ⟨fun h => (by cases h), fun h => absurd h.2.2 hxy⟩)
              have hd1 : decide (x ≤ y) = false := decide_eq_false hxy
              clear hLn
              go_wp2_with (go_at_call 85; refine HCF.out.mono ?_; rintro r w3 ⟨rfl, hw3⟩; rw [hw3, show C.getD i 0 = y from HV.out]; clear hw3 w3)
              go_roundw
              case rel => exact ⟨i + 1, false, by omega, by go_num, by first | rfl | trivial, by first | rfl | trivial, by first | exact HQ | exact Lib.hid (by simpa using HQ.out)⟩
              case measure => simp [intOf]; omega
          · have HQ := Lib.hid (HSTEP.out false ⟨fun h => (by cases h), fun h => absurd h.2.1 hx0⟩)
            clear hLn
            go_wp2_with fail
            go_roundw
            case rel => exact ⟨i + 1, false, by omega, by go_num, by first | rfl | trivial, by first | rfl | trivial, by first | exact HQ | exact Lib.hid (by simpa using HQ.out)⟩
            case measure => simp [intOf]; omega
      · obtain rfl : i = L := by omega
        by_cases hz : er = 0
        · subst hz
          cases p with
          | true =>
            have hpp := HP.out.1 rfl
            have HC := Lib.hid (pcheck_ok br b u (HUL.out rfl) w2 HH2.out)
            have HRR : Hid (R = (l, b.drop u, 0)) := Lib.hid (by rw [HRD.out, if_pos rfl, if_pos ⟨hpp.1, fun j hj => hpp.2 j (by rw [hpp.1]; exact hj)⟩])
            clear hpp
            go_wp2_with (go_at_call 60; refine HC.out.mono ?_; rintro r w3 ⟨rfl, h3, k3⟩; have H3 := Lib.hid (And.intro h3 k3); clear h3 k3)
            go_ret
            rw [HRR.out]
            refine ⟨A2, c2, by simp only [HLL.out]; rfl, ?_, H3.out.1, (Keep.of_below HO.out.2).trans H3.out.2⟩
            simp only [HLL.out]
            exact own_keepD HO.out.1 H3.out.2 (fun q hq => by have := HH.out.lt; omega)
          | false =>
            have hpp : ¬ (i = n ∧ ∀ j, j < i → 0 ≤ l.getD j 0 ∧ l.getD j 0 ≤ mx j) := fun hh => by have := HP.out.2 hh; cases this
            have HC := Lib.hid (pcheck_bad br b u 0 false w2 HH2.out (.inr rfl))
            have HRR : Hid (R = ([], b, 6)) := Lib.hid (by rw [HRD.out, if_pos rfl, if_neg (fun hh => hpp ⟨hh.1, fun j hj => hh.2 j (by rw [← hh.1]; exact hj)⟩)])
            clear hpp
            go_wp2_with (go_at_call 60; refine HC.out.mono ?_; rintro r w3 ⟨rfl, h3, k3⟩; have H3 := Lib.hid (And.intro h3 k3); clear h3 k3)
            go_ret
            rw [HRR.out]
            exact ⟨none, 0, rfl, World.ownsRow_nil _ _ _ _, H3.out.1, (Keep.of_below HO.out.2).trans H3.out.2⟩
        · have HC := Lib.hid (pcheck_bad br b u er p w2 HH2.out (.inl hz))
          rw [if_neg hz] at HC
          have HRR : Hid (R = ([], b, er)) := Lib.hid (by rw [HRD.out, if_neg hz])
          clear hz
          go_wp2_with (go_at_call 60; refine HC.out.mono ?_; rintro r w3 ⟨rfl, h3, k3⟩; have H3 := Lib.hid (And.intro h3 k3); clear h3 k3)
          go_ret
          rw [HRR.out]
          exact ⟨none, 0, rfl, World.ownsRow_nil _ _ _ _, H3.out.1, (Keep.of_below HO.out.2).trans H3.out.2⟩
  · have e1 : Bil.lst b e n mx = ([], b, e) := by unfold Bil.lst; rw [if_neg he]
    rw [e1]
    have n1 : (e != 0) = true := by rw [bne_iff_ne]; exact he
    have c1 : w.cell? ⟨br, 1, none⟩ = some (.int .i64 e) := h.cell1
    have HH := Lib.hid h
    clear h e1 he hC h3 hg
    go_enter Tryd.func62, Tryd.ntmps62
    go_wp2_with fail
    go_ret
    exact ⟨none, 0, rfl, World.ownsRow_nil _ _ _ _, HH.out, Keep.refl _ _⟩
end Go.Proofs.YtkjomnakolhdcaaDoor
