/- The readers of both decoders: number. Conditions: at most 2^40 bytes are read. -/
import Derived.Test.YtcicfneekmbamaaChkSA
namespace Go.Proofs.Ytcicfneekmbamaa
set_option linter.unusedVariables false
set_option linter.unusedSimpArgs false
open Go.RowKit
theorem RdrAt.advance {w : World} {T : TypeId} {rb B : Nat} {s : Chk.Rdr} {A A' : Option Addr} {n c u : Nat} (hb : IsRow w rb T [.slice A n c, .int .i64 s.e]) (hn : s.b.length = n) (hc : n ≤ c) (hcm : c ≤ maxLen) (hu : u ≤ n) (hr : Rd w B 1 A' (n - u) ((bvs s.b).drop u)) (hB : B ≤ rb) :
    RdrAt (w.setCell ⟨rb, 0, none⟩ (.slice A' (n - u) (c - u))) T rb B ⟨s.b.drop u, s.e⟩ := by
  refine ⟨A', n - u, c - u, hb.set 0 (.slice A' (n - u) (c - u)), by rw [List.length_drop, hn], by omega, by omega, ?_, hB⟩
  rw [bvs, List.map_drop]
  exact hr.setCell (p := ⟨rb, 0, none⟩) hB _
set_option maxRecDepth 100000 in
set_option maxHeartbeats 1600000 in
theorem number_any (rb B : Nat) (s : Chk.Rdr) (lo hi : Int) (hL : s.b.length ≤ 1099511627776) (x : Int) (s' : Chk.Rdr) (hx : Chk.num s lo hi = (x, s')) (w : World) (h : RdrAt w 100 rb B s) :
    Calls Try.prog 61 #[.pointer (some ⟨rb, 0, none⟩), .int .i64 lo, .int .i64 hi] w (RdRes 100 rb B (.int .i64 x) s' w) := by
  have hce := h.cellE
  have H := Lib.hid h
  obtain ⟨b, e⟩ := s
  dsimp only at hce
  by_cases he : e = 0
  · subst he
    obtain ⟨A, n, c, hb, hn, hc, hm, hr, hB⟩ := h
    have hcs : w.cell? ⟨rb, 0, none⟩ = some (.slice A n c) := hb.cell 0
    have hlt := hb.lt
    dsimp only at hn hL hr
    obtain ⟨y, u, er, hd⟩ : ∃ y u er, Wire.dec b = (y, u, er) := ⟨_, _, _, rfl⟩
    have HG := Lib.hid (wGet_len A c n b w B hn hr (by omega) hc hm y u er hd)
    have HN := Lib.hid hn
    have HD := Lib.hid hd
    have HX := Lib.hid hx
    have HR := Lib.hid hr
    have HRB := Lib.hid (And.intro hb hB)
    have HU := Lib.hid (show Chk.num ⟨b, 0⟩ lo hi = if er ≠ 0 then (0, ⟨b, er⟩) else if lo ≤ y ∧ y ≤ hi then (y, ⟨b.drop u, 0⟩) else (0, ⟨b, 6⟩) from by
      unfold Chk.num; rw [if_neg (fun e => e rfl)]; show (if (Wire.dec b).2.2 ≠ 0 then _ else _) = _; rw [hd])
    rw [HU.out] at HX
    clear hd hb hn hr hx hB
    by_cases her : er = 0
    · subst her
      have hx := HX.out
      rw [if_neg (fun e => e rfl)] at hx
      have HF1 := Lib.hid (fail_any rb B ⟨b, 0⟩ true 0 true rfl w H.out)
      rw [show failS ⟨b, 0⟩ true 0 = ⟨b, 0⟩ from by unfold failS; rw [if_neg (fun h => by cases h.2)]] at HF1
      by_cases hio : lo ≤ y ∧ y ≤ hi
      · rw [if_pos hio] at hx
        obtain ⟨rfl, rfl⟩ := Prod.mk.inj hx
        obtain ⟨r1, r2, r3, r4, r5, _⟩ := Wire.dec_ok HD.out
        rw [HN.out] at r5
        have h1 : lo ≤ y := hio.1
        have h2 : y ≤ hi := hio.2
        have HU5 := Lib.hid r5
        clear hio hx r1 r2 r3 r4 r5
        go_enter Try.func61, Try.ntmps61
        go_upto_region 6 with (first
          | (have tok := hs2; go_at_call 63; refine (fail_any rb B _ true 6 true rfl w2 hs2).mono ?_; rintro e' w3 ⟨rfl, hs3, hk3⟩)
          | (go_at_call 63; refine HF1.out.mono ?_; rintro e' w2 ⟨rfl, hs2, hk2⟩)
          | (go_at_call 85; refine HG.out.mono ?_; rintro e' w1 ⟨rfl, hw1⟩; obtain rfl := hw1.symm))
        have HS3 := Lib.hid hs3
        have HK3 := Lib.hid (hk2.trans hk3)
        obtain ⟨A3, n3, c3, hb3, hn3, hc3, hm3, hr3, hB3⟩ := hs3
        have hn3' : n3 = n := by have := HN.out; have h4 : b.length = n3 := hn3; omega
        subst hn3'
        have c0 : w3.cell? ⟨rb, 0, none⟩ = some (.slice A3 n3 c3) := hb3.cell 0
        have f0 := hb3.frozen 0
        have hrc := hr3.cut (k := u) HU5.out hc3
        have hsl := fun w => run_cutFrom (P := Try.prog) w bytesE A3 n3 c3 u .i64 HU5.out
        obtain ⟨A', hA'⟩ : ∃ A', (if c3 = u then A3 else A3.map (·.add (u * 1))) = A' := ⟨_, rfl⟩
        rw [hA'] at hrc
        rw [Nat.mul_one] at hrc hA'
        simp only [Nat.mul_one, hA'] at hsl
        have HAD := Lib.hid (RdrAt.advance (s := ⟨b, 0⟩) (A' := A') hb3 HN.out hc3 hm3 HU5.out hrc hB3)
        have hu0 : (0 : Int) ≤ u := by omega
        have hu1 : (u : Int) ≤ n3 := by have := HU5.out; omega
        clear hA' hs2 hk2 hk3 hb3 hn3 hc3 hm3 hr3 hB3 hrc
        go_wp2_with fail
        go_ret
        exact ⟨rfl, HAD.out, HK3.out.trans (setE_keep w3 rb 0 _)⟩
      · rw [if_neg hio] at hx
        obtain ⟨rfl, rfl⟩ := Prod.mk.inj hx
        have hcase : decide (lo ≤ y) = false ∨ (decide (lo ≤ y) = true ∧ decide (y ≤ hi) = false) := by
          by_cases h1 : lo ≤ y
          · exact .inr ⟨decide_eq_true h1, decide_eq_false fun h2 => hio ⟨h1, h2⟩⟩
          · exact .inl (decide_eq_false h1)
        have hfx : failS ⟨b, 0⟩ false 6 = ⟨b, 6⟩ := by unfold failS; rw [if_pos ⟨rfl, rfl⟩]
        have HF2 := Lib.hid (fun w2 (h2 : RdrAt w2 100 rb B ⟨b, 0⟩) => fail_any rb B ⟨b, 0⟩ false 6 false (by rw [hfx]; show ((6 : Int) == 0) = false; decide) w2 h2)
        rw [hfx] at HF2
        clear hio hx hfx
        rcases hcase with h1 | ⟨h1, h2⟩
        all_goals
          go_enter Try.func61, Try.ntmps61
          go_wp2_with (first
            | (have tok := hs2; go_at_call 63; refine (HF2.out w2 hs2).mono ?_; rintro e' w3 ⟨rfl, hs3, hk3⟩)
            | (go_at_call 63; refine HF1.out.mono ?_; rintro e' w2 ⟨rfl, hs2, hk2⟩)
            | (go_at_call 85; refine HG.out.mono ?_; rintro e' w1 ⟨rfl, hw1⟩; obtain rfl := hw1.symm))
          go_ret
          exact ⟨rfl, hs3, hk2.trans hk3⟩
    · have hx := HX.out
      rw [if_pos her] at hx
      obtain ⟨rfl, rfl⟩ := Prod.mk.inj hx
      have her' : (er == 0) = false := by simpa using her
      have HF1 := Lib.hid (fail_any rb B ⟨b, 0⟩ false er false her' w H.out)
      rw [show failS ⟨b, 0⟩ false er = ⟨b, er⟩ from by unfold failS; rw [if_pos ⟨rfl, rfl⟩]] at HF1
      clear hx her
      go_enter Try.func61, Try.ntmps61
      go_wp2_with (first
        | (go_at_call 63; refine HF1.out.mono ?_; rintro e' w2 ⟨rfl, hs2, hk2⟩)
        | (go_at_call 85; refine HG.out.mono ?_; rintro e' w1 ⟨rfl, hw1⟩; obtain rfl := hw1.symm))
      go_ret
      exact ⟨rfl, hs2, hk2⟩
  · rw [Chk.num_err (s := ⟨b, e⟩) he] at hx
    obtain ⟨rfl, rfl⟩ := Prod.mk.inj hx
    have he' : (e != 0) = true := by simpa using he
    clear he hx h
    go_enter Try.func61, Try.ntmps61
    go_wp2
    go_ret
    exact ⟨rfl, H.out, Keep.refl _ _⟩
set_option maxRecDepth 100000 in
set_option maxHeartbeats 1600000 in
theorem rnumber_any (rb B : Nat) (s : Chk.Rdr) (lo hi : Int) (hL : s.b.length ≤ 1099511627776) (x : Int) (s' : Chk.Rdr) (hx : Chk.num s lo hi = (x, s')) (w : World) (h : RdrAt w 106 rb B s) :
    Calls Try.prog 64 #[.pointer (some ⟨rb, 0, none⟩), .int .i64 lo, .int .i64 hi] w (RdRes 106 rb B (.int .i64 x) s' w) := by
  have hce := h.cellE
  have H := Lib.hid h
  obtain ⟨b, e⟩ := s
  dsimp only at hce
  by_cases he : e = 0
  · subst he
    obtain ⟨A, n, c, hb, hn, hc, hm, hr, hB⟩ := h
    have hcs : w.cell? ⟨rb, 0, none⟩ = some (.slice A n c) := hb.cell 0
    have hlt := hb.lt
    dsimp only at hn hL hr
    obtain ⟨y, u, er, hd⟩ : ∃ y u er, Wire.dec b = (y, u, er) := ⟨_, _, _, rfl⟩
    have HG := Lib.hid (rGet_len A c n b w B hn hr (by omega) hc hm y u er hd (by omega))
    have HN := Lib.hid hn
    have HD := Lib.hid hd
    have HX := Lib.hid hx
    have HR := Lib.hid hr
    have HRB := Lib.hid (And.intro hb (And.intro hB (And.intro hc hm)))
    have HU := Lib.hid (show Chk.num ⟨b, 0⟩ lo hi = if er ≠ 0 then (0, ⟨b, er⟩) else if lo ≤ y ∧ y ≤ hi then (y, ⟨b.drop u, 0⟩) else (0, ⟨b, 6⟩) from by
      unfold Chk.num; rw [if_neg (fun e => e rfl)]; show (if (Wire.dec b).2.2 ≠ 0 then _ else _) = _; rw [hd])
    rw [HU.out] at HX
    clear hd hb hn hr hx hB hc hm
    by_cases her : er = 0
    · subst her
      have hx := HX.out
      rw [if_neg (fun e => e rfl)] at hx
      by_cases hio : lo ≤ y ∧ y ≤ hi
      · rw [if_pos hio] at hx
        obtain ⟨rfl, rfl⟩ := Prod.mk.inj hx
        obtain ⟨r1, r2, r3, r4, r5, _⟩ := Wire.dec_ok HD.out
        rw [HN.out] at r5
        have d1 : decide (y < lo) = false := decide_eq_false (by have := hio.1; omega)
        have d2 : decide (hi < y) = false := decide_eq_false (by have := hio.2; omega)
        have HU5 := Lib.hid r5
        clear hio hx r1 r2 r3 r4 r5
        go_enter Try.func64, Try.ntmps64
        go_upto_region 10 with (go_at_call 88; refine HG.out.mono ?_; rintro e' w1 ⟨rfl, b1⟩; have hce1 := (H.out.below b1).cellE)
        have hb3 := HRB.out.1.below' b1
        have c0 : w1.cell? ⟨rb, 0, none⟩ = some (.slice A n c) := hb3.cell 0
        have f0 := hb3.frozen 0
        have hrc := (HR.out.keep fun p hp => b1.cell (p := p) (by have := HRB.out.2.1; omega)).cut (k := u) HU5.out HRB.out.2.2.1
        have hsl := fun w => run_cutFrom (P := Try.prog) w bytesE A n c u .i64 HU5.out
        obtain ⟨A', hA'⟩ : ∃ A', (if c = u then A else A.map (·.add (u * 1))) = A' := ⟨_, rfl⟩
        rw [hA'] at hrc
        rw [Nat.mul_one] at hrc hA'
        simp only [Nat.mul_one, hA'] at hsl
        have HAD := Lib.hid (RdrAt.advance (s := ⟨b, 0⟩) (A' := A') hb3 HN.out HRB.out.2.2.1 HRB.out.2.2.2 HU5.out hrc HRB.out.2.1)
        have hu0 : (0 : Int) ≤ u := by omega
        have hu1 : (u : Int) ≤ n := by have := HU5.out; omega
        have HK1 : Hid (Keep (fun k => k = rb) w w1) := Lib.hid (Keep.of_below b1)
        clear hA' hb3 hrc b1
        go_wp2_with fail
        go_ret
        exact ⟨rfl, HAD.out, HK1.out.trans (setE_keep w1 rb 0 _)⟩
      · rw [if_neg hio] at hx
        obtain ⟨rfl, rfl⟩ := Prod.mk.inj hx
        have hcase : decide (y < lo) = true ∨ (decide (y < lo) = false ∧ decide (hi < y) = true) := by
          by_cases h1 : y < lo
          · exact .inl (decide_eq_true h1)
          · exact .inr ⟨decide_eq_false h1, decide_eq_true (by omega)⟩
        clear hio hx
        rcases hcase with h1 | ⟨h1, h2⟩
        all_goals
          go_enter Try.func64, Try.ntmps64
          go_wp2_with (go_at_call 88; refine HG.out.mono ?_; rintro e' w1 ⟨rfl, b1⟩; have hf1 := (H.out.below b1).frozen 1; have hce1 := (H.out.below b1).cellE)
          go_ret
          exact ⟨rfl, (H.out.below b1).setE 6, (Keep.of_below b1).trans (setE_keep w1 rb 1 _)⟩
    · have hx := HX.out
      rw [if_pos her] at hx
      obtain ⟨rfl, rfl⟩ := Prod.mk.inj hx
      have her' : (er != 0) = true := by simpa using her
      clear hx her
      go_enter Try.func64, Try.ntmps64
      go_wp2_with (go_at_call 88; refine HG.out.mono ?_; rintro e' w1 ⟨rfl, b1⟩; have hf1 := (H.out.below b1).frozen 1; have hce1 := (H.out.below b1).cellE)
      go_ret
      exact ⟨rfl, (H.out.below b1).setE er, (Keep.of_below b1).trans (setE_keep w1 rb 1 _)⟩
  · rw [Chk.num_err (s := ⟨b, e⟩) he] at hx
    obtain ⟨rfl, rfl⟩ := Prod.mk.inj hx
    have he' : (e != 0) = true := by simpa using he
    clear he hx h
    go_enter Try.func64, Try.ntmps64
    go_wp2
    go_ret
    exact ⟨rfl, H.out, Keep.refl _ _⟩
end Go.Proofs.Ytcicfneekmbamaa
