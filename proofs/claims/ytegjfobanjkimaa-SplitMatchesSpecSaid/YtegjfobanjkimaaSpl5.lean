/- The reference's sum and Even of layer 33. Conditions: at most 1000 weights or shares. -/
import Derived.Test.YtegjfobanjkimaaSplF
namespace Go.Proofs.Ytegjfobanjkimaa
set_option linter.unusedVariables false
set_option linter.unusedSimpArgs false
open Go.RowKit
/-- what the reference's sum says -/
def RSum (ws : List Int) (n : Nat) (e : Ending) : Prop := (e = .returned (.tuple #[.int .i64 (Spl.sumTo (wOf ws) n), .bool true]) ∧ OkTo ws n ∧ 0 < Spl.sumTo (wOf ws) n ∧ Spl.sumTo (wOf ws) n ≤ 2147483647) ∨ (∃ x, e = .returned (.tuple #[.int .i64 x, .bool false]) ∧ (¬ OkTo ws n ∨ Spl.sumTo (wOf ws) n = 0))
set_option maxRecDepth 100000 in
set_option maxHeartbeats 1600000 in
theorem refSum_any (A : Option Addr) (n c : Nat) (ws : List Int) (hl : ws.length = n) (hn : n ≤ 1000) (B : Nat) (w : World) (hr : Rd w B 1 A n (ivs ws)) :
    Calls Try.prog 19 #[.slice A n c] w fun e w' => RSum ws n e ∧ w' = w := by
  have hn1 : ¬ ((65536 : Int) < (n : Int)) := by omega
  have HR := Lib.hid hr
  have HL := Lib.hid hl
  clear hr hl
  by_cases h0 : n = 0
  · subst h0
    go_enter Try.func19, Try.ntmps19
    go_wp2
    go_ret2
    exact ⟨Or.inr ⟨0, rfl, Or.inr rfl⟩, rfl⟩
  have e0 : ((n : Int) == 0) = false := by rw [beq_eq_false_iff_ne]; omega
  go_enter Try.func19, Try.ntmps19
  go_wp2
  go_loop [4, 5] (fun u4 u5 => ∃ (k : Nat) (s : Int), k ≤ n ∧ u4 = .int .i64 s ∧ u5 = .int .i64 k ∧ 0 ≤ s ∧ s ≤ 2147483647 ∧ Hid (OkTo ws k ∧ s = Spl.sumTo (wOf ws) k)) (fun _ u5 => n - (intOf u5).toNat)
  case atStart => exact ⟨0, 0, Nat.zero_le _, rfl, rfl, by decide, by decide, fun i hi => absurd hi (Nat.not_lt_zero _), rfl⟩
  case round =>
    obtain ⟨k, s, hk, rfl, rfl, s0, s1, HS⟩ := hrel
    by_cases hlt : k < n
    · obtain ⟨b, off, rfl, _, hc⟩ := HR.out.int HL.out (by omega)
      have hck := hc k hlt
      have i0 : (0 : Int) ≤ (k : Int) := by omega
      have i1 : (k : Int) < (n : Int) := by omega
      have hsu : Spl.sumTo (wOf ws) (k + 1) = Spl.sumTo (wOf ws) k + ws.getD k 0 := rfl
      rw [← HS.out.2] at hsu
      obtain ⟨x, hx⟩ : ∃ x, ws.getD k 0 = x := ⟨_, rfl⟩
      rw [hx] at hck hsu
      have HX := Lib.hid hx
      have HSU := Lib.hid hsu
      clear hc hsu hx
      by_cases h1 : x < 0
      · have HNO : Hid (¬ OkTo ws n) := Lib.hid fun h => by have := (h k (by omega)).1; rw [HX.out] at this; omega
        go_wp2_with fail
        go_ret2
        exact ⟨Or.inr ⟨0, rfl, Or.inl HNO.out⟩, rfl⟩
      · by_cases h2 : 2147483647 < x
        · have HNO : Hid (¬ OkTo ws n) := Lib.hid fun h => by have := h.le (t := k) (by omega); rw [HX.out] at this; omega
          go_wp2_with fail
          go_ret2
          exact ⟨Or.inr ⟨0, rfl, Or.inl HNO.out⟩, rfl⟩
        · have w2 : IntKind.i64.wrap (s + x) = s + x := IntWalk.i64_in _ (by omega)
          by_cases h3 : 2147483647 < s + x
          · have HNO : Hid (¬ OkTo ws n) := Lib.hid fun h => by have := (h k (by omega)).2; rw [HSU.out] at this; omega
            go_wp2_with fail
            go_ret2
            exact ⟨Or.inr ⟨0, rfl, Or.inl HNO.out⟩, rfl⟩
          · go_wp2_with fail
            go_round
            case rel =>
              refine ⟨k + 1, s + x, by omega, rfl, by go_num, by omega, by omega, fun i hi => ?_, HSU.out.symm⟩
              by_cases e : i = k
              · subst e; rw [HX.out, HSU.out]; omega
              · exact HS.out.1 i (by omega)
            case measure => simp [intOf]; omega
    · obtain rfl : k = n := by omega
      by_cases hs : 0 < s
      · go_wp2_with fail
        go_ret2
        refine ⟨Or.inl ⟨by rw [← HS.out.2]; simp [hs], HS.out.1, ?_, ?_⟩, rfl⟩
        · rw [← HS.out.2]; exact hs
        · rw [← HS.out.2]; exact s1
      · have hz : s = 0 := by omega
        subst hz
        go_wp2_with fail
        go_ret2
        exact ⟨Or.inr ⟨0, rfl, Or.inr HS.out.2.symm⟩, rfl⟩
set_option maxHeartbeats 1600000 in
theorem refEven_bad (T ni : Int) (hn : ni ≤ 1000) (hbad : T < 0 ∨ 2147483647 < T ∨ ni < 1) (w : World) :
    Calls Try.prog 10 #[.int .i64 T, .int .i64 ni] w fun e w' => e = .returned (.tuple #[.slice none 0 0, .int .i64 1]) ∧ Below w.heap.size w w' := by
  by_cases h1 : T < 0
  · clear hbad hn
    go_enter Try.func10, Try.ntmps10
    go_wp2
    go_ret2
    exact ⟨rfl, Below.refl _ _⟩
  · by_cases h2 : 2147483647 < T
    · clear hbad hn
      go_enter Try.func10, Try.ntmps10
      go_wp2
      go_ret2
      exact ⟨rfl, Below.refl _ _⟩
    · have h3 : ni < 1 := by omega
      clear hbad hn
      go_enter Try.func10, Try.ntmps10
      go_wp2
      go_ret2
      exact ⟨rfl, Below.refl _ _⟩
/-- the reference's Even's results -/
def REOk (T : Int) (n : Nat) (w : World) (e : Ending) (w' : World) : Prop := ∃ P c, e = .returned (.tuple #[.slice P n c, .int .i64 0]) ∧ Rd w' w'.heap.size 1 P n (ivs (rowL n (evenOf T n))) ∧ Below w.heap.size w w'
set_option maxRecDepth 100000 in
set_option maxHeartbeats 4000000 in
theorem refEven_ok (T : Int) (n : Nat) (h0 : 0 < n) (hn : n ≤ 1000) (t0 : 0 ≤ T) (t1 : T ≤ 2147483647) (w : World) :
    Calls Try.prog 10 #[.int .i64 T, .int .i64 (n : Int)] w (REOk T n w) := by
  have hq1 := Int.ediv_nonneg t0 (show (0 : Int) ≤ (n : Int) by omega)
  have hq2 : T / (n : Int) ≤ T := Int.ediv_le_self _ t0
  have hr1 := Int.emod_nonneg T (show (n : Int) ≠ 0 by omega)
  have hr2 := Int.emod_lt_of_pos T (show (0 : Int) < (n : Int) by omega)
  have HEV : Hid (∀ t, evenOf T n t = T / (n : Int) + if (t : Int) < T % (n : Int) then 1 else 0) := Lib.hid fun _ => rfl
  obtain ⟨q, hq⟩ : ∃ q, T / (n : Int) = q := ⟨_, rfl⟩
  obtain ⟨r, hr⟩ : ∃ r : Nat, T % (n : Int) = (r : Int) := ⟨(T % (n : Int)).toNat, by omega⟩
  rw [hq] at hq1 hq2 HEV
  rw [hr] at hr1 hr2 HEV
  have d1 : T.tdiv (n : Int) = q := by rw [Int.tdiv_eq_ediv_of_nonneg t0]; exact hq
  have d2 : T.tmod (n : Int) = (r : Int) := by rw [Int.tmod_eq_emod_of_nonneg t0]; exact hr
  have w1 : IntKind.i64.wrap q = q := IntWalk.i64_in _ (by omega)
  have w2 : IntKind.i64.wrap (r : Int) = (r : Int) := IntWalk.i64_in _ (by omega)
  have w3 : IntKind.i64.wrap (q + 1) = q + 1 := IntWalk.i64_in _ (by omega)
  have e0 : ((n : Int) == 0) = false := by rw [beq_eq_false_iff_ne]; omega
  have e0' : ¬ ((n : Int) = 0) := by omega
  have n1 : ¬ T < 0 := by omega
  have n2 : ¬ 2147483647 < T := by omega
  have n3 : ¬ ((n : Int) < 1) := by omega
  have n4 : ¬ ((65536 : Int) < (n : Int)) := by omega
  have HEVT := Lib.hid (fun (t : Nat) (h : (t : Int) < (r : Int)) => show evenOf T n t = q + 1 by rw [HEV.out, if_pos h])
  have HEVF := Lib.hid (fun (t : Nat) (h : ¬ (t : Int) < (r : Int)) => show evenOf T n t = q by rw [HEV.out, if_neg h]; omega)
  clear hq hr hr1 hr2
  go_enter Try.func10, Try.ntmps10
  go_wp2_with fail
  go_loopw [6, 7] (fun u6 u7 wr => ∃ (i : Nat) (AP : Option Addr) (cp : Nat), i ≤ n ∧ u6 = .slice AP i cp ∧ u7 = .int .i64 i ∧ Hid (wr.ownsRow w.heap.size 3 1 (.slice AP i cp) i (ivs (rowL i (evenOf T n)))) ∧ Below w.heap.size w wr) (fun _ u7 _ => n - (intOf u7).toNat)
  case atStart => exact ⟨0, none, 0, Nat.zero_le _, rfl, rfl, World.ownsRow_nil _ _ _ _, Below.refl _ _⟩
  case round =>
    obtain ⟨i, AP, cp, hi, rfl, rfl, HOW, hbr⟩ := hrel
    by_cases hlt : i < n
    · have i1 : (i : Int) < (n : Int) := by omega
      have own1 := HOW.out
      have hsz := hbr.size
      have hsucc : rowL (i + 1) (evenOf T n) = rowL i (evenOf T n) ++ [evenOf T n i] := by simp [rowL, List.range_succ]
      by_cases hir : (i : Int) < (r : Int)
      · have HE := Lib.hid (HEVT.out i hir)
        have HSU := Lib.hid hsucc
        clear hsucc
        go_wp2_with (first
          | (at_builtin; refine wpList_app1 rfl (.tmp 38) (.tmp 40) 22 rfl w.heap.size 3 _ 8 intT AP i cp _ _ rfl rfl own1 hbr rfl (by omega) (Nat.le_refl _) hsz ?_; intro g7 c7 w7 own7 hbel7 hg7)
          | fail)
        go_roundw
        case rel => exact ⟨i + 1, _, c7, by omega, rfl, by go_num, by rw [HSU.out, HE.out]; unfold Hid; simpa [ivs] using own7, hbel7⟩
        case measure => simp [intOf]; omega
      · have HE := Lib.hid (HEVF.out i (by omega))
        have HSU := Lib.hid hsucc
        clear hsucc
        go_wp2_with (first
          | (at_builtin; refine wpList_app1 rfl (.tmp 38) (.tmp 40) 22 rfl w.heap.size 3 _ 8 intT AP i cp _ _ rfl rfl own1 hbr rfl (by omega) (Nat.le_refl _) hsz ?_; intro g7 c7 w7 own7 hbel7 hg7)
          | fail)
        go_roundw
        case rel => exact ⟨i + 1, _, c7, by omega, rfl, by go_num, by rw [HSU.out, HE.out]; unfold Hid; simpa [ivs] using own7, hbel7⟩
        case measure => simp [intOf]; omega
    · obtain rfl : i = n := by omega
      have HRD := Lib.hid (Rd.of_own HOW.out)
      have HBR := Lib.hid hbr
      clear hbr
      go_wp2_with fail
      go_ret2
      exact ⟨AP, cp, rfl, HRD.out, HBR.out⟩
end Go.Proofs.Ytegjfobanjkimaa
