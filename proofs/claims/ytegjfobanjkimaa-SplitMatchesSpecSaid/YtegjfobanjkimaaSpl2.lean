/- Layer 33's sum and Weighted. Conditions: at most 1000 weights. -/
import Derived.Test.YtegjfobanjkimaaSpl1
import Derived.Test.YtegjfobanjkimaaKeep
import Derived.Deep.DeepCutAuto
namespace Go.Proofs.Ytegjfobanjkimaa
set_option linter.unusedVariables false
set_option linter.unusedSimpArgs false
open Go.RowKit
theorem alloc_size1 (w : World) (o : Obj) : (w.alloc o).heap.size = w.heap.size + 1 := by simp
abbrev wOf (ws : List Int) (t : Nat) : Int := ws.getD t 0
/-- the first k weights are valid -/
def OkTo (ws : List Int) (k : Nat) : Prop := ∀ i, i < k → 0 ≤ ws.getD i 0 ∧ Spl.sumTo (wOf ws) (i + 1) ≤ 2147483647
/-- what the sum says -/
def SumIs (ws : List Int) (n : Nat) (S : Int) : Prop := (OkTo ws n ∧ S = Spl.sumTo (wOf ws) n ∧ 0 ≤ S ∧ S ≤ 2147483647) ∨ (¬ OkTo ws n ∧ S = 0)
theorem OkTo.nonneg {ws : List Int} {k : Nat} (h : OkTo ws k) : 0 ≤ Spl.sumTo (wOf ws) k := (Spl.sum_bound (f := wOf ws) (n := k) (b := 2147483647) fun t ht => ⟨(h t ht).1, by
  have h1 := (h t ht).2
  have h2 : 0 ≤ Spl.sumTo (wOf ws) t := by
    have : ∀ j, j ≤ t → 0 ≤ Spl.sumTo (wOf ws) j := by
      intro j
      induction j with
      | zero => intro _; exact Int.le_refl _
      | succ j ih => intro hj; have := ih (by omega); have := (h j (by omega)).1; show 0 ≤ Spl.sumTo (wOf ws) j + wOf ws j; unfold wOf at *; omega
    exact this t (Nat.le_refl _)
  have h3 : Spl.sumTo (wOf ws) (t + 1) = Spl.sumTo (wOf ws) t + wOf ws t := rfl
  omega⟩).1
theorem OkTo.le {ws : List Int} {k : Nat} (h : OkTo ws k) {t : Nat} (ht : t < k) : ws.getD t 0 ≤ 2147483647 := by
  have h1 := (h t ht).2
  have h2 := OkTo.nonneg (k := t) (ws := ws) fun i hi => h i (by omega)
  have h3 : Spl.sumTo (wOf ws) (t + 1) = Spl.sumTo (wOf ws) t + ws.getD t 0 := rfl
  omega
set_option maxHeartbeats 1600000 in
theorem sum_any (A : Option Addr) (n c : Nat) (ws : List Int) (hl : ws.length = n) (hn : n ≤ 1000) (B : Nat) (w : World) (hr : Rd w B 1 A n (ivs ws)) :
    Calls Try.prog 15 #[.slice A n c] w fun e w' => (∃ S, e = .returned (.int .i64 S) ∧ SumIs ws n S) ∧ w' = w := by
  have hn1 : ¬ ((65536 : Int) < (n : Int)) := by omega
  have HR := Lib.hid hr
  have HL := Lib.hid hl
  clear hr hl
  go_enter Try.func15, Try.ntmps15
  go_wp2
  go_loop [3, 11] (fun u3 u11 => ∃ (k : Nat) (s : Int), k ≤ n ∧ u3 = .int .i64 s ∧ u11 = .int .i64 k ∧ 0 ≤ s ∧ s ≤ 2147483647 ∧ Hid (OkTo ws k ∧ s = Spl.sumTo (wOf ws) k)) (fun _ u11 => n - (intOf u11).toNat)
  case atStart => exact ⟨0, 0, Nat.zero_le _, rfl, rfl, by decide, by decide, fun i hi => absurd hi (Nat.not_lt_zero _), rfl⟩
  case round =>
    obtain ⟨k, s, hk, rfl, rfl, s0, s1, HS⟩ := hrel
    by_cases hlt : k < n
    · obtain ⟨b, off, rfl, _, hc⟩ := HR.out.int HL.out (by omega)
      have hck := hc k hlt
      have i0 : (0 : Int) ≤ (k : Int) := by omega
      have i1 : (k : Int) < (n : Int) := by omega
      have hsu : Spl.sumTo (wOf ws) (k + 1) = Spl.sumTo (wOf ws) k + ws.getD k 0 := rfl
      rw [← HS.out.2] at hsu
      obtain ⟨x, hx⟩ : ∃ x, ws.getD k 0 = x := ⟨_, rfl⟩
      rw [hx] at hck hsu
      have HX := Lib.hid hx
      have HSU := Lib.hid hsu
      have w1 : IntKind.i64.wrap (2147483647 - s) = 2147483647 - s := IntWalk.i64_in _ (by omega)
      clear hc hsu hx
      by_cases h1 : x < 0
      · have HNO : Hid (¬ OkTo ws n) := Lib.hid fun h => by have := (h k (by omega)).1; rw [HX.out] at this; omega
        go_wp2_with fail
        go_ret
        exact ⟨⟨0, rfl, Or.inr ⟨HNO.out, rfl⟩⟩, rfl⟩
      · by_cases h2 : 2147483647 - s < x
        · have HNO : Hid (¬ OkTo ws n) := Lib.hid fun h => by have := (h k (by omega)).2; rw [HSU.out] at this; omega
          go_wp2_with fail
          go_ret
          exact ⟨⟨0, rfl, Or.inr ⟨HNO.out, rfl⟩⟩, rfl⟩
        · have w2 : IntKind.i64.wrap (s + x) = s + x := IntWalk.i64_in _ (by omega)
          go_wp2_with fail
          go_round
          case rel =>
            refine ⟨k + 1, s + x, by omega, rfl, by go_num, by omega, by omega, fun i hi => ?_, HSU.out.symm⟩
            by_cases e : i = k
            · subst e; rw [HX.out, HSU.out]; omega
            · exact HS.out.1 i (by omega)
          case measure => simp [intOf]; omega
    · obtain rfl : k = n := by omega
      go_wp2_with fail
      go_ret
      exact ⟨⟨s, rfl, Or.inl ⟨HS.out.1, HS.out.2, s0, s1⟩⟩, rfl⟩
theorem intT : ElemT Try.prog 22 3 (.int .i64 0) 1 8 := ⟨Try.underlying22, by kernel_rfl, rfl, by decide, by decide⟩
theorem mkInts (n : Nat) (hn : n ≤ 1000) : ∃ M : Array Value, (∀ t, t < n → M[t]? = some (.int .i64 0)) ∧ ∀ W : World, (Instr.makeSlice 22 (.int .i64 (n : Int)) (.int .i64 (n : Int))).run Try.prog W = .ok (.slice (some ⟨W.heap.size, 0, none⟩) n n) (W.alloc (.cells M 3)) := by
  have hi := intT.info
  cases h : Try.prog.info? 3 with
  | none => rw [h] at hi; simp at hi
  | some i =>
    rw [h] at hi
    simp only [Option.map_some, Option.some.injEq, Prod.mk.injEq] at hi
    obtain ⟨hz, hs, hb⟩ := hi
    refine ⟨madeCells (Value.int .i64 0).cells ((n : Int).toNat * i.size), fun t ht => ?_, fun W => ?_⟩
    · have hc : (Value.int .i64 0).cells = #[.int .i64 0] := rfl
      rw [hs, hc]; simp [madeCells, ht, Nat.mod_one]
    · have := run_make (P := Try.prog) W 22 3 i (.int .i64 0) Try.underlying22 h hz .i64 .i64 n n (by omega) (Int.le_refl _) (by rw [hb]; omega) (by omega)
      simpa using this
theorem new_ints {w w' : World} {M : Array Value} {ty : TypeId} {n : Nat} (h : w.alloc (.cells M ty) = w') (hM : ∀ t, t < n → M[t]? = some (.int .i64 0)) : FRow w' w.heap.size n (fun _ => 0) ∧ w'.heap.size = w.heap.size + 1 ∧ Below w.heap.size w w' := by
  subst h
  refine ⟨⟨by rw [alloc_size1]; omega, fun t ht => ?_, fun t _ => World.frozen?_alloc_new _ _ _ _⟩, alloc_size1 _ _, (Below.refl _ _).alloc (Nat.le_refl _) _⟩
  rw [cell_of_row _ _ _ _ _ _ (heap_alloc_new w _)]; exact hM t ht
theorem new_cell {w w' : World} {v : Value} {ty : TypeId} (h : w.alloc (.cells #[v] ty) = w') : w'.cell? ⟨w.heap.size, 0, none⟩ = some v ∧ w'.heap.size = w.heap.size + 1 ∧ Below w.heap.size w w' := by
  subst h
  exact ⟨by rw [cell_of_row _ _ _ _ _ _ (heap_alloc_new w _)]; rfl, alloc_size1 _ _, (Below.refl _ _).alloc (Nat.le_refl _) _⟩
/-- the whole parts -/
def baseOf (T S : Int) (ws : List Int) (t : Nat) : Int := T * ws.getD t 0 / S
def baseL (T S : Int) (ws : List Int) (n : Nat) : List Int := (List.range n).map (baseOf T S ws)
theorem baseL_get (T S : Int) (ws : List Int) {n t : Nat} (h : t < n) : (baseL T S ws n).getD t 0 = baseOf T S ws t := by simp [baseL, List.getD, h]
/-- Weighted's results for valid arguments -/
def WOk (T S : Int) (ws : List Int) (n : Nat) (w : World) (e : Ending) (w' : World) : Prop := ∃ (g c : Nat) (p : Nat → Nat) (k : Nat), e = .returned (.tuple #[.slice (some ⟨g, 0, none⟩) n c, .int .i64 0]) ∧ n ≤ c ∧ FRow w' g n (fun t => (Spl.bump p (baseL T S ws n) k).getD t 0) ∧
  Spl.Ordr (fun t => T * ws.getD t 0 % S) n p ∧ (k : Int) = T - Spl.sumTo (baseOf T S ws) n ∧ k ≤ n ∧ w.heap.size ≤ g ∧ Below w.heap.size w w'
set_option maxRecDepth 100000 in
set_option maxHeartbeats 4000000 in
theorem weighted_bad (T : Int) (A : Option Addr) (n c : Nat) (ws : List Int) (hl : ws.length = n) (hn : n ≤ 1000) (B : Nat) (w : World) (hr : Rd w B 1 A n (ivs ws)) (hB : B ≤ w.heap.size) (hbad : T < 0 ∨ 2147483647 < T ∨ ¬ OkTo ws n ∨ Spl.sumTo (wOf ws) n = 0) :
    Calls Try.prog 11 #[.int .i64 T, .slice A n c] w fun e w' => e = .returned (.tuple #[.slice none 0 0, .int .i64 1]) ∧ Below w.heap.size w w' := by
  obtain ⟨w1, hw1⟩ : ∃ x, w.alloc (.cells #[.int .i64 T] 3) = x := ⟨_, rfl⟩
  obtain ⟨x1, z1, b1⟩ := new_cell hw1
  obtain ⟨w2, hw2⟩ : ∃ x, w1.alloc (.cells #[.slice A n c] 22) = x := ⟨_, rfl⟩
  obtain ⟨x2, z2, b2⟩ := new_cell hw2
  have hb2 := b1.trans (b2.mono b1.size)
  have HSUM := Lib.hid (sum_any A n c ws hl hn B w2 (hr.below (hb2.mono hB)))
  have X1 := (b2.cell (p := ⟨w.heap.size, 0, none⟩) (by show w.heap.size < w1.heap.size; omega)).trans x1
  have HW := Lib.hid (And.intro hw1 hw2)
  have HZ1 := Lib.hid z1
  have HBAD := Lib.hid hbad
  clear hw1 hw2 x1 z1
  go_enter Try.func11, Try.ntmps11
  go_upto_region 1 with fail
  rw [HW.out.1]
  try rw [← HZ1.out]
  rw [HW.out.2]
  have z1 := HZ1.out
  obtain ⟨bt, hbt⟩ : ∃ x, w.heap.size = x := ⟨_, rfl⟩
  obtain ⟨bw, hbw⟩ : ∃ x, w1.heap.size = x := ⟨_, rfl⟩
  have hwb : w.heap.size ≤ bt := Nat.le_of_eq hbt
  rw [hbt] at X1 z1 ⊢
  rw [hbw] at x2 z1 z2 ⊢
  have hbtw : bt < bw := by omega
  have hbw2 : bw < w2.heap.size := by omega
  have HB2 := Lib.hid hb2
  clear z1 z2 HW HZ1 hbt hbw b1 b2 hb2
  go_upto_region 2 with (go_at_call 15; refine HSUM.out.mono ?_; rintro e w3 ⟨⟨S, rfl, hS⟩, hw3⟩; rw [hw3]; clear hw3 w3; have HSI := Lib.hid hS; clear hS)
  obtain ⟨w3, hw3⟩ : ∃ x, w2.alloc (.cells #[.int .i64 S] 3) = x := ⟨_, rfl⟩
  rw [hw3]
  obtain ⟨x3, z3, b3⟩ := new_cell hw3
  have y1 := (b3.cell (p := ⟨bt, 0, none⟩) (by show bt < _; omega)).trans X1
  have y2 := (b3.cell (p := ⟨bw, 0, none⟩) (by show bw < _; omega)).trans x2
  obtain ⟨bs, hbs⟩ : ∃ x, w2.heap.size = x := ⟨_, rfl⟩
  rw [hbs] at x3 z3 hbw2 ⊢
  have hbs3 : bs < w3.heap.size := by omega
  have HB3 := Lib.hid (HB2.out.trans (b3.mono HB2.out.size))
  clear hw3 hbs z3 b3 X1 x2
  by_cases hs0 : S = 0
  · subst hs0
    go_wp2_with fail
    go_ret2
    exact ⟨rfl, HB3.out⟩
  · have es : (S == 0) = false := by rw [beq_eq_false_iff_ne]; exact hs0
    have hT : T < 0 ∨ 2147483647 < T := by
      rcases HBAD.out with h | h | h | h
      · exact Or.inl h
      · exact Or.inr h
      · rcases HSI.out with ⟨h1, _⟩ | ⟨_, h2⟩
        · exact absurd h1 h
        · exact absurd h2 hs0
      · rcases HSI.out with ⟨_, h2, _⟩ | ⟨_, h2⟩
        · exact absurd (h2.trans h) hs0
        · exact absurd h2 hs0
    clear hs0
    by_cases h1 : T < 0
    · clear hT
      go_wp2_with fail
      go_ret2
      exact ⟨rfl, HB3.out⟩
    · have h2 : 2147483647 < T := by omega
      clear hT
      go_wp2_with fail
      go_ret2
      exact ⟨rfl, HB3.out⟩
theorem sumTo_le {f : Nat → Int} {n : Nat} (h : ∀ t, t < n → 0 ≤ f t) : ∀ k, k < n → f k ≤ Spl.sumTo f n := by
  induction n with
  | zero => intro k hk; omega
  | succ n ih =>
    intro k hk
    have h0 : 0 ≤ Spl.sumTo f n := by
      have : ∀ j, j ≤ n → 0 ≤ Spl.sumTo f j := by
        intro j
        induction j with
        | zero => intro _; exact Int.le_refl _
        | succ j ihj => intro hj; have := ihj (by omega); have := h j (by omega); show 0 ≤ Spl.sumTo f j + f j; omega
      exact this n (Nat.le_refl _)
    show f k ≤ Spl.sumTo f n + f n
    rcases Nat.lt_or_ge k n with h1 | h1
    · have := ih (fun t ht => h t (by omega)) k h1; have := h n (by omega); omega
    · obtain rfl : k = n := by omega
      omega
theorem vw_of {T : Int} {ws : List Int} {n : Nat} (hl : ws.length = n) (t0 : 0 ≤ T) (t1 : T ≤ 2147483647) (h : OkTo ws n) (s0 : 0 < Spl.sumTo (wOf ws) n) (s1 : Spl.sumTo (wOf ws) n ≤ 2147483647) : VW T (Spl.sumTo (wOf ws) n) ws ∧ ∀ k, 0 ≤ baseOf T (Spl.sumTo (wOf ws) n) ws k ∧ baseOf T (Spl.sumTo (wOf ws) n) ws k ≤ T := by
  have hw : ∀ k : Nat, 0 ≤ ws.getD k 0 ∧ ws.getD k 0 ≤ Spl.sumTo (wOf ws) n := fun k => by
    rcases Nat.lt_or_ge k n with hk | hk
    · exact ⟨(h k hk).1, sumTo_le (fun t ht => (h t ht).1) k hk⟩
    · have : ws.getD k 0 = 0 := by simp [List.getD, List.getElem?_eq_none (show ws.length ≤ k by omega)]
      omega
  refine ⟨⟨t0, t1, s0, s1, fun k => ⟨(hw k).1, by have := (hw k).2; omega⟩⟩, fun k => ?_⟩
  unfold baseOf
  have h1 := Int.mul_nonneg t0 (hw k).1
  refine ⟨Int.ediv_nonneg h1 (by omega), ?_⟩
  have h2 : T * ws.getD k 0 ≤ T * Spl.sumTo (wOf ws) n := Int.mul_le_mul_of_nonneg_left (hw k).2 t0
  have h3 := Int.ediv_le_ediv s0 h2
  rwa [Int.mul_ediv_cancel _ (by omega)] at h3
set_option maxRecDepth 100000 in
set_option maxHeartbeats 8000000 in
theorem weighted_ok (T : Int) (A : Option Addr) (n c : Nat) (ws : List Int) (hl : ws.length = n) (hn : n ≤ 1000) (B : Nat) (w : World) (hr : Rd w B 1 A n (ivs ws)) (hB : B ≤ w.heap.size) (t0 : 0 ≤ T) (t1 : T ≤ 2147483647) (hok : OkTo ws n) (hsp : Spl.sumTo (wOf ws) n ≠ 0) :
    Calls Try.prog 11 #[.int .i64 T, .slice A n c] w (WOk T (Spl.sumTo (wOf ws) n) ws n w) := by
  obtain ⟨w1, hw1⟩ : ∃ x, w.alloc (.cells #[.int .i64 T] 3) = x := ⟨_, rfl⟩
  obtain ⟨x1, z1, b1⟩ := new_cell hw1
  obtain ⟨w2, hw2⟩ : ∃ x, w1.alloc (.cells #[.slice A n c] 22) = x := ⟨_, rfl⟩
  obtain ⟨x2, z2, b2⟩ := new_cell hw2
  have hb2 := b1.trans (b2.mono b1.size)
  have HSUM := Lib.hid (sum_any A n c ws hl hn B w2 (hr.below (hb2.mono hB)))
  have X1 := (b2.cell (p := ⟨w.heap.size, 0, none⟩) (by show w.heap.size < w1.heap.size; omega)).trans x1
  have HW := Lib.hid (And.intro hw1 hw2)
  have HZ1 := Lib.hid z1
  have HOK := Lib.hid hok
  have HSP := Lib.hid hsp
  have HR := Lib.hid hr
  clear hw1 hw2 x1 z1
  go_enter Try.func11, Try.ntmps11
  go_upto_region 1 with fail
  rw [HW.out.1]
  try rw [← HZ1.out]
  rw [HW.out.2]
  have z1 := HZ1.out
  obtain ⟨bt, hbt⟩ : ∃ x, w.heap.size = x := ⟨_, rfl⟩
  obtain ⟨bw, hbw⟩ : ∃ x, w1.heap.size = x := ⟨_, rfl⟩
  have hwb : w.heap.size ≤ bt := Nat.le_of_eq hbt
  rw [hbt] at X1 z1 ⊢
  rw [hbw] at x2 z1 z2 ⊢
  have hbtw : bt < bw := by omega
  have hbw2 : bw < w2.heap.size := by omega
  have HB2 := Lib.hid hb2
  clear z1 z2 HW HZ1 hbt hbw b1 b2 hb2
  go_upto_region 2 with (go_at_call 15; refine HSUM.out.mono ?_; rintro e w3 ⟨⟨S, rfl, hS⟩, hw3⟩; rw [hw3]; clear hw3 w3; have HSI := Lib.hid hS; clear hS)
  obtain ⟨w3, hw3⟩ : ∃ x, w2.alloc (.cells #[.int .i64 S] 3) = x := ⟨_, rfl⟩
  rw [hw3]
  obtain ⟨x3, z3, b3⟩ := new_cell hw3
  have y1 := (b3.cell (p := ⟨bt, 0, none⟩) (by show bt < _; omega)).trans X1
  have y2 := (b3.cell (p := ⟨bw, 0, none⟩) (by show bw < _; omega)).trans x2
  obtain ⟨bs, hbs⟩ : ∃ x, w2.heap.size = x := ⟨_, rfl⟩
  rw [hbs] at x3 z3 hbw2 ⊢
  have hbs3 : bs < w3.heap.size := by omega
  have HB3 := Lib.hid (HB2.out.trans (b3.mono HB2.out.size))
  clear hw3 hbs z3 b3 X1 x2
  obtain ⟨S0, hS0⟩ : ∃ x, Spl.sumTo (wOf ws) n = x := ⟨_, rfl⟩
  have hSS : S = Spl.sumTo (wOf ws) n ∧ 0 ≤ S ∧ S ≤ 2147483647 := by
    rcases HSI.out with ⟨_, h2, h3, h4⟩ | ⟨h1, _⟩
    · exact ⟨h2, h3, h4⟩
    · exact absurd HOK.out h1
  have hs0 : 0 < S := by have := HSP.out; omega
  have hvw := vw_of (T := T) hl t0 t1 HOK.out (by omega) (by omega)
  rw [← hSS.1] at hvw
  have HSE := Lib.hid hSS.1
  have hn0 : 0 < n := by
    rcases Nat.eq_zero_or_pos n with h | h
    · subst h; have : Spl.sumTo (wOf ws) 0 = 0 := rfl; omega
    · exact h
  have HVW := Lib.hid hvw.1
  have HBS := Lib.hid hvw.2
  have hlr := Spl.left_range (T := T) (w := wOf ws) (n := n) hSS.1.symm hs0 hn0
  have HLR : Hid (0 ≤ T - Spl.sumTo (baseOf T S ws) n ∧ T - Spl.sumTo (baseOf T S ws) n < n) := Lib.hid hlr
  have es : (S == 0) = false := by rw [beq_eq_false_iff_ne]; omega
  have es' : ¬ S = 0 := by omega
  have n1 : ¬ T < 0 := by omega
  have n2 : ¬ 2147483647 < T := by omega
  obtain ⟨M, hM, hmk⟩ := mkInts n hn
  have HM := Lib.hid hM
  have HL := Lib.hid hl
  have HS0 := Lib.hid (And.intro hs0 hSS.2.2)
  have HYY := Lib.hid (And.intro y1 (And.intro y2 x3))
  clear hS0 hSS hvw hlr hM hl hr hs0 HSI hok hsp
  go_upto_region 4 with fail
  go_cut [7, 8, 9] (fun u7 u8 u9 wx => ∃ gs go, u7 = .slice (some ⟨gs, 0, none⟩) n n ∧ u8 = .slice (some ⟨go, 0, none⟩) n n ∧ u9 = .int .i64 T ∧ Hid (gs ≠ go ∧ w3.heap.size ≤ gs ∧ w3.heap.size ≤ go) ∧ FRow wx gs n (fun _ => 0) ∧ FRow wx go n (fun _ => 0) ∧ Below w3.heap.size w3 wx)
  case first =>
    go_wp2_with fail
    have hv0 : Below w3.heap.size w3 w3.drew := (Below.refl _ _).drew
    refine wp_region_held_drew (S := fun W => Below w3.heap.size w3 W) (by kernel_rfl) (hv0) (fun hHeld => ?_)
    refine wpAnyH_take (i := 0) (oi := { dst := some 27, op := Op.load 22 (Operand.tmp 3), type := 22, pos := "split.go:47", after := #[], guard := none }) (v := ?v0_1001) rfl (by kernel_rfl) (by kernel_rfl) (by kernel_rfl) (fun _ _ _ h => h) (Or.inl ⟨by rfl, ?h0_1001⟩) (by assumption) ?r0_1001
    case h0_1001 =>
      intro W hSW
      try dsimp only at hSW
      have hcc := (hSW.cell (p := ⟨bw, 0, none⟩) (by show bw < _; omega)).trans HYY.out.2.1
      go_simp
      try with_reducible rfl
    try simp only [Act.put, List.setIfInBounds_toArray, List.set_cons_zero, List.set_cons_succ]
    refine wpAnyH_take (i := 1) (oi := { dst := some 28, op := Op.call { callee := Callee.builtin Builtin.len, args := #[Operand.tmp 27], argTypes := #[22] }, type := 3, pos := "split.go:47", after := #[{ on := 0, ground := Ground.data }], guard := none }) (v := ?v1_1002) rfl (by kernel_rfl) (by kernel_rfl) (by kernel_rfl) (fun _ _ _ h => h) (Or.inl ⟨by rfl, ?h1_1002⟩) (by assumption) ?r1_1002
    case h1_1002 =>
      intro W hSW
      try dsimp only at hSW
      go_simp
      try with_reducible rfl
    try simp only [Act.put, List.setIfInBounds_toArray, List.set_cons_zero, List.set_cons_succ]
    refine wpAnyH_take (i := 3) (oi := { dst := some 30, op := Op.load 22 (Operand.tmp 3), type := 22, pos := "split.go:47", after := #[], guard := none }) (v := ?v3_1003) rfl (by kernel_rfl) (by kernel_rfl) (by kernel_rfl) (fun _ _ _ h => h) (Or.inl ⟨by rfl, ?h3_1003⟩) (by assumption) ?r3_1003
    case h3_1003 =>
      intro W hSW
      try dsimp only at hSW
      have hcc := (hSW.cell (p := ⟨bw, 0, none⟩) (by show bw < _; omega)).trans HYY.out.2.1
      go_simp
      try with_reducible rfl
    try simp only [Act.put, List.setIfInBounds_toArray, List.set_cons_zero, List.set_cons_succ]
    refine wpAnyH_take (i := 4) (oi := { dst := some 31, op := Op.call { callee := Callee.builtin Builtin.len, args := #[Operand.tmp 30], argTypes := #[22] }, type := 3, pos := "split.go:47", after := #[{ on := 3, ground := Ground.data }], guard := none }) (v := ?v4_1004) rfl (by kernel_rfl) (by kernel_rfl) (by kernel_rfl) (fun _ _ _ h => h) (Or.inl ⟨by rfl, ?h4_1004⟩) (by assumption) ?r4_1004
    case h4_1004 =>
      intro W hSW
      try dsimp only at hSW
      go_simp
      try with_reducible rfl
    try simp only [Act.put, List.setIfInBounds_toArray, List.set_cons_zero, List.set_cons_succ]
    refine wpAnyH_take (i := 6) (oi := { dst := some 33, op := Op.load 3 (Operand.tmp 2), type := 3, pos := "split.go:47", after := #[{ on := 8, ground := Ground.gcOnly Departure.lateStores }], guard := none }) (v := ?v6_1005) rfl (by kernel_rfl) (by kernel_rfl) (by kernel_rfl) (fun _ _ _ h => h) (Or.inl ⟨by rfl, ?h6_1005⟩) (by assumption) ?r6_1005
    case h6_1005 =>
      intro W hSW
      try dsimp only at hSW
      have hcc := (hSW.cell (p := ⟨bt, 0, none⟩) (by show bt < _; omega)).trans HYY.out.1
      go_simp
      try with_reducible rfl
    try simp only [Act.put, List.setIfInBounds_toArray, List.set_cons_zero, List.set_cons_succ]
    refine wpAnyH_ready (rs := [2, 5]) (by kernel_rfl) (by simp) ?_
    refine AllReadyH.cons (o := { dst := some 29, op := Op.makeSlice 22 (Operand.tmp 28) (Operand.tmp 28), type := 22, pos := "split.go:47", after := #[{ on := 1, ground := Ground.data }, { on := 1, ground := Ground.data }], guard := none }) rfl (fun K hK => ?_) ?_
    · skip
      go_simp
      obtain ⟨w40, hw40⟩ : ∃ x, w3.drew.alloc (.cells M 3) = x := ⟨_, rfl⟩
      first | rw [hw40] | rw [show (w3.alloc (.cells M 3)).drew = w40 from hw40]
      obtain ⟨FS, z40, b40⟩ := new_ints hw40 HM.out
      have hv40 : Below w3.heap.size w3 w40 := hv0.trans (b40.mono hv0.size)
      obtain ⟨gs, hggs⟩ : ∃ x, w3.drew.heap.size = x := ⟨_, rfl⟩
      have lgs : w3.heap.size ≤ gs := by rw [← hggs]; exact hv0.size
      try (have hne : gs ≠ go := by have := FO.lt; omega)
      try (have FO := FO.below b40)
      rw [hggs] at FS
      first | rw [hggs] | rw [show w3.heap.size = gs from hggs]
      clear hw40 z40 hggs
      refine hK.out _ _ (hv40) (fun hHeld => ?_)
      clear hK K
      try simp only [Act.put, List.setIfInBounds_toArray, List.set_cons_zero, List.set_cons_succ]
      refine wpAnyH_take (i := 7) (oi := { dst := some 7, op := Op.assign (Operand.tmp 29), type := 22, pos := "split.go:47", after := #[{ on := 2, ground := Ground.data }, { on := 0, ground := Ground.phase }, { on := 1, ground := Ground.phase }, { on := 2, ground := Ground.phase }, { on := 3, ground := Ground.textOnly Departure.lateStores }, { on := 4, ground := Ground.textOnly Departure.lateStoresUnsure }, { on := 5, ground := Ground.textOnly Departure.lateStoresUnsure }, { on := 6, ground := Ground.textOnly Departure.lateStores }], guard := none }) (v := ?v7_1006) rfl (by kernel_rfl) (by kernel_rfl) (by kernel_rfl) (fun _ _ _ h => h) (Or.inl ⟨by rfl, ?h7_1006⟩) (by assumption) ?r7_1006
      case h7_1006 =>
        intro W hSW
        try dsimp only at hSW
        go_simp
        try with_reducible rfl
      try simp only [Act.put, List.setIfInBounds_toArray, List.set_cons_zero, List.set_cons_succ]
      refine wpAnyH_ready (rs := [5]) (by kernel_rfl) (by simp) ?_
      refine AllReadyH.cons (o := { dst := some 32, op := Op.makeSlice 22 (Operand.tmp 31) (Operand.tmp 31), type := 22, pos := "split.go:47", after := #[{ on := 4, ground := Ground.data }, { on := 4, ground := Ground.data }], guard := none }) rfl (fun K hK => ?_) AllReadyH.nil
      go_simp
      obtain ⟨w41, hw41⟩ : ∃ x, w40.alloc (.cells M 3) = x := ⟨_, rfl⟩
      first | rw [hw41] | rw [show (w3.alloc (.cells M 3)).drew = w41 from hw41]
      obtain ⟨FO, z41, b41⟩ := new_ints hw41 HM.out
      have hv41 : Below w3.heap.size w3 w41 := hv40.trans (b41.mono hv40.size)
      obtain ⟨go, hggo⟩ : ∃ x, w40.heap.size = x := ⟨_, rfl⟩
      have lgo : w3.heap.size ≤ go := by rw [← hggo]; exact hv40.size
      try (have hne : gs ≠ go := by have := FS.lt; omega)
      try (have FS := FS.below b41)
      rw [hggo] at FO
      first | rw [hggo] | rw [show w3.heap.size = go from hggo]
      clear hw41 z41 hggo
      refine hK.out _ _ (hv41) (fun hHeld => ?_)
      clear hK K
      try simp only [Act.put, List.setIfInBounds_toArray, List.set_cons_zero, List.set_cons_succ]
      refine wpAnyH_take (i := 8) (oi := { dst := some 8, op := Op.assign (Operand.tmp 32), type := 22, pos := "split.go:47", after := #[{ on := 5, ground := Ground.data }, { on := 7, ground := Ground.chain }, { on := 0, ground := Ground.phase }, { on := 1, ground := Ground.phase }, { on := 2, ground := Ground.phase }, { on := 3, ground := Ground.phase }, { on := 4, ground := Ground.phase }, { on := 5, ground := Ground.phase }, { on := 6, ground := Ground.textOnly Departure.lateStores }, { on := 7, ground := Ground.phase }], guard := none }) (v := ?v8_1007) rfl (by kernel_rfl) (by kernel_rfl) (by kernel_rfl) (fun _ _ _ h => h) (Or.inl ⟨by rfl, ?h8_1007⟩) (by assumption) ?r8_1007
      case h8_1007 =>
        intro W hSW
        try dsimp only at hSW
        go_simp
        try with_reducible rfl
      try simp only [Act.put, List.setIfInBounds_toArray, List.set_cons_zero, List.set_cons_succ]
      refine wpAnyH_take (i := 9) (oi := { dst := some 9, op := Op.assign (Operand.tmp 33), type := 3, pos := "split.go:47", after := #[{ on := 6, ground := Ground.data }, { on := 8, ground := Ground.chain }, { on := 0, ground := Ground.phase }, { on := 1, ground := Ground.phase }, { on := 2, ground := Ground.phase }, { on := 3, ground := Ground.phase }, { on := 4, ground := Ground.phase }, { on := 5, ground := Ground.phase }, { on := 6, ground := Ground.phase }, { on := 7, ground := Ground.phase }, { on := 8, ground := Ground.phase }], guard := none }) (v := ?v9_1008) rfl (by kernel_rfl) (by kernel_rfl) (by kernel_rfl) (fun _ _ _ h => h) (Or.inl ⟨by rfl, ?h9_1008⟩) (by assumption) ?r9_1008
      case h9_1008 =>
        intro W hSW
        try dsimp only at hSW
        go_simp
        try with_reducible rfl
      try simp only [Act.put, List.setIfInBounds_toArray, List.set_cons_zero, List.set_cons_succ]
      refine wpAnyH_done (by kernel_rfl) ?_ _
      go_wp2_with fail
      go_meet
      exact ⟨gs, go, rfl, rfl, rfl, ⟨hne, lgs, lgo⟩, FS, FO, hv41⟩
    · skip
      refine AllReadyH.cons (o := { dst := some 32, op := Op.makeSlice 22 (Operand.tmp 31) (Operand.tmp 31), type := 22, pos := "split.go:47", after := #[{ on := 4, ground := Ground.data }, { on := 4, ground := Ground.data }], guard := none }) rfl (fun K hK => ?_) AllReadyH.nil
      go_simp
      obtain ⟨w40, hw40⟩ : ∃ x, w3.drew.alloc (.cells M 3) = x := ⟨_, rfl⟩
      first | rw [hw40] | rw [show (w3.alloc (.cells M 3)).drew = w40 from hw40]
      obtain ⟨FO, z40, b40⟩ := new_ints hw40 HM.out
      have hv40 : Below w3.heap.size w3 w40 := hv0.trans (b40.mono hv0.size)
      obtain ⟨go, hggo⟩ : ∃ x, w3.drew.heap.size = x := ⟨_, rfl⟩
      have lgo : w3.heap.size ≤ go := by rw [← hggo]; exact hv0.size
      try (have hne : gs ≠ go := by have := FS.lt; omega)
      try (have FS := FS.below b40)
      rw [hggo] at FO
      first | rw [hggo] | rw [show w3.heap.size = go from hggo]
      clear hw40 z40 hggo
      refine hK.out _ _ (hv40) (fun hHeld => ?_)
      clear hK K
      try simp only [Act.put, List.setIfInBounds_toArray, List.set_cons_zero, List.set_cons_succ]
      refine wpAnyH_ready (rs := [2]) (by kernel_rfl) (by simp) ?_
      refine AllReadyH.cons (o := { dst := some 29, op := Op.makeSlice 22 (Operand.tmp 28) (Operand.tmp 28), type := 22, pos := "split.go:47", after := #[{ on := 1, ground := Ground.data }, { on := 1, ground := Ground.data }], guard := none }) rfl (fun K hK => ?_) AllReadyH.nil
      go_simp
      obtain ⟨w41, hw41⟩ : ∃ x, w40.alloc (.cells M 3) = x := ⟨_, rfl⟩
      first | rw [hw41] | rw [show (w3.alloc (.cells M 3)).drew = w41 from hw41]
      obtain ⟨FS, z41, b41⟩ := new_ints hw41 HM.out
      have hv41 : Below w3.heap.size w3 w41 := hv40.trans (b41.mono hv40.size)
      obtain ⟨gs, hggs⟩ : ∃ x, w40.heap.size = x := ⟨_, rfl⟩
      have lgs : w3.heap.size ≤ gs := by rw [← hggs]; exact hv40.size
      try (have hne : gs ≠ go := by have := FO.lt; omega)
      try (have FO := FO.below b41)
      rw [hggs] at FS
      first | rw [hggs] | rw [show w3.heap.size = gs from hggs]
      clear hw41 z41 hggs
      refine hK.out _ _ (hv41) (fun hHeld => ?_)
      clear hK K
      try simp only [Act.put, List.setIfInBounds_toArray, List.set_cons_zero, List.set_cons_succ]
      refine wpAnyH_take (i := 7) (oi := { dst := some 7, op := Op.assign (Operand.tmp 29), type := 22, pos := "split.go:47", after := #[{ on := 2, ground := Ground.data }, { on := 0, ground := Ground.phase }, { on := 1, ground := Ground.phase }, { on := 2, ground := Ground.phase }, { on := 3, ground := Ground.textOnly Departure.lateStores }, { on := 4, ground := Ground.textOnly Departure.lateStoresUnsure }, { on := 5, ground := Ground.textOnly Departure.lateStoresUnsure }, { on := 6, ground := Ground.textOnly Departure.lateStores }], guard := none }) (v := ?v7_1009) rfl (by kernel_rfl) (by kernel_rfl) (by kernel_rfl) (fun _ _ _ h => h) (Or.inl ⟨by rfl, ?h7_1009⟩) (by assumption) ?r7_1009
      case h7_1009 =>
        intro W hSW
        try dsimp only at hSW
        go_simp
        try with_reducible rfl
      try simp only [Act.put, List.setIfInBounds_toArray, List.set_cons_zero, List.set_cons_succ]
      refine wpAnyH_take (i := 8) (oi := { dst := some 8, op := Op.assign (Operand.tmp 32), type := 22, pos := "split.go:47", after := #[{ on := 5, ground := Ground.data }, { on := 7, ground := Ground.chain }, { on := 0, ground := Ground.phase }, { on := 1, ground := Ground.phase }, { on := 2, ground := Ground.phase }, { on := 3, ground := Ground.phase }, { on := 4, ground := Ground.phase }, { on := 5, ground := Ground.phase }, { on := 6, ground := Ground.textOnly Departure.lateStores }, { on := 7, ground := Ground.phase }], guard := none }) (v := ?v8_1010) rfl (by kernel_rfl) (by kernel_rfl) (by kernel_rfl) (fun _ _ _ h => h) (Or.inl ⟨by rfl, ?h8_1010⟩) (by assumption) ?r8_1010
      case h8_1010 =>
        intro W hSW
        try dsimp only at hSW
        go_simp
        try with_reducible rfl
      try simp only [Act.put, List.setIfInBounds_toArray, List.set_cons_zero, List.set_cons_succ]
      refine wpAnyH_take (i := 9) (oi := { dst := some 9, op := Op.assign (Operand.tmp 33), type := 3, pos := "split.go:47", after := #[{ on := 6, ground := Ground.data }, { on := 8, ground := Ground.chain }, { on := 0, ground := Ground.phase }, { on := 1, ground := Ground.phase }, { on := 2, ground := Ground.phase }, { on := 3, ground := Ground.phase }, { on := 4, ground := Ground.phase }, { on := 5, ground := Ground.phase }, { on := 6, ground := Ground.phase }, { on := 7, ground := Ground.phase }, { on := 8, ground := Ground.phase }], guard := none }) (v := ?v9_1011) rfl (by kernel_rfl) (by kernel_rfl) (by kernel_rfl) (fun _ _ _ h => h) (Or.inl ⟨by rfl, ?h9_1011⟩) (by assumption) ?r9_1011
      case h9_1011 =>
        intro W hSW
        try dsimp only at hSW
        go_simp
        try with_reducible rfl
      try simp only [Act.put, List.setIfInBounds_toArray, List.set_cons_zero, List.set_cons_succ]
      refine wpAnyH_done (by kernel_rfl) ?_ _
      go_wp2_with fail
      go_meet
      exact ⟨gs, go, rfl, rfl, rfl, ⟨hne, lgs, lgo⟩, FS, FO, hv41⟩
  case rest =>
  obtain ⟨gs, go, rfl, rfl, rfl, HNE, FS, FO, B4⟩ := hcut
  obtain ⟨w4, hw4⟩ : ∃ x, wc = x := ⟨_, rfl⟩
  try rw [hw4] at FS FO B4 ⊢
  have HB4 := Lib.hid (HB3.out.trans (B4.mono HB3.out.size))
  have HY4 := Lib.hid (show w4.cell? ⟨bt, 0, none⟩ = some (.int .i64 T) ∧ w4.cell? ⟨bw, 0, none⟩ = some (.slice A n c) ∧ w4.cell? ⟨bs, 0, none⟩ = some (.int .i64 S) from
    ⟨(B4.cell (p := ⟨bt, 0, none⟩) (by show bt < _; omega)).trans HYY.out.1, (B4.cell (p := ⟨bw, 0, none⟩) (by show bw < _; omega)).trans HYY.out.2.1, (B4.cell (p := ⟨bs, 0, none⟩) (by show bs < _; omega)).trans HYY.out.2.2⟩)
  have hs34 := B4.size
  obtain ⟨hne, hgs, hgo⟩ := HNE.out
  have HFS := Lib.hid FS
  have HFO := Lib.hid FO
  have HR4 := Lib.hid (HR.out.below (HB4.out.mono hB))
  have v2 := HY4.out.2.1
  clear hw4 FS FO B4 y1 y2 x3
  go_wp2_with fail
  go_loopw [9, 36] (fun u9 u36 wr => ∃ k : Nat, k ≤ n ∧ u9 = .int .i64 (T - Spl.sumTo (baseOf T S ws) k) ∧ u36 = .int .i64 k ∧ Hid (FRow wr gs n (fun t => if t < k then baseOf T S ws t else 0)) ∧ Hid (FRow wr go n (fun t => if t < k then (t : Int) else 0)) ∧ Keep (fun q => q = gs ∨ q = go) w4 wr) (fun _ u36 _ => n - (intOf u36).toNat)
  case atStart => exact ⟨0, Nat.zero_le _, by simp [Spl.sumTo], rfl, HFS.out.congr fun t _ => by simp, HFO.out.congr fun t _ => by simp, Keep.refl _ _⟩
  case round =>
    clear v2
    obtain ⟨k, hk, rfl, rfl, HF1, HF2, hkp⟩ := hrel
    have HKP := Lib.hid hkp
    have ne := fun (q : Nat) (h1 : q < w3.heap.size) (h2 : q = gs ∨ q = go) => by have : False := by omega
                                                                                  exact this
    have v1 := (hkp.cell (p := ⟨bt, 0, none⟩) (by show bt < _; omega) (ne bt (by omega))).trans HY4.out.1
    have v2 := (hkp.cell (p := ⟨bw, 0, none⟩) (by show bw < _; omega) (ne bw (by omega))).trans HY4.out.2.1
    have v3 := (hkp.cell (p := ⟨bs, 0, none⟩) (by show bs < _; omega) (ne bs (by omega))).trans HY4.out.2.2
    have hr4 := HR4.out.keepS hkp (by have := HB4.out.size; omega) (fun a ha h => by
      obtain ⟨b', off', e', hb', _⟩ := HR4.out.2 hn0
      rw [e'] at ha; have := Option.some.inj ha; subst this
      have : b' = gs ∨ b' = go := h
      have := HB3.out.size; omega)
    clear ne
    by_cases hlt : k < n
    · obtain ⟨b, off, rfl, _, hc⟩ := hr4.int HL.out hn0
      have hck := hc k hlt
      have hmx := HVW.out.mul k
      have hb1 := HBS.out k
      have hbk : baseOf T S ws k = T * ws.getD k 0 / S := rfl
      have hsu : Spl.sumTo (baseOf T S ws) (k + 1) = Spl.sumTo (baseOf T S ws) k + baseOf T S ws k := rfl
      have hsb := Spl.sum_bound (f := baseOf T S ws) (n := k) (b := T) fun t _ => HBS.out t
      have hkT : (k : Int) * T ≤ 1000 * 2147483647 := Int.le_trans (Int.mul_le_mul_of_nonneg_right (by omega) t0) (Int.mul_le_mul_of_nonneg_left t1 (by decide))
      obtain ⟨x, hx⟩ : ∃ x, ws.getD k 0 = x := ⟨_, rfl⟩
      obtain ⟨bk, hbk'⟩ : ∃ x, baseOf T S ws k = x := ⟨_, rfl⟩
      obtain ⟨lv, hlv⟩ : ∃ x, Spl.sumTo (baseOf T S ws) k = x := ⟨_, rfl⟩
      rw [hx] at hck hmx hbk
      rw [hbk'] at hb1 hbk hsu
      rw [hlv] at hsu hsb ⊢
      have m1 : IntKind.i64.wrap (T * x) = T * x := IntWalk.i64_in _ (by omega)
      obtain ⟨px, hpx⟩ : ∃ p, T * x = p := ⟨_, rfl⟩
      rw [hpx] at m1 hmx hbk
      have tq : px.tdiv S = bk := by rw [Int.tdiv_eq_ediv_of_nonneg hmx.1]; exact hbk.symm
      have m2 : IntKind.i64.wrap bk = bk := IntWalk.i64_in _ (by omega)
      have m3 : IntKind.i64.wrap (T - lv - bk) = T - lv - bk := IntWalk.i64_in _ (by omega)
      have i0 : (0 : Int) ≤ (k : Int) := by omega
      have i1 : (k : Int) < (n : Int) := by omega
      have c1 := HF1.out.cell k hlt
      have c2 := HF2.out.cell k hlt
      have f1 := HF1.out.free k hlt
      have f2 := HF2.out.free k hlt
      rw [if_neg (Nat.lt_irrefl k)] at c1 c2
      have HSU := Lib.hid hsu
      have HBK := Lib.hid hbk'
      clear hkp hr4 hc hmx hb1 hbk hsu hsb hkT hx hbk' hlv
      go_wp2_with fail
      go_roundw
      case rel =>
        have G1 := grown_setCell wr gs k (.int .i64 bk)
        have G2 := grown_setCell (wr.setCell ⟨gs, k, none⟩ (.int .i64 bk)) go k (.int .i64 (k : Int))
        have l1 := HF1.out.lt
        have l2 := HF2.out.lt
        have z1 : (wr.setCell ⟨gs, k, none⟩ (.int .i64 bk)).heap.size = wr.heap.size := by simp
        refine ⟨k + 1, by omega, by rw [HSU.out]; congr 1; omega, by go_num, ?_, ?_, ?_⟩
        · refine FRow.congr ((HF1.out.set hlt bk).keep (G2.block gs (by omega) (fun e => hne (Option.some.inj e)))) fun t _ => ?_
          by_cases e : t = k
          · subst e; rw [if_pos (by omega), if_pos rfl, HBK.out]
          · rw [if_neg e]; by_cases h : t < k
            · rw [if_pos h, if_pos (by omega)]
            · rw [if_neg h, if_neg (by omega)]
        · refine FRow.congr ((HF2.out.keep (G1.block go l2 (fun e => hne (Option.some.inj e).symm))).set hlt (k : Int)) fun t _ => ?_
          by_cases e : t = k
          · subst e; rw [if_pos (by omega), if_pos rfl]
          · rw [if_neg e]; by_cases h : t < k
            · rw [if_pos h, if_pos (by omega)]
            · rw [if_neg h, if_neg (by omega)]
        · exact (HKP.out.grown G1 fun j hj => Or.inl (Or.inl (Option.some.inj hj).symm)).grown G2 fun j hj => Or.inl (Or.inr (Option.some.inj hj).symm)
      case measure => simp [intOf]; omega
    · obtain rfl : k = n := by omega
      obtain ⟨kk, hkk⟩ : ∃ kk : Nat, T - Spl.sumTo (baseOf T S ws) k = (kk : Int) := ⟨(T - Spl.sumTo (baseOf T S ws) k).toNat, by have := HLR.out.1; omega⟩
      have hkn : kk ≤ k := by have := HLR.out.2; omega
      have hkn' : (kk : Int) ≤ (k : Int) := by omega
      have hkk0 : (0 : Int) ≤ (kk : Int) := by omega
      rw [hkk]
      have HKK := Lib.hid hkk
      have FO := HF2.out.congr (e := fun t => (t : Int)) fun t ht => by rw [if_pos ht]
      have FS := HF1.out.congr (e := fun t => (Spl.bump (fun t => t) (baseL T S ws k) 0).getD t 0) fun t ht => by rw [if_pos ht]; exact baseL_get T S ws ht
      have hbw' := HB4.out.size
      have hsz := hkp.size
      have HST := Lib.hid (sortStable_any wr go k k bt bw bs (rI T S ws) (lsI T S ws) (rI_ord T S ws) (cmpOk_of T S ws HVW.out go bt bw bs A k c HL.out hn B wr (fun W hW => hr4.grown_far hW (by omega) (fun a ha e => by
          obtain ⟨b', off', e', hb', _⟩ := hr4.2 hn0
          rw [e'] at ha; have := Option.some.inj ha; subst this
          have : b' = go := Option.some.inj e
          have := HB3.out.size; omega)) (by omega) (by omega) (by omega) (by omega) (by omega) (by omega) (by omega) v1 v2 v3) hn (fun t => (t : Int)) (fun t ht => ⟨by show (0 : Int) ≤ (t : Int); omega, by show (t : Int) < (k : Int); omega⟩) (rI_inc T S ws k) wr (World.grownBy.refl _ _) FO)
      have HFS2 := Lib.hid FS
      clear hkk hkp hr4 FO FS v1 v2 v3 hmk
      go_wp2_with (go_at_call 18; refine HST.out.mono ?_; rintro e w5 ⟨rfl, f, F5, M5, S5, G5⟩)
      obtain ⟨p, hp, O⟩ := ordr_of M5 S5
      have HO := Lib.hid O
      have HP := Lib.hid hp
      have FS5 := HFS2.out.keep (G5.block gs HFS2.out.lt (fun e => hne (Option.some.inj e)))
      have HFS5 := Lib.hid FS5
      have HF5 := Lib.hid F5
      have HG5 := Lib.hid G5
      clear hp O FS5 F5 G5 M5 S5
      go_loopw [68] (fun u68 wy => ∃ (wv : World) (j : Nat), wv = wy ∧ j ≤ kk ∧ u68 = .int .i64 j ∧ Hid (FRow wv gs k (fun t => (Spl.bump p (baseL T S ws k) j).getD t 0)) ∧ Hid (FRow wv go k f) ∧ w5.grownBy wv (some gs)) (fun u68 _ => kk - (intOf u68).toNat)
      case atStart => exact ⟨_, 0, rfl, Nat.zero_le _, rfl, HFS5.out, HF5.out, World.grownBy.refl _ _⟩
      case round =>
        obtain ⟨wv, j, rfl, hj, rfl, HF6, HF7, hgv⟩ := hrel
        have HGV := Lib.hid hgv
        by_cases hlt2 : j < kk
        · have hjk : j < k := by omega
          obtain ⟨q, hq⟩ : ∃ q, p j = q := ⟨_, rfl⟩
          have hqk : q < k := by rw [← hq]; exact HO.out.lt j hjk
          have c1 := HF7.out.cell j hjk
          rw [HP.out j, hq] at c1
          have c2 := HF6.out.cell q hqk
          have f2 := HF6.out.free q hqk
          have hbg := Spl.bump_get HO.out (baseL T S ws k) (k := j) (by simp [baseL]) (by omega) q
          rw [baseL_get T S ws hqk] at hbg
          have hb1 := HBS.out q
          have hbu : Spl.bump p (baseL T S ws k) (j + 1) = (Spl.bump p (baseL T S ws k) j).set (p j) ((Spl.bump p (baseL T S ws k) j).getD (p j) 0 + 1) := rfl
          rw [hq] at hbu
          have hbl : q < (Spl.bump p (baseL T S ws k) j).length := by rw [Spl.bump_len]; simpa [baseL] using hqk
          obtain ⟨x, hx⟩ : ∃ x, (Spl.bump p (baseL T S ws k) j).getD q 0 = x := ⟨_, rfl⟩
          rw [hx] at c2 hbg hbu
          have hx1 : 0 ≤ x ∧ x ≤ T + 1 := by split at hbg <;> omega
          have m1 : IntKind.i64.wrap (x + 1) = x + 1 := IntWalk.i64_in _ (by omega)
          have i0 : (0 : Int) ≤ (q : Int) := by omega
          have i1 : (q : Int) < (k : Int) := by omega
          have j1 : (j : Int) < (kk : Int) := by omega
          have HBU := Lib.hid (And.intro hbu hbl)
          have HQK := Lib.hid hqk
          clear hgv hq hbg hb1 hbu hbl hx hx1
          go_wp2_with fail
          go_roundw
          case rel =>
            have G6 := grown_setCell wv gs q (.int .i64 (x + 1))
            refine ⟨_, j + 1, rfl, by omega, by go_num, FRow.congr (HF6.out.set HQK.out (x + 1)) fun t _ => ?_, HF7.out.keep (G6.block go HF7.out.lt (fun e => hne (Option.some.inj e).symm)), HGV.out.trans G6⟩
            rw [HBU.out.1]
            by_cases e : t = q
            · subst e; rw [if_pos rfl]; simp only [List.getD, List.getElem?_set_self HBU.out.2, Option.getD_some]
            · rw [if_neg e]; simp only [List.getD, List.getElem?_set_ne (fun h => e h.symm)]
          case measure => simp [intOf]; omega
        · obtain rfl : j = kk := by omega
          have HBE : Hid (Below w.heap.size w wv) := Lib.hid (Below.then_keep HB4.out ((HKP.out.grown HG5.out fun i hi => Or.inl (Or.inr (Option.some.inj hi).symm)).grown hgv fun i hi => Or.inl (Or.inl (Option.some.inj hi).symm)) (fun i hi => by have := HB3.out.size; rcases hi with h | h <;> omega) (Nat.le_refl _))
          clear hgv
          go_wp2_with fail
          go_ret2
          unfold WOk
          rw [← HSE.out]
          exact ⟨gs, k, p, j, rfl, Nat.le_refl _, HF6.out, HO.out, HKK.out.symm, hkn, by have := HB3.out.size; omega, HBE.out⟩
end Go.Proofs.Ytegjfobanjkimaa
