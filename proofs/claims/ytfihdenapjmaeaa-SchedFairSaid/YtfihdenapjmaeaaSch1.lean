/- Walks of layer 37's small functions: weights, which tasks can be chosen, comparisons of numbers and of places; the reference's too. No condition. -/
import Derived.Test.YtfihdenapjmaeaaRows
import Derived.Test.YtfihdenapjmaeaaMaps
import Derived.Test.YtfihdenapjmaeaaSchP
import Derived.WalkKit
import Derived.WalkSpells
import Derived.WalkLawsBesides
import Derived.Deep.QuietTactic
import Derived.BigQuiet
import Derived.RegionTactic
namespace Go.Proofs.Ytfihdenapjmaeaa
set_option linter.unusedVariables false
set_option linter.unusedSimpArgs false
open Go.RowKit

section
variable {P : Program} {t k e : TypeId} {α : Type} [DecidableEq α] {kv : α → Value} {w w' : World} {b n : Nat} {M : α → Option Value} {ops : Array Oper} {rest : List Oper} {o : Oper} {a : Act} {Q : Exit → Act → World → Prop}
/-- an entry of a map literal -/
theorem wpList_ins (hg : o.guard = none) (m x v : Operand) (t : TypeId) (hop : o.op = Op.insert t m x v) (K : KeyT P k kv) (ht : P.underlying t = some (.map k e)) (hown : MapIs w b kv M n) (hm : a.eval m = .map (some b)) (y : α) (hx : a.eval x = kv y) (val : Value) (hv : a.eval v = val)
    (hK : ∀ w', MapIs w' b kv (fun z => if z = y then some val else M z) (if (M y).isSome then n else n + 1) → w.mapTurned w' b → wpList P ops Q rest (a.put o.dst undef) w') : wpList P ops Q (o :: rest) a w := by
  refine wpList_plain hg fun K' hK' => ?_
  obtain ⟨w', hrun, r1, r2⟩ := hown.update K ht y val
  unfold Oper.wp
  simp [execOp, hop, hm, hx, hv, hrun, Result.andThen]
  exact hK' _ _ (hK w' r1 r2)
theorem wpList_lk (hg : o.guard = none) (m x : Operand) (t : TypeId) (c : Bool) (hop : o.op = Op.lookup t m x c) (K : KeyT P k kv) (ht : P.underlying t = some (.map k e)) (hown : MapIs w b kv M n) (hm : a.eval m = .map (some b)) (y : α) (hx : a.eval x = kv y) (z : Value) (hz : (zeroValue e).run P w = .ok z w) (v : Value)
    (hv : (if c then .tuple #[(M y).getD z, .bool (M y).isSome] else (M y).getD z) = v) (h : wpList P ops Q rest (a.put o.dst v) w) : wpList P ops Q (o :: rest) a w := by
  refine wpList_plain hg fun K' hK' => ?_
  have hrun := hown.look K ht hz y c
  rw [hv] at hrun
  unfold Oper.wp
  simp [execOp, hop, hm, hx, hrun, Result.andThen]
  exact hK' _ _ h
end
theorem keyI : KeyT Try.prog 3 (Value.int .i64) := keyT_int Try.underlying3
theorem zeroI (w : World) : (zeroValue 3).run Try.prog w = .ok (.int .i64 0) w := by kernel_rfl
theorem below_turned {B b : Nat} {w0 w w' : World} (h : Below B w0 w) (ht : w.mapTurned w' b) (hB : B ≤ w0.heap.size) (hb : B ≤ b) : Below B w0 w' := h.grown ht.grown (by have := h.size; omega) fun k hk => by have := Option.some.inj hk; omega

def wmap (x : Int) : Option Value := if x = 5 then some (.int .i64 1) else if x = 4 then some (.int .i64 1) else if x = 3 then some (.int .i64 2) else if x = 2 then some (.int .i64 2) else if x = 1 then some (.int .i64 4) else none
theorem wmap_wt (x : Int) : (wmap x).getD (.int .i64 0) = .int .i64 (Sc.wt x) := by
  unfold wmap Sc.wt
  by_cases h5 : x = 5
  · subst h5; rfl
  · by_cases h4 : x = 4
    · subst h4; rfl
    · by_cases h3 : x = 3
      · subst h3; rfl
      · by_cases h2 : x = 2
        · subst h2; rfl
        · by_cases h1 : x = 1
          · subst h1; rfl
          · simp [h1, h2, h3, h4, h5]

set_option maxHeartbeats 800000 in
theorem weight_any (k : Int) (w : World) : Calls Try.prog 16 #[.int .i64 k] w fun e w' => e = .returned (.int .i64 (Sc.wt k)) ∧ Below w.heap.size w w' := by
  have hmm := @run_makeMap Try.prog
  have h0 : MapIs (w.alloc (.map #[] 0)) w.heap.size (Value.int .i64) (fun _ => none) 0 := MapIs.made w _
  have b0 : Below w.heap.size w (w.alloc (.map #[] 0)) := (Below.refl _ _).alloc (Nat.le_refl _) _
  go_enter Try.func16, Try.ntmps16
  go_wp2_with (first
    | (refine wpList_ins rfl (.tmp 3) (.const (.int .i64 1)) (.const (.int .i64 4)) 65 rfl keyI Try.underlying65 h0 rfl 1 rfl _ rfl ?_; intro w1 h1 t1)
    | (refine wpList_ins rfl (.tmp 3) (.const (.int .i64 2)) (.const (.int .i64 2)) 65 rfl keyI Try.underlying65 h1 rfl 2 rfl _ rfl ?_; intro w2 h2 t2)
    | (refine wpList_ins rfl (.tmp 3) (.const (.int .i64 3)) (.const (.int .i64 2)) 65 rfl keyI Try.underlying65 h2 rfl 3 rfl _ rfl ?_; intro w3 h3 t3)
    | (refine wpList_ins rfl (.tmp 3) (.const (.int .i64 4)) (.const (.int .i64 1)) 65 rfl keyI Try.underlying65 h3 rfl 4 rfl _ rfl ?_; intro w4 h4 t4)
    | (refine wpList_ins rfl (.tmp 3) (.const (.int .i64 5)) (.const (.int .i64 1)) 65 rfl keyI Try.underlying65 h4 rfl 5 rfl _ rfl ?_; intro w5 h5 t5)
    | (refine wpList_lk rfl (.tmp 4) (.tmp 5) 65 false rfl keyI Try.underlying65 h5 rfl k rfl _ (zeroI _) (.int .i64 (Sc.wt k)) (wmap_wt k) ?_))
  go_ret
  exact ⟨rfl, below_turned (below_turned (below_turned (below_turned (below_turned b0 t1 (Nat.le_refl _) (Nat.le_refl _)) t2 (Nat.le_refl _) (Nat.le_refl _)) t3 (Nat.le_refl _) (Nat.le_refl _)) t4 (Nat.le_refl _) (Nat.le_refl _)) t5 (Nat.le_refl _) (Nat.le_refl _)⟩

theorem refWeight_any (k : Int) (w : World) : Calls Try.prog 17 #[.int .i64 k] w fun e w' => e = .returned (.int .i64 (Sc.wt k)) ∧ w' = w := by
  by_cases h1 : k = 1
  · subst h1
    go_enter Try.func17, Try.ntmps17
    go_wp2
    go_ret
    exact ⟨rfl, rfl⟩
  · by_cases h2 : k = 2
    · subst h2
      go_enter Try.func17, Try.ntmps17
      go_wp2
      go_ret
      exact ⟨rfl, rfl⟩
    · by_cases h3 : k = 3
      · subst h3
        go_enter Try.func17, Try.ntmps17
        go_wp2
        go_ret
        exact ⟨rfl, rfl⟩
      · by_cases h4 : k = 4
        · subst h4
          go_enter Try.func17, Try.ntmps17
          go_wp2
          go_ret
          exact ⟨rfl, rfl⟩
        · by_cases h5 : k = 5
          · subst h5
            go_enter Try.func17, Try.ntmps17
            go_wp2
            go_ret
            exact ⟨rfl, rfl⟩
          · have HW := Lib.hid (show Sc.wt k = 0 by unfold Sc.wt; simp [h1, h2, h3, h4, h5])
            have e1 : (k == 1) = false := by simpa using h1
            have e2 : (k == 2) = false := by simpa using h2
            have e3 : (k == 3) = false := by simpa using h3
            have e4 : (k == 4) = false := by simpa using h4
            have e5 : (k == 5) = false := by simpa using h5
            clear h1 h2 h3 h4 h5
            go_enter Try.func17, Try.ntmps17
            go_wp2
            go_ret
            exact ⟨ret_int HW.out.symm, rfl⟩

theorem isNaN_any (x : Int) (w : World) : Calls Try.prog 52 #[.int .i64 x] w fun e w' => e = .returned (.bool false) ∧ w' = w := by
  go_enter Try.func52, Try.ntmps52
  go_wp2
  go_ret
  exact ⟨by simp, rfl⟩
/-- -1, 0 or 1 -/
def cmpI (x y : Int) : Int := if x < y then -1 else if y < x then 1 else 0
theorem compare_any (x y : Int) (w : World) : Calls Try.prog 45 #[.int .i64 x, .int .i64 y] w fun e w' => e = .returned (.int .i64 (cmpI x y)) ∧ w' = w := by
  have HC := Lib.hid (show cmpI x y = if x < y then -1 else if y < x then 1 else 0 from rfl)
  generalize cmpI x y = q at *
  by_cases h1 : x < y
  · go_enter Try.func45, Try.ntmps45
    go_wp2_with (go_at_call 52; refine (isNaN_any _ _).mono ?_; rintro e w' ⟨rfl, rfl⟩)
    go_ret
    exact ⟨ret_int (by rw [HC.out]; split <;> first | rfl | omega | (split <;> first | rfl | omega)), rfl⟩
  · by_cases h2 : y < x
    · go_enter Try.func45, Try.ntmps45
      go_wp2_with (go_at_call 52; refine (isNaN_any _ _).mono ?_; rintro e w' ⟨rfl, rfl⟩)
      go_ret
      exact ⟨ret_int (by rw [HC.out]; split <;> first | rfl | omega | (split <;> first | rfl | omega)), rfl⟩
    · go_enter Try.func45, Try.ntmps45
      go_wp2_with (go_at_call 52; refine (isNaN_any _ _).mono ?_; rintro e w' ⟨rfl, rfl⟩)
      go_ret
      exact ⟨ret_int (by rw [HC.out]; split <;> first | rfl | omega | (split <;> first | rfl | omega)), rfl⟩

/-- a task as its cells -/
def tcs (t : Sc.Tk) : List Value := [.int .i64 t.kind, .int .i64 t.row, .int .i64 t.grp, .int .i64 t.left, .int .i64 t.bad]
abbrev tv (t : Sc.Tk) : Value := .agg #[.int .i64 t.kind, .int .i64 t.row, .int .i64 t.grp, .int .i64 t.left, .int .i64 t.bad]
theorem tcs_len (t : Sc.Tk) : (tcs t).length = 5 := rfl

theorem refCan_any (t : Sc.Tk) (w : World) : Calls Try.prog 38 #[tv t] w fun e w' => e = .returned (.bool (Sc.can t)) ∧ Below w.heap.size w w' := by
  obtain ⟨kind, row, grp, left, bad⟩ := t
  have HC := Lib.hid (show Sc.can ⟨kind, row, grp, left, bad⟩ = decide (kind = 1 ∧ 0 ≤ left ∧ 0 < bad ∨ 2 ≤ kind ∧ kind ≤ 5) from rfl)
  generalize Sc.can ⟨kind, row, grp, left, bad⟩ = q at *
  have hb := (Below.refl w.heap.size w).alloc (Nat.le_refl _) (.cells #[.int .i64 kind, .int .i64 row, .int .i64 grp, .int .i64 left, .int .i64 bad] 49)
  by_cases h1 : kind = 1
  · subst h1
    by_cases h2 : 0 ≤ left
    · have d2 : decide (0 ≤ left) = true := by simpa using h2
      go_enter Try.func38, Try.ntmps38
      go_wp2
      go_ret
      exact ⟨by rw [HC.out]; simp [h2], hb⟩
    · have d2 : decide (0 ≤ left) = false := by simpa using h2
      go_enter Try.func38, Try.ntmps38
      go_wp2
      go_ret
      exact ⟨by rw [HC.out]; simp; omega, hb⟩
  · have e1 : (kind == 1) = false := by simpa using h1
    have H1 := Lib.hid h1
    clear h1
    by_cases h2 : 1 < kind
    · have d2 : decide (1 < kind) = true := by simpa using h2
      go_enter Try.func38, Try.ntmps38
      go_wp2
      go_ret
      exact ⟨by rw [HC.out]; simp [H1.out]; omega, hb⟩
    · have d2 : decide (1 < kind) = false := by simpa using h2
      go_enter Try.func38, Try.ntmps38
      go_wp2
      go_ret
      exact ⟨by rw [HC.out]; simp [H1.out]; omega, hb⟩

theorem wt_pos (k : Int) : (0 < Sc.wt k) ↔ 1 ≤ k ∧ k ≤ 5 := by unfold Sc.wt; repeat' split <;> omega
set_option maxHeartbeats 800000 in
theorem can_any (t : Sc.Tk) (w : World) : Calls Try.prog 35 #[tv t] w fun e w' => e = .returned (.bool (Sc.can t)) ∧ Below w.heap.size w w' := by
  obtain ⟨kind, row, grp, left, bad⟩ := t
  have HC := Lib.hid (show Sc.can ⟨kind, row, grp, left, bad⟩ = decide (kind = 1 ∧ 0 ≤ left ∧ 0 < bad ∨ 2 ≤ kind ∧ kind ≤ 5) from rfl)
  generalize Sc.can ⟨kind, row, grp, left, bad⟩ = q at *
  have hb := (Below.refl w.heap.size w).alloc (Nat.le_refl _) (.cells #[.int .i64 kind, .int .i64 row, .int .i64 grp, .int .i64 left, .int .i64 bad] 58)
  have HP := Lib.hid (wt_pos kind)
  have HW := Lib.hid (fun W => weight_any kind W)
  generalize Sc.wt kind = s at *
  by_cases h0 : 0 < s
  · have d0 : decide (0 < s) = true := by simpa using h0
    by_cases h1 : kind = 1
    · subst h1
      by_cases h2 : 0 ≤ left
      · have d2 : decide (0 ≤ left) = true := by simpa using h2
        go_enter Try.func35, Try.ntmps35
        go_wp2_with (go_at_call 16; refine (HW.out _).mono ?_; rintro e w1 ⟨rfl, b1⟩; have bc := fun o => b1.cell (p := ⟨w.heap.size, o, none⟩) (by simp))
        go_ret
        exact ⟨by rw [HC.out]; simp [h2], hb.trans (b1.mono (by simp))⟩
      · have d2 : decide (0 ≤ left) = false := by simpa using h2
        go_enter Try.func35, Try.ntmps35
        go_wp2_with (go_at_call 16; refine (HW.out _).mono ?_; rintro e w1 ⟨rfl, b1⟩; have bc := fun o => b1.cell (p := ⟨w.heap.size, o, none⟩) (by simp))
        go_ret
        exact ⟨by rw [HC.out]; simp; omega, hb.trans (b1.mono (by simp))⟩
    · have e1 : (kind != 1) = true := by simpa using h1
      have H1 := Lib.hid h1
      clear h1
      go_enter Try.func35, Try.ntmps35
      go_wp2_with (go_at_call 16; refine (HW.out _).mono ?_; rintro e w1 ⟨rfl, b1⟩; have bc := fun o => b1.cell (p := ⟨w.heap.size, o, none⟩) (by simp))
      go_ret
      exact ⟨ret_bool (by rw [HC.out]; have h2 := HP.out.1 h0; have h3 := H1.out; exact (decide_eq_true (by omega)).symm), hb.trans (b1.mono (by simp))⟩
  · have d0 : decide (0 < s) = false := by simpa using h0
    go_enter Try.func35, Try.ntmps35
    go_wp2_with (go_at_call 16; refine (HW.out _).mono ?_; rintro e w1 ⟨rfl, b1⟩; have bc := fun o => b1.cell (p := ⟨w.heap.size, o, none⟩) (by simp))
    go_ret
    exact ⟨by rw [HC.out]; have := HP.out; simp; omega, hb.trans (b1.mono (by simp))⟩

set_option maxHeartbeats 800000 in
theorem urgent_any (t : Sc.Tk) (w : World) : Calls Try.prog 31 #[tv t] w fun e w' => e = .returned (.bool (Sc.urg t)) ∧ Below w.heap.size w w' := by
  have HN := Lib.hid (fun W => can_any t W)
  have HX := Lib.hid (show Sc.can t = true → Sc.urg t = decide (t.kind = 1 ∧ t.left = 0) from fun h => by simp only [Sc.can, Sc.urg, decide_eq_true_eq, decide_eq_decide] at *; omega)
  have HY := Lib.hid (show Sc.can t = false → Sc.urg t = false from fun h => by simp [Sc.can, Sc.urg] at *; omega)
  have HZ := Lib.hid (show t.kind ≠ 1 → Sc.urg t = false from fun h => by simp [Sc.urg, h])
  generalize Sc.can t = s at *
  generalize Sc.urg t = q at *
  obtain ⟨kind, row, grp, left, bad⟩ := t
  have hb := (Below.refl w.heap.size w).alloc (Nat.le_refl _) (.cells #[.int .i64 kind, .int .i64 row, .int .i64 grp, .int .i64 left, .int .i64 bad] 58)
  by_cases h1 : kind = 1
  · subst h1
    cases s with
    | false =>
      go_enter Try.func31, Try.ntmps31
      go_wp2_with (go_at_call 35; refine (HN.out _).mono ?_; rintro e w1 ⟨rfl, b1⟩; have bc := fun o => b1.cell (p := ⟨w.heap.size, o, none⟩) (by simp))
      go_ret
      exact ⟨ret_bool (by have := HY.out; simpa using this), hb.trans (b1.mono (by simp))⟩
    | true =>
      by_cases h0 : left = 0
      · subst h0
        go_enter Try.func31, Try.ntmps31
        go_wp2_with (go_at_call 35; refine (HN.out _).mono ?_; rintro e w1 ⟨rfl, b1⟩; have bc := fun o => b1.cell (p := ⟨w.heap.size, o, none⟩) (by simp))
        go_ret
        exact ⟨ret_bool (by have := HX.out; simpa using this), hb.trans (b1.mono (by simp))⟩
      · have e1 : (left == 0) = false := by simpa using h0
        have H0 := Lib.hid h0
        clear h0
        go_enter Try.func31, Try.ntmps31
        go_wp2_with (go_at_call 35; refine (HN.out _).mono ?_; rintro e w1 ⟨rfl, b1⟩; have bc := fun o => b1.cell (p := ⟨w.heap.size, o, none⟩) (by simp))
        go_ret
        exact ⟨ret_bool (by have := HX.out; simpa [H0.out] using this), hb.trans (b1.mono (by simp))⟩
  · have e1 : (kind == 1) = false := by simpa using h1
    have H1 := Lib.hid h1
    clear h1
    go_enter Try.func31, Try.ntmps31
    go_wp2
    go_ret
    exact ⟨ret_bool (HZ.out H1.out).symm, hb⟩
/-- the first element that is not zero -/
def orI : List Int → Int
  | [] => 0
  | x :: l => if x = 0 then orI l else x
theorem orI_drop (l : List Int) (k : Nat) (hk : k < l.length) : orI (l.drop k) = if l[k] = 0 then orI (l.drop (k + 1)) else l[k] := by
  rw [List.drop_eq_getElem_cons hk]; rfl
theorem or_any (A : Option Addr) (c : Nat) (l : List Int) (hl : l.length ≤ 1000) (w : World) (B : Nat) (hr : Rd w B 1 A l.length (ivs l)) : Calls Try.prog 44 #[.slice A l.length c] w fun e w' => e = .returned (.int .i64 (orI l)) ∧ w' = w := by
  go_enter Try.func44, Try.ntmps44
  go_wp2
  go_loop [8] (fun u => ∃ k : Nat, k ≤ l.length ∧ u = .int .i64 k ∧ Hid (orI l = orI (l.drop k))) (fun u => l.length - (intOf u).toNat)
  case atStart => exact ⟨0, Nat.zero_le _, rfl, rfl⟩
  case round =>
    obtain ⟨k, hk, rfl, HO⟩ := hrel
    by_cases hlt : k < l.length
    · obtain ⟨b, off, rfl, _, h1⟩ := hr.get hlt
      have HD := Lib.hid (orI_drop l k hlt)
      clear hr
      by_cases hz : l[k] = 0
      · have HZ := Lib.hid hz
        rw [hz] at h1
        clear hz
        go_wp2
        go_round
        case rel => exact ⟨k + 1, by omega, by go_num, by show orI l = _; rw [HO.out, HD.out, if_pos HZ.out]⟩
        case measure => simp [intOf]; omega
      · have e1 : (l[k] != 0) = true := by simpa using hz
        have HZ := Lib.hid hz
        clear hz
        go_wp2
        go_ret
        exact ⟨ret_int (by rw [HO.out, HD.out, if_neg HZ.out]), rfl⟩
    · go_wp2
      go_ret
      exact ⟨ret_int (by rw [HO.out, List.drop_of_length_le (by omega)]; rfl), rfl⟩
end Go.Proofs.Ytfihdenapjmaeaa
