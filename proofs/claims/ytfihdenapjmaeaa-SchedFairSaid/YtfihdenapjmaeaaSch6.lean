/- Layer 37's choice of a comparison and of the best task among some. Conditions: the indices are of tasks. -/
import Derived.Test.YtfihdenapjmaeaaSch5
namespace Go.Proofs.Ytfihdenapjmaeaa
set_option linter.unusedVariables false
set_option linter.unusedSimpArgs false
open Go.RowKit
theorem orI_neg (x : Int) (l : List Int) : orI (x :: l) < 0 ↔ x < 0 ∨ x = 0 ∧ orI l < 0 := by
  show (if x = 0 then orI l else x) < 0 ↔ _
  split <;> omega
theorem cmpI_neg (x y : Int) : cmpI x y < 0 ↔ x < y := by unfold cmpI; split <;> (try split) <;> omega
theorem cmpI_zero (x y : Int) : cmpI x y = 0 ↔ x = y := by unfold cmpI; split <;> (try split) <;> omega
theorem loss_lt (a b : Sc.Tk) (ha : 0 ≤ a.left) (hb : 0 ≤ b.left) : lossI a b < 0 ↔ Sc.ltR a b = true := by
  have h1 : lostI a = 0 := by unfold lostI; rw [if_neg (by omega)]
  have h2 : lostI b = 0 := by unfold lostI; rw [if_neg (by omega)]
  have h3 : orI [] = 0 := rfl
  unfold lossI
  simp only [orI_neg, cmpI_neg, cmpI_zero, h1, h2, h3, Sc.ltR, decide_eq_true_eq, Int.lt_irrefl, false_or, true_and, and_false, or_false]
theorem reb_lt (a b : Sc.Tk) (ha : 0 ≤ a.left) (hb : 0 ≤ b.left) : decide (rebI a b < 0) = Sc.ltR a b := by
  have h := loss_lt b a hb ha
  rw [Bool.eq_iff_iff, decide_eq_true_eq]
  unfold rebI
  by_cases hs : a.row = b.row ∧ a.grp = b.grp ∧ a.left = b.left ∧ a.bad = b.bad
  · rw [if_pos hs]; simp only [Sc.ltR, decide_eq_true_eq]; omega
  · rw [if_neg hs]
    by_cases hl : lossI b a < 0
    · rw [if_pos hl]
      have := h.1 hl
      simp only [Sc.ltR, decide_eq_true_eq] at *
      omega
    · rw [if_neg hl]
      have : ¬ Sc.ltR b a = true := fun e => hl (h.2 e)
      simp only [Sc.ltR, decide_eq_true_eq] at *
      omega
theorem pla_lt (a b : Sc.Tk) : decide (orI [cmpI a.row b.row, cmpI a.grp b.grp] < 0) = Sc.ltP a b := by
  have h3 : orI [] = 0 := rfl
  rw [Bool.eq_iff_iff, decide_eq_true_eq]
  simp only [orI_neg, cmpI_neg, cmpI_zero, h3, Sc.ltP, decide_eq_true_eq]
  omega
theorem zeroF (w : World) : (zeroValue 71).run Try.prog w = .ok .nilFunc w := by kernel_rfl
def fmap (x : Int) : Option Value := if x = 1 then some (.func (.func 40) #[] #[]) else none
set_option maxHeartbeats 800000 in
theorem comparison_1 (w : World) : Calls Try.prog 37 #[.int .i64 1] w fun e w' => e = .returned (.func (.func 40) #[] #[]) ∧ Below w.heap.size w w' := by
  have hmm := @run_makeMap Try.prog
  have h0 : MapIs (w.alloc (.map #[] 0)) w.heap.size (Value.int .i64) (fun _ => none) 0 := MapIs.made w _
  have b0 : Below w.heap.size w (w.alloc (.map #[] 0)) := (Below.refl _ _).alloc (Nat.le_refl _) _
  go_enter Try.func37, Try.ntmps37
  go_wp2_with (first
    | (refine wpList_ins rfl (.tmp 6) (.const (.int .i64 1)) (.func 40) 76 rfl keyI Try.underlying76 h0 rfl 1 rfl _ rfl ?_; intro w1 h1 t1)
    | (refine wpList_lk rfl (.tmp 7) (.tmp 8) 76 true rfl keyI Try.underlying76 h1 rfl 1 rfl _ (zeroF _) (.tuple #[(.func (.func 40) #[] #[]), .bool true]) rfl ?_))
  go_ret
  exact ⟨rfl, below_turned b0 t1 (Nat.le_refl _) (Nat.le_refl _)⟩
set_option maxHeartbeats 800000 in
theorem comparison_n (k : Int) (hk : k ≠ 1) (w : World) : Calls Try.prog 37 #[.int .i64 k] w fun e w' => e = .returned (.func (.func 41) #[] #[]) ∧ Below w.heap.size w w' := by
  have hmm := @run_makeMap Try.prog
  have h0 : MapIs (w.alloc (.map #[] 0)) w.heap.size (Value.int .i64) (fun _ => none) 0 := MapIs.made w _
  have b0 : Below w.heap.size w (w.alloc (.map #[] 0)) := (Below.refl _ _).alloc (Nat.le_refl _) _
  have HK := Lib.hid hk
  clear hk
  go_enter Try.func37, Try.ntmps37
  go_wp2_with (first
    | (refine wpList_ins rfl (.tmp 6) (.const (.int .i64 1)) (.func 40) 76 rfl keyI Try.underlying76 h0 rfl 1 rfl _ rfl ?_; intro w1 h1 t1)
    | (refine wpList_lk rfl (.tmp 7) (.tmp 8) 76 true rfl keyI Try.underlying76 h1 rfl k rfl _ (zeroF _) (.tuple #[.nilFunc, .bool false]) (by simp [HK.out]) ?_))
  go_ret
  exact ⟨rfl, below_turned b0 t1 (Nat.le_refl _) (Nat.le_refl _)⟩
/-- what a comparison of two tasks of a kind says -/
def CmpRes (kind : Int) (a b : Sc.Tk) (w : World) (e : Ending) (w' : World) : Prop := ∃ c : Int, e = .returned (.int .i64 c) ∧ decide (c < 0) = Sc.lt kind a b ∧ Below w.heap.size w w'
theorem reb_cmp (a b : Sc.Tk) (ha : Sc.fit 1 Sc.can a = true) (hb : Sc.fit 1 Sc.can b = true) (w : World) : Calls Try.prog 40 #[tv a, tv b] w (CmpRes 1 a b w) := by
  have h1 : 0 ≤ a.left ∧ 0 < a.bad := by simp [Sc.fit, Sc.can] at ha; omega
  have h2 : 0 ≤ b.left ∧ 0 < b.bad := by simp [Sc.fit, Sc.can] at hb; omega
  refine (rebuilds_cut a b h1.2 h2.2 w).mono fun e w' ⟨he, hw⟩ => ⟨_, he, ?_, hw⟩
  rw [reb_lt a b h1.1 h2.1]; rfl
theorem pla_cmp (kind : Int) (hk : kind ≠ 1) (a b : Sc.Tk) (w : World) : Calls Try.prog 41 #[tv a, tv b] w (CmpRes kind a b w) := by
  refine (places_any a b w).mono fun e w' ⟨he, hw⟩ => ⟨_, he, ?_, hw⟩
  rw [pla_lt]; unfold Sc.lt; rw [if_neg hk]
/-- the cells of a list of indices -/
abbrev nvs (l : List Nat) : List Value := l.map fun k : Nat => Value.int .i64 (k : Int)
theorem tk_get {l : List Sc.Tk} {k j : Nat} (hk : k < l.length) (hj : j < 5) : (l.flatMap tcs)[k * 5 + j]? = (tcs l[k])[j]? := flatMap_get? (sz := 5) (fun _ _ => rfl) hk hj
theorem Rd.tk {w : World} {B n : Nat} {A : Option Addr} {L : List Sc.Tk} (h : Rd w B 5 A n (L.flatMap tcs)) (hn : L.length = n) (h0 : 0 < n) : ∃ b off, A = some ⟨b, off, none⟩ ∧ b < B ∧ ∀ k, k < n → w.cell? ⟨b, off + k * 5, none⟩ = some (.int .i64 (Sc.atK L k).kind) ∧ w.cell? ⟨b, off + k * 5 + 1, none⟩ = some (.int .i64 (Sc.atK L k).row) ∧ w.cell? ⟨b, off + k * 5 + 2, none⟩ = some (.int .i64 (Sc.atK L k).grp) ∧ w.cell? ⟨b, off + k * 5 + 3, none⟩ = some (.int .i64 (Sc.atK L k).left) ∧ w.cell? ⟨b, off + k * 5 + 4, none⟩ = some (.int .i64 (Sc.atK L k).bad) := by
  obtain ⟨b, off, e, hb, hc⟩ := h.2 h0
  refine ⟨b, off, e, hb, fun k hk => ?_⟩
  have hkl : k < L.length := by omega
  have ea : Sc.atK L k = L[k] := by simp [Sc.atK, List.getD, hkl]
  rw [ea]
  have g := fun j (hj : j < 5) => tk_get hkl hj
  refine ⟨?_, ?_, ?_, ?_, ?_⟩
  · have := hc (k * 5 + 0) _ (by rw [g 0 (by omega)]; rfl); simpa using this
  · have := hc (k * 5 + 1) _ (by rw [g 1 (by omega)]; rfl); rwa [← Nat.add_assoc] at this
  · have := hc (k * 5 + 2) _ (by rw [g 2 (by omega)]; rfl); rwa [← Nat.add_assoc] at this
  · have := hc (k * 5 + 3) _ (by rw [g 3 (by omega)]; rfl); rwa [← Nat.add_assoc] at this
  · have := hc (k * 5 + 4) _ (by rw [g 4 (by omega)]; rfl); rwa [← Nat.add_assoc] at this
end Go.Proofs.Ytfihdenapjmaeaa
