/- What a run of choices gives: each task that can be chosen once, prefixes, the urgent ones first; and what turns give: fairness, balance. No program in sight. -/
import Derived.Test.YtfihdenapjmaeaaSchP
namespace Go.Proofs.Ytfihdenapjmaeaa
set_option linter.unusedVariables false
set_option linter.unusedSimpArgs false
namespace Sc

theorem urg_can {t : Tk} (h : urg t = true) : can t = true := by simp [urg, can] at *; omega
theorem fit_can {k : Int} {is : Tk → Bool} (his : ∀ t, is t = true → can t = true) {t : Tk} (h : fit k is t = true) : t.kind = k ∧ can t = true := by
  simp [fit] at h; exact ⟨h.1, his _ h.2⟩
theorem can_kind {t : Tk} (h : can t = true) : 1 ≤ t.kind ∧ t.kind ≤ 5 := by simp [can] at h; omega

theorem kinds_top (a : Nat → Bool) (cr : List Int) (n : Nat) : ((kinds a cr n).2.2 = 0 ∧ ∀ k, 1 ≤ k → k ≤ n → a k = false) ∨ (1 ≤ (kinds a cr n).2.2 ∧ (kinds a cr n).2.2 ≤ n ∧ a (kinds a cr n).2.2 = true) := by
  induction n with
  | zero => left; exact ⟨rfl, fun k h1 h2 => by omega⟩
  | succ n ih =>
    rw [kinds_succ]
    unfold one
    cases hav : a (n + 1) with
    | false =>
      simp only [Bool.false_eq_true, if_false]
      rcases ih with ⟨h1, h2⟩ | ⟨h1, h2, h3⟩
      · left
        refine ⟨h1, fun k k1 k2 => ?_⟩
        rcases Nat.lt_or_ge n k with h | h
        · obtain rfl : k = n + 1 := by omega
          exact hav
        · exact h2 k k1 h
      · right; exact ⟨h1, by omega, h3⟩
    | true =>
      right
      simp only [if_true]
      split
      · exact ⟨by omega, by omega, hav⟩
      · rename_i hc
        rcases ih with ⟨h1, h2⟩ | ⟨h1, h2, h3⟩
        · exact absurd (Or.inl h1) hc
        · exact ⟨h1, by omega, h3⟩
theorem kinds_len (a : Nat → Bool) (cr : List Int) (n : Nat) : (kinds a cr n).1.length = cr.length := by
  induction n with
  | zero => rfl
  | succ n ih =>
    rw [kinds_succ]; unfold one; split
    · simp [ih]
    · exact ih
theorem turn_len (a : Nat → Bool) (cr : List Int) : (turn a cr).1.length = cr.length := by
  unfold turn; split
  · exact kinds_len _ _ _
  · simp [kinds_len]
theorem next_len (cr : List Int) (L : List Tk) (ks : List Nat) : (next cr L ks).1.length = cr.length := by
  unfold next; split
  · rfl
  · exact turn_len _ _
theorem turn_top (a : Nat → Bool) (cr : List Int) : ((turn a cr).2 = 0 ∧ ∀ k, 1 ≤ k → k ≤ 5 → a k = false) ∨ (1 ≤ (turn a cr).2 ∧ (turn a cr).2 ≤ 5 ∧ a (turn a cr).2 = true) := by
  have h := kinds_top a cr 5
  unfold turn
  split
  · rename_i h0
    rcases h with h | h
    · exact .inl ⟨rfl, h.2⟩
    · omega
  · rename_i h0
    rcases h with h | h
    · exact absurd h.1 h0
    · exact .inr h
theorem next_or (cr : List Int) (L : List Tk) (ks : List Nat) :
    ((next cr L ks).2 = -1 ∧ ∀ k ∈ ks, can (atK L k) = false) ∨ ∃ k ∈ ks, (next cr L ks).2 = (k : Int) ∧ can (atK L k) = true := by
  unfold next
  split
  · rename_i h0
    obtain ⟨k, hk, h1, h2⟩ := best_pos h0
    exact .inr ⟨k, hk, h1, (fit_can (fun _ h => urg_can h) h2).2⟩
  · rcases turn_top (av L ks) cr with ⟨h1, h2⟩ | ⟨h1, h2, h3⟩
    · left
      rw [h1]
      refine ⟨rfl, fun k hk => ?_⟩
      cases hc : can (atK L k) with
      | false => rfl
      | true =>
        have hkd := can_kind hc
        have h4 := h2 (atK L k).kind.toNat (by omega) (by omega)
        simp [av] at h4
        have h5 := (best_neg h4).2 k hk
        rw [Int.max_eq_left (by omega)] at h5
        simp [fit, hc] at h5
    · right
      rw [if_neg (by omega)]
      simp [av] at h3
      obtain ⟨k, hk, h4, h5⟩ := best_pos h3
      exact ⟨k, hk, h4, (fit_can (fun _ h => h) h5).2⟩
theorem next_neg {cr : List Int} {L : List Tk} {ks : List Nat} (h : (next cr L ks).2 < 0) : (next cr L ks).2 = -1 ∧ ∀ k ∈ ks, can (atK L k) = false := by
  rcases next_or cr L ks with h1 | ⟨k, _, h1, _⟩
  · exact h1
  · omega
theorem next_pos {cr : List Int} {L : List Tk} {ks : List Nat} (h : ¬ (next cr L ks).2 < 0) : ∃ k ∈ ks, (next cr L ks).2 = (k : Int) ∧ can (atK L k) = true := by
  rcases next_or cr L ks with h1 | h1
  · omega
  · exact h1

theorem run_mem (L : List Tk) (b : Nat) : ∀ cr ks, ∀ k ∈ (run L b cr ks).2, k ∈ ks ∧ can (atK L k) = true := by
  induction b with
  | zero => intro cr ks k hk; simp [run] at hk
  | succ b ih =>
    intro cr ks k hk
    unfold run at hk
    split at hk
    · simp at hk
    · rename_i h0
      obtain ⟨j, hj, h1, h2⟩ := next_pos h0
      rw [h1] at hk
      simp only [Int.toNat_natCast, List.mem_cons] at hk
      rcases hk with rfl | hk
      · exact ⟨hj, h2⟩
      · have := ih _ _ k hk
        simp at this
        exact ⟨this.1.1, this.2⟩
theorem run_nodup (L : List Tk) (b : Nat) : ∀ cr ks, (run L b cr ks).2.Nodup := by
  induction b with
  | zero => intro cr ks; simp [run]
  | succ b ih =>
    intro cr ks
    unfold run
    split
    · simp
    · rename_i h0
      obtain ⟨j, hj, h1, h2⟩ := next_pos h0
      simp only [List.nodup_cons]
      refine ⟨fun hm => ?_, ih _ _⟩
      have := (run_mem L b _ _ _ hm).1
      simp at this
theorem filter_len {ks : List Nat} {j : Nat} (h : j ∈ ks) : (ks.filter (· ≠ j)).length < ks.length := by
  induction ks with
  | nil => simp at h
  | cons a ks ih =>
    simp only [List.filter_cons]
    split
    · rename_i h0
      simp at h0
      have := ih (by simp at h; rcases h with h | h; exact absurd h.symm h0; exact h)
      simp only [List.length_cons]; omega
    · exact Nat.lt_succ_of_le (List.length_filter_le _ _)
theorem run_all (L : List Tk) (b : Nat) : ∀ cr ks, ks.length ≤ b → ∀ k ∈ ks, can (atK L k) = true → k ∈ (run L b cr ks).2 := by
  induction b with
  | zero => intro cr ks h k hk; have := List.length_pos_of_mem hk; omega
  | succ b ih =>
    intro cr ks h k hk hc
    unfold run
    split
    · rename_i h0
      have := (next_neg h0).2 k hk
      rw [hc] at this; cases this
    · rename_i h0
      obtain ⟨j, hj, h1, h2⟩ := next_pos h0
      rw [h1]
      simp only [Int.toNat_natCast, List.mem_cons]
      by_cases hkj : k = j
      · exact .inl hkj
      · right
        refine ih _ _ ?_ k (by simp [hk, hkj]) hc
        have := filter_len hj
        omega
theorem run_take (L : List Tk) (a : Nat) : ∀ b cr ks, a ≤ b → (run L a cr ks).2 = (run L b cr ks).2.take a := by
  induction a with
  | zero => intro b cr ks _; simp [run]
  | succ a ih =>
    intro b cr ks h
    obtain ⟨b, rfl⟩ : ∃ c, b = c + 1 := ⟨b - 1, by omega⟩
    unfold run
    split
    · simp
    · simp only [List.take_succ_cons]
      rw [ih b _ _ (by omega)]
theorem run_len (L : List Tk) (b : Nat) : ∀ cr ks, (run L b cr ks).2.length ≤ b := by
  induction b with
  | zero => intro cr ks; simp [run]
  | succ b ih =>
    intro cr ks
    unfold run
    split
    · simp
    · have := ih (next cr L ks).1 (ks.filter (· ≠ (next cr L ks).2.toNat))
      simp only [List.length_cons]; omega
/-- an urgent choice is first, or behind an urgent one with at least as many units that are not good -/
theorem run_urgent (L : List Tk) (b : Nat) : ∀ cr ks, ∀ i j k, (run L b cr ks).2[i]? = some j → (run L b cr ks).2[i + 1]? = some k → urg (atK L k) = true → urg (atK L j) = true ∧ (atK L k).bad ≤ (atK L j).bad := by
  induction b with
  | zero => intro cr ks i j k h; simp [run] at h
  | succ b ih =>
    intro cr ks i j k h1 h2 hu
    unfold run at h1 h2
    split at h1
    · simp at h1
    · rename_i h0
      rw [if_neg h0] at h2
      cases i with
      | succ i => exact ih _ _ i j k (by simpa using h1) (by simpa using h2) hu
      | zero =>
        obtain ⟨q, hq, e1, e2⟩ := next_pos h0
        simp only [List.getElem?_cons_zero, Option.some.injEq] at h1
        simp only [List.getElem?_cons_succ] at h2
        rw [e1, Int.toNat_natCast] at h1
        subst h1
        have hk := (run_mem L b _ _ k (List.mem_of_getElem? h2)).1
        simp only [List.mem_filter] at hk
        have hf : fit 1 urg (atK L k) = true := by
          have : (atK L k).kind = 1 := by simp [urg] at hu; exact hu.1
          simp [fit, this, hu]
        have hp : 0 ≤ best L ks 1 urg := by
          rcases best_or L ks 1 urg with ⟨_, h⟩ | ⟨x, _, h, _⟩
          · rw [h k hk.1] at hf; cases hf
          · omega
        have en : (next cr L ks).2 = best L ks 1 urg := by unfold next; rw [if_pos hp]
        rw [en] at e1
        obtain ⟨x, hx, e3, e4⟩ := best_pos hp
        obtain rfl : x = q := by omega
        have hm := best_min e1 k hk.1 hf
        simp [fit] at e4
        refine ⟨e4.2, ?_⟩
        have h5 := e4.2
        simp [urg] at h5 hu
        simp [lt, ltR] at hm
        have := hm.2 (by omega)
        omega

/-! Turns with the same kinds, again and again -/
/-- n turns: the credits, how often each kind was chosen -/
def turns (a : Nat → Bool) : Nat → List Int → List Int × List Int
  | 0, cr => (cr, [0, 0, 0, 0, 0, 0])
  | n + 1, cr => ((turn a (turns a n cr).1).1, (turns a n cr).2.set (turn a (turns a n cr).1).2 ((turns a n cr).2.getD (turn a (turns a n cr).1).2 0 + 1))
def wsum (a : Nat → Bool) : Int := (if a 1 then 4 else 0) + (if a 2 then 2 else 0) + (if a 3 then 2 else 0) + (if a 4 then 1 else 0) + (if a 5 then 1 else 0)
def wants (a : Nat → Bool) : List Int := [0, if a 1 then 4 else 0, if a 2 then 2 else 0, if a 3 then 2 else 0, if a 4 then 1 else 0, if a 5 then 1 else 0]
def pat (x1 x2 x3 x4 x5 : Bool) (k : Nat) : Bool := if k = 1 then x1 else if k = 2 then x2 else if k = 3 then x3 else if k = 4 then x4 else if k = 5 then x5 else false
theorem fair_pat : ∀ x1 x2 x3 x4 x5 : Bool, turns (pat x1 x2 x3 x4 x5) (wsum (pat x1 x2 x3 x4 x5)).toNat [0, 0, 0, 0, 0] = ([0, 0, 0, 0, 0], wants (pat x1 x2 x3 x4 x5)) := by decide +kernel
theorem one_congr {a b : Nat → Bool} {k : Nat} (h : a k = b k) (s : List Int × Int × Nat) : one a s k = one b s k := by unfold one; rw [h]
theorem kinds_congr {a b : Nat → Bool} {n : Nat} (h : ∀ k, 1 ≤ k → k ≤ n → a k = b k) (cr : List Int) : kinds a cr n = kinds b cr n := by
  induction n with
  | zero => rfl
  | succ n ih => rw [kinds_succ, kinds_succ, ih (fun k h1 h2 => h k h1 (by omega)), one_congr (h (n + 1) (by omega) (by omega))]
theorem turn_congr {a b : Nat → Bool} (h : ∀ k, 1 ≤ k → k ≤ 5 → a k = b k) (cr : List Int) : turn a cr = turn b cr := by unfold turn; rw [kinds_congr h]
theorem turns_congr {a b : Nat → Bool} (h : ∀ k, 1 ≤ k → k ≤ 5 → a k = b k) (n : Nat) (cr : List Int) : turns a n cr = turns b n cr := by
  induction n with
  | zero => rfl
  | succ n ih => unfold turns; rw [ih, turn_congr h]
theorem pat_eq (a : Nat → Bool) : ∀ k, 1 ≤ k → k ≤ 5 → a k = pat (a 1) (a 2) (a 3) (a 4) (a 5) k := by
  intro k h1 h2
  obtain rfl | rfl | rfl | rfl | rfl : k = 1 ∨ k = 2 ∨ k = 3 ∨ k = 4 ∨ k = 5 := by omega
  all_goals rfl
theorem fair (a : Nat → Bool) : turns a (wsum a).toNat [0, 0, 0, 0, 0] = ([0, 0, 0, 0, 0], wants a) := by
  rw [turns_congr (pat_eq a)]
  have h := fair_pat (a 1) (a 2) (a 3) (a 4) (a 5)
  exact h

/-! Balance -/
def sq (l : List Int) : Int := (l.map fun x => x * x).sum
theorem sq_ub {x : Int} {n : Int} (hn : 0 ≤ n) (h : x * x ≤ n * n) : -n ≤ x ∧ x ≤ n := by
  constructor
  · rcases Int.lt_or_le x (-n) with h1 | h1
    · have h2 : (n + 1) * (n + 1) ≤ (-x) * (-x) := Int.mul_le_mul (by omega) (by omega) (by omega) (by omega)
      rw [Int.neg_mul_neg] at h2
      have h3 : (n + 1) * (n + 1) = n * n + 2 * n + 1 := by rw [Int.add_mul, Int.mul_add]; omega
      omega
    · omega
  · rcases Int.lt_or_le n x with h1 | h1
    · have h2 : (n + 1) * (n + 1) ≤ x * x := Int.mul_le_mul (by omega) (by omega) (by omega) (by omega)
      have h3 : (n + 1) * (n + 1) = n * n + 2 * n + 1 := by rw [Int.add_mul, Int.mul_add]; omega
      omega
    · omega
theorem sqn (x : Int) : 0 ≤ x * x := by
  rcases Int.le_total 0 x with h | h
  · exact Int.mul_nonneg h h
  · have := Int.mul_nonneg (show 0 ≤ -x by omega) (show 0 ≤ -x by omega); rwa [Int.neg_mul_neg] at this
theorem sqa (x w : Int) : (x + w) * (x + w) = x * x + 2 * (w * x) + w * w := by
  rw [Int.add_mul, Int.mul_add, Int.mul_add, Int.mul_comm x w]; omega
theorem clamp_id {x : Int} (h1 : -1000 ≤ x) (h2 : x ≤ 1000) : clamp x = x := by unfold clamp; omega
theorem sq_set {l : List Int} {i : Nat} (h : i < l.length) (v : Int) : sq (l.set i v) = sq l - l.getD i 0 * l.getD i 0 + v * v := by
  induction l generalizing i with
  | nil => simp at h
  | cons a l ih =>
    cases i with
    | zero => simp [sq]; omega
    | succ i =>
      have := ih (i := i) (by simpa using h)
      simp only [sq, List.set_cons_succ, List.map_cons, List.sum_cons, List.getD_cons_succ] at *
      omega
theorem sum_set {l : List Int} {i : Nat} (h : i < l.length) (v : Int) : (l.set i v).sum = l.sum - l.getD i 0 + v := by
  induction l generalizing i with
  | nil => simp at h
  | cons a l ih =>
    cases i with
    | zero => simp; omega
    | succ i =>
      have := ih (i := i) (by simpa using h)
      simp only [List.set_cons_succ, List.sum_cons, List.getD_cons_succ] at *
      omega
theorem sq_mem {l : List Int} : 0 ≤ sq l ∧ ∀ x ∈ l, x * x ≤ sq l := by
  induction l with
  | nil => simp [sq]
  | cons a l ih =>
    have h0 := sqn a
    simp only [sq, List.map_cons, List.sum_cons] at *
    refine ⟨by omega, fun x hx => ?_⟩
    simp only [List.mem_cons] at hx
    rcases hx with rfl | hx
    · omega
    · have := ih.2 x hx; omega
theorem getD_set_ne {l : List Int} {i j : Nat} (h : i ≠ j) (v : Int) : (l.set i v).getD j 0 = l.getD j 0 := by
  simp [List.getD, List.getElem?_set, h]
theorem getD_set_eq {l : List Int} {i : Nat} (h : i < l.length) (v : Int) : (l.set i v).getD i 0 = v := by
  simp [List.getD, List.getElem?_set, h]
theorem wt_range (k : Nat) : 0 ≤ wt k ∧ wt k ≤ 4 := by unfold wt; split; omega; split; omega; split <;> omega
def wmax (n : Nat) : Int := if n = 0 then 0 else if n = 1 then 4 else if n = 2 then 6 else if n = 3 then 8 else if n = 4 then 9 else 10
theorem wmax_succ {n : Nat} (h : n < 5) : wmax n + wt ((n + 1 : Nat) : Int) ≤ wmax (n + 1) := by
  have : n = 0 ∨ n = 1 ∨ n = 2 ∨ n = 3 ∨ n = 4 := by omega
  rcases this with rfl | rfl | rfl | rfl | rfl <;> decide
theorem kinds_sq (a : Nat → Bool) (cr : List Int) (hl : cr.length = 5) (n : Nat) (hn : n ≤ 5) :
    (kinds a cr n).1.sum = cr.sum + (kinds a cr n).2.1 ∧ 0 ≤ (kinds a cr n).2.1 ∧ (kinds a cr n).2.1 ≤ wmax n ∧
    (∀ j, n ≤ j → (kinds a cr n).1.getD j 0 = cr.getD j 0) ∧ (∀ j, cr.getD j 0 ≤ (kinds a cr n).1.getD j 0 ∧ (kinds a cr n).1.getD j 0 ≤ cr.getD j 0 + 4) ∧
    ((kinds a cr n).2.2 = 0 → (kinds a cr n).1 = cr ∧ (kinds a cr n).2.1 = 0) ∧ (kinds a cr n).2.2 ≤ n ∧
    ((kinds a cr n).2.2 ≠ 0 → sq (kinds a cr n).1 ≤ sq cr + 2 * ((kinds a cr n).2.1 * (kinds a cr n).1.getD ((kinds a cr n).2.2 - 1) 0)) := by
  induction n with
  | zero => exact ⟨by simp [kinds], by simp [kinds], by simp [kinds, wmax], fun _ _ => rfl, fun j => by simp [kinds]; omega, fun _ => ⟨rfl, rfl⟩, by simp [kinds], fun h => absurd rfl h⟩
  | succ n ih =>
    obtain ⟨i1, i2, i3, i4, i5, i6, i7, i8⟩ := ih (by omega)
    have hlen := kinds_len a cr n
    rw [kinds_succ]
    generalize kinds a cr n = s at *
    obtain ⟨c, S, top⟩ := s
    simp only at *
    have hw := wt_range (n + 1)
    have hm := wmax_succ (n := n) (by omega)
    unfold one
    cases hav : a (n + 1) with
    | false =>
      simp only [Bool.false_eq_true, if_false]
      exact ⟨i1, i2, by omega, fun j hj => i4 j (by omega), i5, i6, by omega, i8⟩
    | true =>
      simp only [if_true, Nat.add_sub_cancel]
      have hi : n < c.length := by omega
      have e1 := sum_set hi (c.getD n 0 + wt ((n + 1 : Nat) : Int))
      have e2 := sq_set hi (c.getD n 0 + wt ((n + 1 : Nat) : Int))
      have e3 := sqa (c.getD n 0) (wt ((n + 1 : Nat) : Int))
      have e5 : wt ((n + 1 : Nat) : Int) * (c.getD n 0 + wt ((n + 1 : Nat) : Int)) = wt ((n + 1 : Nat) : Int) * c.getD n 0 + wt ((n + 1 : Nat) : Int) * wt ((n + 1 : Nat) : Int) := Int.mul_add _ _ _
      have e4 := i4 n (Nat.le_refl _)
      refine ⟨by rw [e1]; omega, by omega, by omega, fun j hj => by rw [getD_set_ne (by omega)]; exact i4 j (by omega), fun j => ?_, fun h => ?_, ?_, fun h => ?_⟩
      · by_cases hj : n = j
        · subst hj; rw [getD_set_eq hi]; omega
        · rw [getD_set_ne hj]; exact i5 j
      · split at h
        · omega
        · rename_i hc; exact absurd (Or.inl h) hc
      · split <;> omega
      · have hww := sqn (wt ((n + 1 : Nat) : Int))
        split
        · rename_i hc
          simp only [Nat.add_sub_cancel]
          rw [getD_set_eq hi, e2, e3, Int.add_mul, Int.mul_add, Int.mul_add]
          have hcom := Int.mul_comm (wt ((n + 1 : Nat) : Int)) (c.getD n 0)
          by_cases ht : top = 0
          · obtain ⟨rfl, rfl⟩ := i6 ht
            simp only [Int.zero_mul]
            omega
          · have hi8 := i8 ht
            rcases hc with hc | hc
            · exact absurd hc ht
            · rw [getD_set_ne (by omega)] at hc
              have hmul := Int.mul_le_mul_of_nonneg_left (show c.getD (top - 1) 0 ≤ c.getD n 0 + wt ((n + 1 : Nat) : Int) by omega) i2
              rw [Int.mul_add] at hmul
              omega
        · rename_i hc
          have ht : top ≠ 0 := fun h => hc (Or.inl h)
          have hi8 := i8 ht
          have hc' : ¬ (c.set n (c.getD n 0 + wt ((n + 1 : Nat) : Int))).getD (top - 1) 0 < c.getD n 0 + wt ((n + 1 : Nat) : Int) := fun h => hc (Or.inr h)
          rw [getD_set_ne (by omega)] at hc' ⊢
          rw [e2, e3, Int.add_mul]
          have hmul := Int.mul_le_mul_of_nonneg_left (show c.getD n 0 + wt ((n + 1 : Nat) : Int) ≤ c.getD (top - 1) 0 by omega) hw.1
          rw [Int.mul_add] at hmul
          omega
def Bal (n : Int) (cr : List Int) : Prop := cr.length = 5 ∧ cr.sum = 0 ∧ sq cr ≤ n
theorem bal_range {n : Int} (hn : n ≤ 4000) {cr : List Int} (h : Bal n cr) : ∀ x ∈ cr, -63 ≤ x ∧ x ≤ 63 := by
  intro x hx
  have h1 := sq_mem.2 x hx
  have h2 := h.2.2
  have := @sq_ub x 64 (by omega) (by omega)
  rcases Int.lt_or_le x (-63) with h | h
  · obtain rfl : x = -64 := by omega
    omega
  · rcases Int.lt_or_le 63 x with h' | h'
    · obtain rfl : x = 64 := by omega
      omega
    · exact ⟨h, h'⟩
theorem getD_range {cr : List Int} (h : ∀ x ∈ cr, -63 ≤ x ∧ x ≤ 63) (j : Nat) : -63 ≤ cr.getD j 0 ∧ cr.getD j 0 ≤ 63 := by
  unfold List.getD
  cases hj : cr[j]? with
  | none => simp
  | some x => simpa using h x (List.mem_of_getElem? hj)
theorem map_id_of {l : List Int} (h : ∀ j, j < l.length → -1000 ≤ l.getD j 0 ∧ l.getD j 0 ≤ 1000) : l.map clamp = l := by
  apply List.ext_getElem (by simp)
  intro j h1 h2
  simp only [List.getElem_map]
  have := h j h2
  simp [List.getD, h2] at this
  exact clamp_id this.1 this.2
theorem bal_turn (a : Nat → Bool) {n : Int} (hn : n ≤ 4000) {cr : List Int} (h : Bal n cr) : Bal (n + 100) (turn a cr).1 := by
  have hr := getD_range (bal_range hn h)
  obtain ⟨hl, hs, hq⟩ := h
  obtain ⟨i1, i2, i3, i4, i5, i6, i7, i8⟩ := kinds_sq a cr hl 5 (Nat.le_refl _)
  have hlen := kinds_len a cr 5
  unfold turn
  generalize kinds a cr 5 = s at *
  obtain ⟨c, S, top⟩ := s
  simp only at *
  split
  · rename_i h0
    obtain ⟨rfl, _⟩ := i6 h0
    exact ⟨hl, hs, by show sq c ≤ n + 100; omega⟩
  · rename_i h0
    have hi : top - 1 < c.length := by omega
    have hq8 := i8 h0
    have e1 := sum_set hi (c.getD (top - 1) 0 - S)
    have e2 := sq_set hi (c.getD (top - 1) 0 - S)
    have e3 := sqa (c.getD (top - 1) 0) (-S)
    rw [← Int.sub_eq_add_neg, Int.neg_mul_neg, Int.neg_mul] at e3
    have hS : S * S ≤ 10 * 10 := Int.mul_le_mul i3 i3 i2 (by decide)
    have hid : (c.set (top - 1) (c.getD (top - 1) 0 - S)).map clamp = c.set (top - 1) (c.getD (top - 1) 0 - S) := by
      refine map_id_of fun j hj => ?_
      have h3 := hr j
      have h4 := i5 j
      have h5 : wmax 5 = 10 := rfl
      by_cases hjt : top - 1 = j
      · subst hjt; rw [getD_set_eq hi]; omega
      · rw [getD_set_ne hjt]; omega
    rw [hid]
    exact ⟨by simp; omega, by rw [e1]; omega, by rw [e2, e3]; omega⟩
theorem bal_next {n : Int} (hn : n ≤ 4000) (h0 : 0 ≤ n) {cr : List Int} (L : List Tk) (ks : List Nat) (h : Bal n cr) : Bal (n + 100) (next cr L ks).1 := by
  unfold next
  split
  · exact ⟨h.1, h.2.1, by have := h.2.2; show sq cr ≤ n + 100; omega⟩
  · exact bal_turn _ hn h
/-- bounds of any turn from valid credits -/
def Vld (cr : List Int) : Prop := cr.length = 5 ∧ ∀ x ∈ cr, -1000 ≤ x ∧ x ≤ 1000
theorem clamp_range (x : Int) : -1000 ≤ clamp x ∧ clamp x ≤ 1000 := by unfold clamp; omega
theorem vld_turn (a : Nat → Bool) {cr : List Int} (h : Vld cr) : Vld (turn a cr).1 := by
  refine ⟨by rw [turn_len]; exact h.1, fun x hx => ?_⟩
  obtain ⟨i1, i2, i3, i4, i5, i6, i7, i8⟩ := kinds_sq a cr h.1 5 (Nat.le_refl _)
  unfold turn at hx
  split at hx
  · rename_i h0
    rw [(i6 h0).1] at hx
    exact h.2 x hx
  · simp only [List.mem_map] at hx
    obtain ⟨y, _, rfl⟩ := hx
    exact clamp_range y
theorem vld_next {cr : List Int} (L : List Tk) (ks : List Nat) (h : Vld cr) : Vld (next cr L ks).1 := by
  unfold next
  split
  · exact h
  · exact vld_turn _ h
end Sc
end Go.Proofs.Ytfihdenapjmaeaa
