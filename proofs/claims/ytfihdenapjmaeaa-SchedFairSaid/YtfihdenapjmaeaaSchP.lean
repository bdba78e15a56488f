/- Maintenance tasks as plain data: which of them can be chosen, the best one among some indices, a turn of the kinds, a choice, a run; and what these give. No program in sight. -/
namespace Go.Proofs.Ytfihdenapjmaeaa
set_option linter.unusedVariables false
set_option linter.unusedSimpArgs false
namespace Sc

/-- a task: its kind, its stripe (row, group), further losses that the stripe survives, units that are not good -/
structure Tk where
  kind : Int
  row : Int
  grp : Int
  left : Int
  bad : Int

def zero : Tk := ⟨0, 0, 0, 0, 0⟩
def can (t : Tk) : Bool := decide (t.kind = 1 ∧ 0 ≤ t.left ∧ 0 < t.bad ∨ 2 ≤ t.kind ∧ t.kind ≤ 5)
def urg (t : Tk) : Bool := decide (t.kind = 1 ∧ t.left = 0 ∧ 0 < t.bad)
def ltP (a b : Tk) : Bool := decide (a.row < b.row ∨ a.row = b.row ∧ a.grp < b.grp)
def ltR (a b : Tk) : Bool := decide (a.left < b.left ∨ a.left = b.left ∧ (b.bad < a.bad ∨ b.bad = a.bad ∧ (a.row < b.row ∨ a.row = b.row ∧ a.grp < b.grp)))
/-- a is strictly better than b, two tasks of one kind -/
def lt (kind : Int) (a b : Tk) : Bool := if kind = 1 then ltR a b else ltP a b
def atK (L : List Tk) (k : Nat) : Tk := L.getD k zero

def fit (kind : Int) (is : Tk → Bool) (t : Tk) : Bool := decide (t.kind = kind) && is t
def pick (L : List Tk) (kind : Int) (is : Tk → Bool) (out : Int) (k : Nat) : Int :=
  if fit kind is (atK L k) && (decide (out < 0) || lt kind (atK L k) (atK L out.toNat)) then (k : Int) else out
/-- the index of the best task of a kind among some indices, or -1 -/
def best (L : List Tk) (ks : List Nat) (kind : Int) (is : Tk → Bool) : Int := ks.foldl (pick L kind is) (-1)

theorem snoc_ind {α : Type} {P : List α → Prop} (h0 : P []) (h1 : ∀ l a, P l → P (l ++ [a])) (l : List α) : P l := by
  have h : ∀ r : List α, P r.reverse := by
    intro r
    induction r with
    | nil => exact h0
    | cons a r ih => rw [List.reverse_cons]; exact h1 _ _ ih
  have := h l.reverse
  rwa [List.reverse_reverse] at this

theorem best_snoc (L : List Tk) (ks : List Nat) (k : Nat) (kind : Int) (is : Tk → Bool) : best L (ks ++ [k]) kind is = pick L kind is (best L ks kind is) k := by
  simp [best]
theorem best_or (L : List Tk) (ks : List Nat) (kind : Int) (is : Tk → Bool) :
    (best L ks kind is = -1 ∧ ∀ k ∈ ks, fit kind is (atK L k) = false) ∨ ∃ k ∈ ks, best L ks kind is = (k : Int) ∧ fit kind is (atK L k) = true := by
  induction ks using snoc_ind with
  | h0 => exact .inl ⟨rfl, by simp⟩
  | h1 ks k ih =>
    rw [best_snoc]
    unfold pick
    rcases ih with ⟨h1, h2⟩ | ⟨j, hj, h1, h2⟩
    · rw [h1]
      cases hf : fit kind is (atK L k) with
      | false =>
        left
        refine ⟨by simp, fun q hq => ?_⟩
        simp at hq
        rcases hq with hq | rfl
        · exact h2 q hq
        · exact hf
      | true => right; exact ⟨k, by simp, by simp, hf⟩
    · right
      split
      · rename_i hc
        simp at hc
        exact ⟨k, by simp, rfl, hc.1⟩
      · exact ⟨j, by simp [hj], h1, h2⟩
theorem best_neg {L : List Tk} {ks : List Nat} {kind : Int} {is : Tk → Bool} (h : best L ks kind is < 0) : best L ks kind is = -1 ∧ ∀ k ∈ ks, fit kind is (atK L k) = false := by
  rcases best_or L ks kind is with h1 | ⟨k, _, h1, _⟩
  · exact h1
  · omega
theorem best_pos {L : List Tk} {ks : List Nat} {kind : Int} {is : Tk → Bool} (h : 0 ≤ best L ks kind is) : ∃ k ∈ ks, best L ks kind is = (k : Int) ∧ fit kind is (atK L k) = true := by
  rcases best_or L ks kind is with ⟨h1, _⟩ | h1
  · omega
  · exact h1
theorem lt_trans_ {kind : Int} {a b c : Tk} (h1 : lt kind a b = true) (h2 : lt kind b c = true) : lt kind a c = true := by
  unfold lt at *; split at h1 <;> simp_all [ltR, ltP] <;> omega
theorem lt_irr (kind : Int) (a : Tk) : lt kind a a = false := by unfold lt; split <;> simp [ltR, ltP] <;> omega
theorem lt_neg {kind : Int} {a b c : Tk} (h1 : lt kind a b = false) (h2 : lt kind c b = true) : lt kind a c = false := by
  cases h : lt kind a c with
  | false => rfl
  | true => rw [lt_trans_ h h2] at h1; cases h1
/-- no task that fits is better than the best one -/
theorem best_min {L : List Tk} {ks : List Nat} {kind : Int} {is : Tk → Bool} {b : Nat} (h : best L ks kind is = (b : Int)) : ∀ k ∈ ks, fit kind is (atK L k) = true → lt kind (atK L k) (atK L b) = false := by
  induction ks using snoc_ind generalizing b with
  | h0 => simp
  | h1 ks k ih =>
    rw [best_snoc] at h
    unfold pick at h
    intro q hq hf
    simp at hq
    split at h
    · rename_i hc
      obtain rfl : k = b := by omega
      rcases hq with hq | rfl
      · simp at hc
        rcases best_or L ks kind is with ⟨h1, h2⟩ | ⟨j, hj, h1, h2⟩
        · rw [h2 q hq] at hf; cases hf
        · rw [h1] at hc
          rcases hc.2 with h0 | h0
          · omega
          · have h3 := ih h1 q hq hf
            simp only [Int.toNat_natCast] at h0
            exact lt_neg h3 h0
      · exact lt_irr _ _
    · rename_i hc
      rcases hq with hq | rfl
      · exact ih h q hq hf
      · rw [hf, h] at hc
        simpa using hc

/-! The turn of the kinds -/
def wt (k : Int) : Int := if k = 1 then 4 else if k = 2 ∨ k = 3 then 2 else if k = 4 ∨ k = 5 then 1 else 0
/-- one kind's part in a turn: the credits, the sum of the weights, the kind with the greatest credit -/
def one (av : Nat → Bool) (s : List Int × Int × Nat) (kind : Nat) : List Int × Int × Nat :=
  if av kind then
    (s.1.set (kind - 1) (s.1.getD (kind - 1) 0 + wt kind), s.2.1 + wt kind,
      if s.2.2 = 0 ∨ (s.1.set (kind - 1) (s.1.getD (kind - 1) 0 + wt kind)).getD (s.2.2 - 1) 0 < s.1.getD (kind - 1) 0 + wt kind then kind else s.2.2)
  else s
def kinds (av : Nat → Bool) (cr : List Int) (n : Nat) : List Int × Int × Nat := ((List.range n).map (· + 1)).foldl (one av) (cr, 0, 0)
theorem kinds_succ (av : Nat → Bool) (cr : List Int) (n : Nat) : kinds av cr (n + 1) = one av (kinds av cr n) (n + 1) := by
  simp [kinds, List.range_succ]
def clamp (x : Int) : Int := min (max x (-1000)) 1000
def turn (av : Nat → Bool) (cr : List Int) : List Int × Nat :=
  if (kinds av cr 5).2.2 = 0 then ((kinds av cr 5).1, 0)
  else (((kinds av cr 5).1.set ((kinds av cr 5).2.2 - 1) ((kinds av cr 5).1.getD ((kinds av cr 5).2.2 - 1) 0 - (kinds av cr 5).2.1)).map clamp, (kinds av cr 5).2.2)
/-- which kinds have a task that can be chosen -/
def av (L : List Tk) (ks : List Nat) (k : Nat) : Bool := decide (0 ≤ best L ks k can)
/-- the choice: the credits behind it and the index, or -1 -/
def next (cr : List Int) (L : List Tk) (ks : List Nat) : List Int × Int :=
  if 0 ≤ best L ks 1 urg then (cr, best L ks 1 urg)
  else ((turn (av L ks) cr).1, if (turn (av L ks) cr).2 = 0 then -1 else best L ks (turn (av L ks) cr).2 can)
/-- choices one after the other, each index once -/
def run (L : List Tk) : Nat → List Int → List Nat → List Int × List Nat
  | 0, cr, _ => (cr, [])
  | b + 1, cr, ks =>
    if (next cr L ks).2 < 0 then ((next cr L ks).1, [])
    else ((run L b (next cr L ks).1 (ks.filter (· ≠ (next cr L ks).2.toNat))).1, (next cr L ks).2.toNat :: (run L b (next cr L ks).1 (ks.filter (· ≠ (next cr L ks).2.toNat))).2)

end Sc
end Go.Proofs.Ytfihdenapjmaeaa
