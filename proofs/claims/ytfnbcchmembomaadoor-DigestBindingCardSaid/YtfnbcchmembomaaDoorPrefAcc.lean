/- Prefix proofs are accepted: plain Lean. No condition. -/
import Derived.Test.YtfnbcchmembomaaDoorPrefP
namespace Go.Proofs.YtfnbcchmembomaaDoor
set_option linter.unusedVariables false
set_option linter.unusedSimpArgs false
namespace Mk
/-- the siblings of a prefix and the list that is left, from the top down -/
def pathF : Nat → List (List UInt8) → Nat → List (List UInt8) × List (List UInt8)
  | 0, l, _ => ([], l)
  | f + 1, l, m => if l.length ≤ m then ([], l) else
      if m ≤ split l.length then (root (l.drop (split l.length)) :: (pathF f (l.take (split l.length)) m).1, (pathF f (l.take (split l.length)) m).2)
      else (root (l.take (split l.length)) :: (pathF f (l.drop (split l.length)) (m - split l.length)).1, (pathF f (l.drop (split l.length)) (m - split l.length)).2)
theorem side_false : ∀ (f n m : Nat), (sideF f n m false).2 = false
  | 0, _, _ => rfl
  | f + 1, n, m => by
    unfold sideF
    split
    · rfl
    · split
      · exact side_false f _ _
      · exact side_false f _ _
theorem path_len : ∀ (f : Nat) (l : List (List UInt8)) (m : Nat) (b : Bool), 1 ≤ m → (pathF f l m).1.length = (sideF f l.length m b).1.length
  | 0, _, _, _, _ => rfl
  | f + 1, l, m, b, hm => by
    unfold pathF sideF
    by_cases h1 : l.length ≤ m
    · rw [if_pos h1, if_pos h1]; rfl
    · have h2 := split_lt (n := l.length) (by omega)
      rw [if_neg h1, if_neg h1]
      by_cases h4 : m ≤ split l.length
      · rw [if_pos h4, if_pos h4]
        have := path_len f (l.take (split l.length)) m b hm
        rw [List.length_take, Nat.min_eq_left (by omega)] at this
        simp only [List.length_cons, this]
      · rw [if_neg h4, if_neg h4]
        have := path_len f (l.drop (split l.length)) (m - split l.length) false (by omega)
        rw [List.length_drop] at this
        simp only [List.length_cons, this]
theorem pref_path : ∀ (f : Nat) (l : List (List UInt8)) (m : Nat) (b : Bool), l.length < f → 1 ≤ m → prefF f l m b = (pathF f l m).1 ++ (if (sideF f l.length m b).2 then [] else [root (pathF f l m).2])
  | 0, _, _, _, h, _ => by omega
  | f + 1, l, m, b, h, hm => by
    unfold prefF pathF sideF
    by_cases h1 : l.length ≤ m
    · rw [if_pos h1, if_pos h1, if_pos h1]; rfl
    · have h2 := split_lt (n := l.length) (by omega)
      have h3 := split_pos l.length
      rw [if_neg h1, if_neg h1, if_neg h1]
      by_cases h4 : m ≤ split l.length
      · rw [if_pos h4, if_pos h4, if_pos h4]
        have ih := pref_path f (l.take (split l.length)) m b (by rw [List.length_take]; omega) hm
        rw [List.length_take, Nat.min_eq_left (by omega)] at ih
        rw [ih]; rfl
      · rw [if_neg h4, if_neg h4, if_neg h4]
        have ih := pref_path f (l.drop (split l.length)) (m - split l.length) false (by rw [List.length_drop]; omega) (by omega)
        rw [List.length_drop] at ih
        rw [ih]; rfl
theorem path_whole : ∀ (f : Nat) (l : List (List UInt8)) (m : Nat) (b : Bool), l.length < f → 1 ≤ m → m ≤ l.length → (sideF f l.length m b).2 = true → (pathF f l m).2 = l.take m
  | 0, _, _, _, h, _, _, _ => by omega
  | f + 1, l, m, b, h, hm, hml, hs => by
    unfold pathF
    unfold sideF at hs
    by_cases h1 : l.length ≤ m
    · rw [if_pos h1, List.take_of_length_le h1]
    · have h2 := split_lt (n := l.length) (by omega)
      rw [if_neg h1] at hs ⊢
      by_cases h4 : m ≤ split l.length
      · rw [if_pos h4] at hs ⊢
        have hl : (l.take (split l.length)).length = split l.length := by rw [List.length_take]; omega
        have ih := path_whole f (l.take (split l.length)) m b (by omega) hm (by omega) (by rw [hl]; exact hs)
        rw [ih, List.take_take, Nat.min_eq_left h4]
      · rw [if_neg h4] at hs
        have := side_false f (l.length - split l.length) (m - split l.length)
        rw [this] at hs
        cases hs
theorem zip_snoc {α β : Type} (a : List α) (b : List β) (x : α) (y : β) (h : a.length = b.length) : (a ++ [x]).zip (b ++ [y]) = a.zip b ++ [(x, y)] := by
  rw [List.zip_append h]; rfl
theorem split_same {m n : Nat} (h1 : split n < m) (h2 : m ≤ n) : split m = split n :=
  (split_unique ⟨_, rfl⟩ h1 (Nat.le_trans h2 (split_two (by have := split_pos n; omega)))).symm
theorem fold_snoc (x : List UInt8) (s : List Bool) (pr : List (List UInt8)) (b : Bool) (r : List UInt8) (h : s.length = pr.length) : fold x (b :: s).reverse (r :: pr).reverse = upP (fold x s.reverse pr.reverse) (b, r) := by
  unfold fold
  rw [List.reverse_cons, List.reverse_cons, zip_snoc _ _ _ _ (by rw [List.length_reverse, List.length_reverse, h]), List.foldl_append]
  rfl
theorem fold_path : ∀ (f : Nat) (l : List (List UInt8)) (m : Nat) (b : Bool), l.length < f → 1 ≤ m → m ≤ l.length →
    fold (root (pathF f l m).2) (sideF f l.length m b).1.reverse (pathF f l m).1.reverse = (root (l.take m), root l)
  | 0, _, _, _, h, _, _ => by omega
  | f + 1, l, m, b, h, hm, hml => by
    have hpl := path_len (f + 1) l m b hm
    unfold pathF sideF at hpl ⊢
    by_cases h1 : l.length ≤ m
    · rw [if_pos h1, if_pos h1, List.take_of_length_le h1]
      rfl
    · have h2 := split_lt (n := l.length) (by omega)
      have h3 := split_pos l.length
      have hroot := root_more (l := l) (by omega)
      rw [if_neg h1, if_neg h1] at hpl ⊢
      by_cases h4 : m ≤ split l.length
      · rw [if_pos h4, if_pos h4] at hpl ⊢
        have hl : (l.take (split l.length)).length = split l.length := by rw [List.length_take]; omega
        have ih := fold_path f (l.take (split l.length)) m b (by omega) hm (by omega)
        rw [hl] at ih
        rw [fold_snoc _ _ _ _ _ (by simpa using hpl.symm), ih, List.take_take, Nat.min_eq_left h4, hroot]
        rfl
      · rw [if_neg h4, if_neg h4] at hpl ⊢
        have hl : (l.drop (split l.length)).length = l.length - split l.length := by rw [List.length_drop]
        have ih := fold_path f (l.drop (split l.length)) (m - split l.length) false (by omega) (by omega) (by omega)
        rw [hl] at ih
        rw [fold_snoc _ _ _ _ _ (by simpa using hpl.symm), ih]
        have hlm : (l.take m).length = m := by rw [List.length_take]; omega
        have hs := split_same (m := m) (n := l.length) (by omega) hml
        have hrm := root_more (l := l.take m) (by omega)
        rw [hlm, hs, List.take_take, Nat.min_eq_left (by omega), List.drop_take] at hrm
        rw [hrm, hroot]
        rfl
/-- THE LAW: the prefix proof of a prefix is accepted. -/
theorem pref_ok (l : List (List UInt8)) (m : Nat) (hm : 1 ≤ m) (hml : m ≤ l.length) : verifyN (root (l.take m)) (root l) m l.length (pref l m) = true := by
  have hf := fold_path (l.length + 1) l m true (by omega) hm hml
  have hp := pref_path (l.length + 1) l m true (by omega) hm
  have hl := path_len (l.length + 1) l m true hm
  unfold verifyN pref
  rw [show prefD l m true = prefF (l.length + 1) l m true from rfl, hp, show sideD l.length m true = sideF (l.length + 1) l.length m true from rfl]
  by_cases hw : (sideF (l.length + 1) l.length m true).2 = true
  · have he := path_whole (l.length + 1) l m true (by omega) hm hml hw
    rw [if_pos hw, if_pos hw, List.append_nil]
    rw [he] at hf
    unfold check
    rw [if_pos (by rw [List.length_reverse, hl]), hf]
    simp
  · rw [if_neg hw, if_neg hw, List.reverse_append]
    show check (root (pathF (l.length + 1) l m).2) (root (l.take m)) (root l) _ (pathF (l.length + 1) l m).1.reverse = true
    unfold check
    rw [if_pos (by rw [List.length_reverse, hl]), hf]
    simp
end Mk
end Go.Proofs.YtfnbcchmembomaaDoor
