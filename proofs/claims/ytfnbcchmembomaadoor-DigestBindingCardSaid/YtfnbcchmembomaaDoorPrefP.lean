/- Prefix proofs in plain Lean. No condition. -/
import Derived.Test.YtfnbcchmembomaaDoorProveW
namespace Go.Proofs.YtfnbcchmembomaaDoor
set_option linter.unusedVariables false
set_option linter.unusedSimpArgs false
open Go.RowKit
namespace Mk
/-- the siblings of a prefix, from the top down -/
def prefF : Nat → List (List UInt8) → Nat → Bool → List (List UInt8)
  | 0, _, _, _ => []
  | f + 1, l, m, whole => if l.length ≤ m then (if whole then [] else [root l]) else
      if m ≤ split l.length then root (l.drop (split l.length)) :: prefF f (l.take (split l.length)) m whole
      else root (l.take (split l.length)) :: prefF f (l.drop (split l.length)) (m - split l.length) false
def prefD (l : List (List UInt8)) (m : Nat) (whole : Bool) : List (List UInt8) := prefF (l.length + 1) l m whole
def pref (l : List (List UInt8)) (m : Nat) : List (List UInt8) := (prefD l m true).reverse
theorem prefF_eq : ∀ (f g : Nat) (l : List (List UInt8)) (m : Nat) (b : Bool), 1 ≤ m → l.length < f → l.length < g → prefF f l m b = prefF g l m b
  | 0, _, _, _, _, _, h, _ => by omega
  | _ + 1, 0, _, _, _, _, _, h => by omega
  | f + 1, g + 1, l, m, b, hm, hf, hg => by
    unfold prefF
    by_cases h1 : l.length ≤ m
    · rw [if_pos h1, if_pos h1]
    · have h2 := split_lt (n := l.length) (by omega)
      have h3 := split_pos l.length
      rw [if_neg h1, if_neg h1]
      by_cases h4 : m ≤ split l.length
      · rw [if_pos h4, if_pos h4, prefF_eq f g _ m b hm (by rw [List.length_take]; omega) (by rw [List.length_take]; omega)]
      · rw [if_neg h4, if_neg h4, prefF_eq f g _ (m - split l.length) false (by omega) (by rw [List.length_drop]; omega) (by rw [List.length_drop]; omega)]
theorem prefD_end {l : List (List UInt8)} {m : Nat} (b : Bool) (h : l.length ≤ m) : prefD l m b = if b then [] else [root l] := by unfold prefD prefF; rw [if_pos h]
theorem prefD_lo {l : List (List UInt8)} {m : Nat} (b : Bool) (hm : 1 ≤ m) (h : m < l.length) (h4 : m ≤ split l.length) : prefD l m b = root (l.drop (split l.length)) :: prefD (l.take (split l.length)) m b := by
  have h2 := split_lt (n := l.length) (by omega)
  unfold prefD
  rw [prefF, if_neg (by omega), if_pos h4, prefF_eq l.length _ _ m b hm (by rw [List.length_take]; omega) (Nat.lt_succ_self _)]
theorem prefD_hi {l : List (List UInt8)} {m : Nat} (b : Bool) (hm : 1 ≤ m) (h : m < l.length) (h4 : ¬ m ≤ split l.length) : prefD l m b = root (l.take (split l.length)) :: prefD (l.drop (split l.length)) (m - split l.length) false := by
  have h2 := split_lt (n := l.length) (by omega)
  have h3 := split_pos l.length
  unfold prefD
  rw [prefF, if_neg (by omega), if_neg h4, prefF_eq l.length _ _ (m - split l.length) false (by omega) (by rw [List.length_drop]; omega) (Nat.lt_succ_self _)]
theorem prefF_16 : ∀ (f : Nat) (l : List (List UInt8)) (m : Nat) (b : Bool), D16 (prefF f l m b)
  | 0, _, _, _ => fun d hd => by cases hd
  | f + 1, l, m, b => fun d hd => by
    unfold prefF at hd
    split at hd
    · split at hd
      · cases hd
      · rw [List.mem_singleton.1 hd]; exact root_len _
    · split at hd
      · rcases List.mem_cons.1 hd with rfl | hd
        · exact root_len _
        · exact prefF_16 f _ _ _ d hd
      · rcases List.mem_cons.1 hd with rfl | hd
        · exact root_len _
        · exact prefF_16 f _ _ _ d hd
theorem pref_16 (l : List (List UInt8)) (m : Nat) : D16 (pref l m) := fun d hd => prefF_16 _ l m true d (List.mem_reverse.1 hd)
/-- the sides of a prefix, from the top down, and whether the prefix is a part of the tree -/
def sideF : Nat → Nat → Nat → Bool → List Bool × Bool
  | 0, _, _, b => ([], b)
  | f + 1, n, m, whole => if n ≤ m then ([], whole) else
      if m ≤ split n then (false :: (sideF f (split n) m whole).1, (sideF f (split n) m whole).2)
      else (true :: (sideF f (n - split n) (m - split n) false).1, (sideF f (n - split n) (m - split n) false).2)
def sideD (n m : Nat) (whole : Bool) : List Bool × Bool := sideF (n + 1) n m whole
theorem sideF_eq : ∀ (f g n m : Nat) (b : Bool), 1 ≤ m → n < f → n < g → sideF f n m b = sideF g n m b
  | 0, _, _, _, _, _, h, _ => by omega
  | _ + 1, 0, _, _, _, _, _, h => by omega
  | f + 1, g + 1, n, m, b, hm, hf, hg => by
    unfold sideF
    by_cases h1 : n ≤ m
    · rw [if_pos h1, if_pos h1]
    · have h2 := split_lt (n := n) (by omega)
      have h3 := split_pos n
      rw [if_neg h1, if_neg h1]
      by_cases h4 : m ≤ split n
      · rw [if_pos h4, if_pos h4, sideF_eq f g _ m b hm (by omega) (by omega)]
      · rw [if_neg h4, if_neg h4, sideF_eq f g _ (m - split n) false (by omega) (by omega) (by omega)]
theorem sideD_end {n m : Nat} (b : Bool) (h : n ≤ m) : sideD n m b = ([], b) := by unfold sideD sideF; rw [if_pos h]
theorem sideD_lo {n m : Nat} (b : Bool) (hm : 1 ≤ m) (h : m < n) (h4 : m ≤ split n) : sideD n m b = (false :: (sideD (split n) m b).1, (sideD (split n) m b).2) := by
  have h2 := split_lt (n := n) (by omega)
  unfold sideD
  rw [sideF, if_neg (by omega), if_pos h4, sideF_eq n (split n + 1) _ m b hm (by omega) (Nat.lt_succ_self _)]
theorem sideD_hi {n m : Nat} (b : Bool) (hm : 1 ≤ m) (h : m < n) (h4 : ¬ m ≤ split n) : sideD n m b = (true :: (sideD (n - split n) (m - split n) false).1, (sideD (n - split n) (m - split n) false).2) := by
  have h2 := split_lt (n := n) (by omega)
  have h3 := split_pos n
  unfold sideD
  rw [sideF, if_neg (by omega), if_neg h4, sideF_eq n (n - split n + 1) _ (m - split n) false (by omega) (by omega) (Nat.lt_succ_self _)]
theorem sideF_pow : ∀ (f n m e : Nat) (b : Bool), n ≤ 2 ^ e → 1 ≤ m → (sideF f n m b).1.length ≤ e
  | 0, _, _, _, _, _, _ => by simp [sideF]
  | f + 1, n, m, e, b, h, hm => by
    unfold sideF
    by_cases h1 : n ≤ m
    · rw [if_pos h1]; simp
    · cases e with
      | zero => simp at h; omega
      | succ e =>
        have h2 := split_half (n := n) (e := e) (by omega) h
        have h3 := split_two (n := n) (by omega)
        rw [if_neg h1]
        by_cases hlt : m ≤ split n
        · rw [if_pos hlt]
          have := sideF_pow f (split n) m e b h2 hm
          simp only [List.length_cons]; omega
        · rw [if_neg hlt]
          have := sideF_pow f (n - split n) (m - split n) e false (by omega) (by omega)
          simp only [List.length_cons]; omega
theorem sideD_63 (n m : Nat) (b : Bool) (h : n ≤ 9223372036854775807) (hm : 1 ≤ m) : (sideD n m b).1.length ≤ 63 := sideF_pow (n + 1) n m 63 b (Nat.le_trans h (by decide)) hm
/-- one round of a prefix proof's check -/
def upP (xy : List UInt8 × List UInt8) (s : Bool × List UInt8) : List UInt8 × List UInt8 := if s.1 then (short (node s.2 xy.1), short (node s.2 xy.2)) else (xy.1, short (node xy.2 s.2))
def fold (x : List UInt8) (s : List Bool) (pr : List (List UInt8)) : List UInt8 × List UInt8 := (s.zip pr).foldl upP (x, x)
def foldN (x : List UInt8) (s : List Bool) (pr : List (List UInt8)) (k : Nat) : List UInt8 × List UInt8 := ((s.zip pr).take k).foldl upP (x, x)
theorem foldN_done (x : List UInt8) (s : List Bool) (pr : List (List UInt8)) (k : Nat) (h : pr.length ≤ k) : foldN x s pr k = fold x s pr := by
  unfold foldN fold
  rw [List.take_of_length_le (by rw [List.length_zip]; omega)]
theorem foldN_succ (x : List UInt8) (s : List Bool) (pr : List (List UInt8)) (k : Nat) (h1 : k < s.length) (h2 : k < pr.length) : foldN x s pr (k + 1) = upP (foldN x s pr k) (s.getD k false, pr.getD k []) := by
  unfold foldN
  rw [← List.take_append_getElem (by rw [List.length_zip]; omega), List.foldl_append, List.getElem_zip, List.getD, List.getD, List.getElem?_eq_getElem h1, List.getElem?_eq_getElem h2]
  rfl
theorem upP_16 {xy : List UInt8 × List UInt8} (s : Bool × List UInt8) (h : xy.1.length = 16 ∧ xy.2.length = 16) : (upP xy s).1.length = 16 ∧ (upP xy s).2.length = 16 := by
  unfold upP
  split
  · exact ⟨short_len _, short_len _⟩
  · exact ⟨h.1, short_len _⟩
theorem foldl_16 : ∀ (l : List (Bool × List UInt8)) (xy : List UInt8 × List UInt8), xy.1.length = 16 ∧ xy.2.length = 16 → (l.foldl upP xy).1.length = 16 ∧ (l.foldl upP xy).2.length = 16
  | [], _, h => h
  | s :: l, xy, h => foldl_16 l (upP xy s) (upP_16 s h)
theorem foldN_16 (x : List UInt8) (hx : x.length = 16) (s : List Bool) (pr : List (List UInt8)) (k : Nat) : (foldN x s pr k).1.length = 16 ∧ (foldN x s pr k).2.length = 16 := foldl_16 _ _ ⟨hx, hx⟩
def check (x old r : List UInt8) (s : List Bool) (pr : List (List UInt8)) : Bool := if pr.length = s.length then (fold x s.reverse pr).1 == old && (fold x s.reverse pr).2 == r else false
def verifyN (old r : List UInt8) (m n : Nat) (pr : List (List UInt8)) : Bool :=
  if (sideD n m true).2 then check old old r (sideD n m true).1 pr else match pr with | [] => false | x :: pr => check x old r (sideD n m true).1 pr
def verifyP (old r : List UInt8) (m n : Int) (pr : List (List UInt8)) : Bool := if 1 ≤ m ∧ m ≤ n then verifyN old r m.toNat n.toNat pr else false
end Mk
end Go.Proofs.YtfnbcchmembomaaDoor
