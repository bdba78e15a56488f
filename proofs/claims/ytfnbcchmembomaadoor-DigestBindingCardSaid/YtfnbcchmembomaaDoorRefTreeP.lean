/- The proof of an element by recursion: plain Lean. No condition. -/
import Derived.Test.YtfnbcchmembomaaDoorPrefP
import Derived.Test.YtfnbcchmembomaaDoorInputsW
namespace Go.Proofs.YtfnbcchmembomaaDoor
set_option linter.unusedVariables false
set_option linter.unusedSimpArgs false
namespace Mk
def provR : Nat → List (List UInt8) → Nat → List (List UInt8)
  | 0, _, _ => []
  | f + 1, l, i => if l.length ≤ 1 then [] else if i < split l.length then provR f (l.take (split l.length)) i ++ [root (l.drop (split l.length))]
      else provR f (l.drop (split l.length)) (i - split l.length) ++ [root (l.take (split l.length))]
theorem provR_eq : ∀ (f g : Nat) (l : List (List UInt8)) (i : Nat), l.length ≤ f → l.length ≤ g → provR f l i = provR g l i
  | 0, 0, _, _, _, _ => rfl
  | 0, g + 1, l, i, h, _ => by
    have : l.length ≤ 1 := by omega
    simp [provR, this]
  | f + 1, 0, l, i, _, h => by
    have : l.length ≤ 1 := by omega
    simp [provR, this]
  | f + 1, g + 1, l, i, hf, hg => by
    unfold provR
    by_cases h1 : l.length ≤ 1
    · rw [if_pos h1, if_pos h1]
    · have h2 := split_lt (n := l.length) (by omega)
      have h3 := split_pos l.length
      rw [if_neg h1, if_neg h1, provR_eq f g (l.take _) i (by rw [List.length_take]; omega) (by rw [List.length_take]; omega), provR_eq f g (l.drop _) (i - split l.length) (by rw [List.length_drop]; omega) (by rw [List.length_drop]; omega)]
def provL (l : List (List UInt8)) (i : Nat) : List (List UInt8) := provR l.length l i
theorem provL_one {l : List (List UInt8)} (i : Nat) (h : l.length ≤ 1) : provL l i = [] := by
  unfold provL
  match l, h with
  | [], _ => rfl
  | [x], _ => rfl
theorem provL_lo {l : List (List UInt8)} {i : Nat} (h : 2 ≤ l.length) (hi : i < split l.length) : provL l i = provL (l.take (split l.length)) i ++ [root (l.drop (split l.length))] := by
  have h2 := split_lt h
  obtain ⟨m, hm⟩ : ∃ m, l.length = m + 1 := ⟨l.length - 1, by omega⟩
  have e : provL l i = provR (m + 1) l i := by unfold provL; rw [hm]
  rw [e, provR, if_neg (by omega), if_pos hi]
  unfold provL
  rw [provR_eq m (l.take (split l.length)).length _ i (by rw [List.length_take]; omega) (Nat.le_refl _)]
theorem provL_hi {l : List (List UInt8)} {i : Nat} (h : 2 ≤ l.length) (hi : ¬ i < split l.length) : provL l i = provL (l.drop (split l.length)) (i - split l.length) ++ [root (l.take (split l.length))] := by
  have h2 := split_lt h
  have h3 := split_pos l.length
  obtain ⟨m, hm⟩ : ∃ m, l.length = m + 1 := ⟨l.length - 1, by omega⟩
  have e : provL l i = provR (m + 1) l i := by unfold provL; rw [hm]
  rw [e, provR, if_neg (by omega), if_neg hi]
  unfold provL
  rw [provR_eq m (l.drop (split l.length)).length _ (i - split l.length) (by rw [List.length_drop]; omega) (Nat.le_refl _)]
theorem prove_rec (l : List (List UInt8)) : ∀ (f at_ n i : Nat), n ≤ f → i < n → at_ + n ≤ l.length → ((stepsF f at_ n i).map (sib l)).reverse = provL ((l.drop at_).take n) i
  | 0, _, n, _, h, hi, _ => by omega
  | f + 1, at_, n, i, hf, hi, hl => by
    have hlen : ((l.drop at_).take n).length = n := by rw [List.length_take, List.length_drop]; omega
    unfold stepsF
    by_cases h1 : n ≤ 1
    · rw [if_pos h1, provL_one _ (by omega)]; rfl
    · have h2 := split_lt (n := n) (by omega)
      have h3 := split_pos n
      rw [if_neg h1]
      by_cases hlt : i < split n
      · have hr := provL_lo (l := (l.drop at_).take n) (i := i) (by omega) (by rw [hlen]; exact hlt)
        rw [hlen, cut_take l at_ n _ (by omega), cut_drop] at hr
        rw [if_pos hlt, List.map_cons, List.reverse_cons, prove_rec l f at_ (split n) i (by omega) hlt (by omega), hr]
        rfl
      · have hr := provL_hi (l := (l.drop at_).take n) (i := i) (by omega) (by rw [hlen]; exact hlt)
        rw [hlen, cut_take l at_ n _ (by omega), cut_drop] at hr
        rw [if_neg hlt, List.map_cons, List.reverse_cons, prove_rec l f (at_ + split n) (n - split n) (i - split n) (by omega) (by omega) (by omega), hr]
        rfl
theorem prove_provL (l : List (List UInt8)) (i : Nat) (hi : i < l.length) : prove l i = provL l i := by
  have := prove_rec l l.length 0 l.length i (Nat.le_refl _) hi (by omega)
  rw [List.drop_zero, List.take_length] at this
  exact this
theorem provR_16 : ∀ (f : Nat) (l : List (List UInt8)) (i : Nat), D16 (provR f l i)
  | 0, _, _ => fun d hd => by cases hd
  | f + 1, l, i => fun d hd => by
    unfold provR at hd
    split at hd
    · cases hd
    · split at hd
      · rcases List.mem_append.1 hd with hd | hd
        · exact provR_16 f _ _ d hd
        · rw [List.mem_singleton.1 hd]; exact root_len _
      · rcases List.mem_append.1 hd with hd | hd
        · exact provR_16 f _ _ d hd
        · rw [List.mem_singleton.1 hd]; exact root_len _
theorem provR_len : ∀ (f : Nat) (l : List (List UInt8)) (i : Nat), (provR f l i).length ≤ l.length
  | 0, _, _ => by simp [provR]
  | f + 1, l, i => by
    unfold provR
    by_cases h1 : l.length ≤ 1
    · rw [if_pos h1]; simp
    · have h2 := split_lt (n := l.length) (by omega)
      have h3 := split_pos l.length
      rw [if_neg h1]
      split
      · have := provR_len f (l.take (split l.length)) i
        rw [List.length_take] at this
        rw [List.length_append, List.length_singleton]; omega
      · have := provR_len f (l.drop (split l.length)) (i - split l.length)
        rw [List.length_drop] at this
        rw [List.length_append, List.length_singleton]; omega
theorem prefF_len : ∀ (f : Nat) (l : List (List UInt8)) (m : Nat) (b : Bool), 1 ≤ m → m ≤ l.length → (prefF f l m b).length ≤ l.length
  | 0, _, _, _, _, _ => by simp [prefF]
  | f + 1, l, m, b, hm, hml => by
    unfold prefF
    by_cases h1 : l.length ≤ m
    · rw [if_pos h1]
      split
      · simp
      · simp; omega
    · have h2 := split_lt (n := l.length) (by omega)
      have h3 := split_pos l.length
      rw [if_neg h1]
      by_cases h4 : m ≤ split l.length
      · rw [if_pos h4]
        have := prefF_len f (l.take (split l.length)) m b hm (by rw [List.length_take]; omega)
        rw [List.length_take] at this
        rw [List.length_cons]; omega
      · rw [if_neg h4]
        have := prefF_len f (l.drop (split l.length)) (m - split l.length) false (by omega) (by rw [List.length_drop]; omega)
        rw [List.length_drop] at this
        rw [List.length_cons]; omega
theorem prefD_len (l : List (List UInt8)) (m : Nat) (b : Bool) (hm : 1 ≤ m) (hml : m ≤ l.length) : (prefD l m b).length ≤ l.length := prefF_len _ l m b hm hml
theorem provL_len (l : List (List UInt8)) (i : Nat) : (provL l i).length ≤ l.length := provR_len _ l i
end Mk
end Go.Proofs.YtfnbcchmembomaaDoor
