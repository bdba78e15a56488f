/- The reference's check of a prefix proof: plain Lean. No condition. -/
import Derived.Test.YtfnbcchmembomaaDoorPrefAcc
namespace Go.Proofs.YtfnbcchmembomaaDoor
set_option linter.unusedVariables false
set_option linter.unusedSimpArgs false
namespace Mk
def z16 : List UInt8 := List.replicate 16 0
def pairF : Nat → List UInt8 → Nat → Nat → Bool → List (List UInt8) → (List UInt8 × List UInt8) × Bool
  | 0, _, _, _, _, _ => ((z16, z16), false)
  | f + 1, old, m, n, b, pr => if n ≤ m ∧ b = true then ((old, old), pr.isEmpty) else if pr = [] then ((z16, z16), false) else
      if n ≤ m then ((pr.getLast?.getD [], pr.getLast?.getD []), pr.dropLast.isEmpty) else
      if m ≤ split n then (((pairF f old m (split n) b pr.dropLast).1.1, short (node (pairF f old m (split n) b pr.dropLast).1.2 (pr.getLast?.getD []))), (pairF f old m (split n) b pr.dropLast).2)
      else ((short (node (pr.getLast?.getD []) (pairF f old (m - split n) (n - split n) false pr.dropLast).1.1), short (node (pr.getLast?.getD []) (pairF f old (m - split n) (n - split n) false pr.dropLast).1.2)), (pairF f old (m - split n) (n - split n) false pr.dropLast).2)
theorem snoc_cases (pr : List (List UInt8)) : pr = [] ∨ ∃ rest last, pr = rest ++ [last] := by
  rcases List.eq_nil_or_concat pr with h | ⟨a, b, h⟩
  · exact .inl h
  · exact .inr ⟨a, b, by rw [h, List.concat_eq_append]⟩
section
variable (f : Nat) (old : List UInt8) (m n : Nat) (b : Bool)
theorem pairF_whole (pr : List (List UInt8)) (h : n ≤ m) : pairF (f + 1) old m n true pr = ((old, old), pr.isEmpty) := by simp [pairF, h]
theorem pairF_nil (h : ¬ (n ≤ m ∧ b = true)) : pairF (f + 1) old m n b [] = ((z16, z16), false) := by unfold pairF; rw [if_neg h, if_pos rfl]
variable (rest : List (List UInt8)) (last : List UInt8)
theorem pairF_end (h : n ≤ m) : pairF (f + 1) old m n false (rest ++ [last]) = ((last, last), rest.isEmpty) := by
  unfold pairF
  rw [if_neg (fun h => by cases h.2), if_neg (by simp), if_pos h]
  simp
theorem pairF_lo (h : ¬ n ≤ m) (h4 : m ≤ split n) : pairF (f + 1) old m n b (rest ++ [last]) = (((pairF f old m (split n) b rest).1.1, short (node (pairF f old m (split n) b rest).1.2 last)), (pairF f old m (split n) b rest).2) := by
  rw [pairF, if_neg (fun x => h x.1), if_neg (by simp), if_neg h, if_pos h4]
  simp
theorem pairF_hi (h : ¬ n ≤ m) (h4 : ¬ m ≤ split n) : pairF (f + 1) old m n b (rest ++ [last]) = ((short (node last (pairF f old (m - split n) (n - split n) false rest).1.1), short (node last (pairF f old (m - split n) (n - split n) false rest).1.2)), (pairF f old (m - split n) (n - split n) false rest).2) := by
  rw [pairF, if_neg (fun x => h x.1), if_neg (by simp), if_neg h, if_neg h4]
  simp
end
theorem pairF_eq : ∀ (f g : Nat) (old : List UInt8) (m n : Nat) (b : Bool) (pr : List (List UInt8)), 1 ≤ m → n < f → n < g → pairF f old m n b pr = pairF g old m n b pr
  | 0, _, _, _, _, _, _, _, h, _ => by omega
  | _ + 1, 0, _, _, _, _, _, _, _, h => by omega
  | f + 1, g + 1, old, m, n, b, pr, hm, hf, hg => by
    by_cases h1 : n ≤ m
    · cases b with
      | true => rw [pairF_whole f old m n pr h1, pairF_whole g old m n pr h1]
      | false =>
        rcases snoc_cases pr with rfl | ⟨rest, last, rfl⟩
        · rw [pairF_nil f old m n false (by simp), pairF_nil g old m n false (by simp)]
        · rw [pairF_end f old m n rest last h1, pairF_end g old m n rest last h1]
    · have h2 := split_lt (n := n) (by omega)
      have h3 := split_pos n
      rcases snoc_cases pr with rfl | ⟨rest, last, rfl⟩
      · rw [pairF_nil f old m n b (fun h => h1 h.1), pairF_nil g old m n b (fun h => h1 h.1)]
      · by_cases h4 : m ≤ split n
        · rw [pairF_lo f old m n b rest last h1 h4, pairF_lo g old m n b rest last h1 h4, pairF_eq f g old m (split n) b _ hm (by omega) (by omega)]
        · rw [pairF_hi f old m n b rest last h1 h4, pairF_hi g old m n b rest last h1 h4, pairF_eq f g old (m - split n) (n - split n) false _ (by omega) (by omega) (by omega)]
theorem fold_last (x : List UInt8) (s : List Bool) (b : Bool) (rest : List (List UInt8)) (last : List UInt8) (h : rest.length = s.length) : fold x (b :: s).reverse (rest ++ [last]) = upP (fold x s.reverse rest) (b, last) := by
  unfold fold
  rw [List.reverse_cons, zip_snoc _ _ _ _ (by rw [List.length_reverse, h]), List.foldl_append]
  rfl
/-- what the pair is, by the length of the proof -/
def PairLaw (old : List UInt8) (s : List Bool) (wh : Bool) (pr : List (List UInt8)) (p : (List UInt8 × List UInt8) × Bool) : Prop :=
  if wh = true then (p.2 = true ↔ pr.length = s.length) ∧ (pr.length = s.length → p.1 = fold old s.reverse pr)
  else (p.2 = true ↔ pr.length = s.length + 1) ∧ ∀ x ps, pr = x :: ps → ps.length = s.length → p.1 = fold x s.reverse ps
theorem pair_law : ∀ (f : Nat) (old : List UInt8) (m n : Nat) (b : Bool) (pr : List (List UInt8)), n < f → 1 ≤ m → m ≤ n → PairLaw old (sideF f n m b).1 (sideF f n m b).2 pr (pairF f old m n b pr)
  | 0, _, _, _, _, _, h, _, _ => by omega
  | f + 1, old, m, n, b, pr, hf, hm, hmn => by
    by_cases h1 : n ≤ m
    · have hs : sideF (f + 1) n m b = ([], b) := by unfold sideF; rw [if_pos h1]
      rw [hs]
      cases b with
      | true =>
        rw [pairF_whole f old m n pr h1]
        unfold PairLaw
        rw [if_pos rfl]
        refine ⟨by simp [List.isEmpty_iff, List.length_eq_zero_iff], fun h => ?_⟩
        have : pr = [] := List.eq_nil_of_length_eq_zero (by simpa using h)
        subst this
        rfl
      | false =>
        unfold PairLaw
        rw [if_neg (by simp)]
        rcases snoc_cases pr with rfl | ⟨rest, last, rfl⟩
        · rw [pairF_nil f old m n false (by simp)]
          exact ⟨by simp, fun x ps h => by cases h⟩
        · rw [pairF_end f old m n rest last h1]
          refine ⟨by simp [List.isEmpty_iff, List.length_eq_zero_iff], fun x ps h hl => ?_⟩
          have hps : ps = [] := List.eq_nil_of_length_eq_zero (by simpa using hl)
          subst hps
          have hr : rest = [] := by
            have := congrArg List.length h
            simp at this
            exact this
          subst hr
          simp at h
          subst h
          simp [fold]
    · have h2 := split_lt (n := n) (by omega)
      have h3 := split_pos n
      by_cases h4 : m ≤ split n
      · have hs : sideF (f + 1) n m b = (false :: (sideF f (split n) m b).1, (sideF f (split n) m b).2) := by rw [sideF, if_neg h1, if_pos h4]
        rw [hs]
        rcases snoc_cases pr with rfl | ⟨rest, last, rfl⟩
        · rw [pairF_nil f old m n b (fun h => h1 h.1)]
          unfold PairLaw
          split
          · exact ⟨by simp, fun h => by simp at h⟩
          · exact ⟨by simp, fun x ps h => by cases h⟩
        · rw [pairF_lo f old m n b rest last h1 h4]
          have ih := pair_law f old m (split n) b rest (by omega) hm h4
          generalize sideF f (split n) m b = sw at *
          generalize pairF f old m (split n) b rest = p at *
          unfold PairLaw at ih ⊢
          by_cases hw : sw.2 = true
          · rw [if_pos hw] at ih ⊢
            refine ⟨by rw [ih.1]; simp, fun hl => ?_⟩
            have hl' : rest.length = sw.1.length := by simpa using hl
            rw [fold_last _ _ _ _ _ hl', ← ih.2 hl']
            rfl
          · rw [if_neg hw] at ih ⊢
            refine ⟨by rw [ih.1]; simp, fun x ps h hl => ?_⟩
            cases rest with
            | nil => simp at h; rw [h.2] at hl; simp at hl
            | cons y rest =>
              simp at h
              obtain ⟨rfl, rfl⟩ := h
              have hl' : rest.length = sw.1.length := by simpa using hl
              rw [fold_last _ _ _ _ _ hl', ← ih.2 _ _ rfl hl']
              rfl
      · have hs : sideF (f + 1) n m b = (true :: (sideF f (n - split n) (m - split n) false).1, (sideF f (n - split n) (m - split n) false).2) := by rw [sideF, if_neg h1, if_neg h4]
        rw [hs]
        rcases snoc_cases pr with rfl | ⟨rest, last, rfl⟩
        · rw [pairF_nil f old m n b (fun h => h1 h.1)]
          unfold PairLaw
          split
          · exact ⟨by simp, fun h => by simp at h⟩
          · exact ⟨by simp, fun x ps h => by cases h⟩
        · rw [pairF_hi f old m n b rest last h1 h4]
          have ih := pair_law f old (m - split n) (n - split n) false rest (by omega) (by omega) (by omega)
          generalize sideF f (n - split n) (m - split n) false = sw at *
          generalize pairF f old (m - split n) (n - split n) false rest = p at *
          unfold PairLaw at ih ⊢
          by_cases hw : sw.2 = true
          · rw [if_pos hw] at ih ⊢
            refine ⟨by rw [ih.1]; simp, fun hl => ?_⟩
            have hl' : rest.length = sw.1.length := by simpa using hl
            rw [fold_last _ _ _ _ _ hl', ← ih.2 hl']
            rfl
          · rw [if_neg hw] at ih ⊢
            refine ⟨by rw [ih.1]; simp, fun x ps h hl => ?_⟩
            cases rest with
            | nil => simp at h; rw [h.2] at hl; simp at hl
            | cons y rest =>
              simp at h
              obtain ⟨rfl, rfl⟩ := h
              have hl' : rest.length = sw.1.length := by simpa using hl
              rw [fold_last _ _ _ _ _ hl', ← ih.2 _ _ rfl hl']
              rfl
def pairD (old : List UInt8) (m n : Nat) (b : Bool) (pr : List (List UInt8)) := pairF (n + 1) old m n b pr
theorem pairD_lo (old : List UInt8) (m n : Nat) (b : Bool) (rest : List (List UInt8)) (last : List UInt8) (hm : 1 ≤ m) (h : ¬ n ≤ m) (h4 : m ≤ split n) : pairD old m n b (rest ++ [last]) = (((pairD old m (split n) b rest).1.1, short (node (pairD old m (split n) b rest).1.2 last)), (pairD old m (split n) b rest).2) := by
  have h2 := split_lt (n := n) (by omega)
  unfold pairD
  rw [pairF_lo n old m n b rest last h h4, pairF_eq n (split n + 1) old m (split n) b rest hm (by omega) (by omega)]
theorem pairD_hi (old : List UInt8) (m n : Nat) (b : Bool) (rest : List (List UInt8)) (last : List UInt8) (hm : 1 ≤ m) (h : ¬ n ≤ m) (h4 : ¬ m ≤ split n) : pairD old m n b (rest ++ [last]) = ((short (node last (pairD old (m - split n) (n - split n) false rest).1.1), short (node last (pairD old (m - split n) (n - split n) false rest).1.2)), (pairD old (m - split n) (n - split n) false rest).2) := by
  have h2 := split_lt (n := n) (by omega)
  have h3 := split_pos n
  unfold pairD
  rw [pairF_hi n old m n b rest last h h4, pairF_eq n (n - split n + 1) old (m - split n) (n - split n) false rest (by omega) (by omega) (by omega)]
theorem pairF_16 : ∀ (f : Nat) (old : List UInt8) (m n : Nat) (b : Bool) (pr : List (List UInt8)), old.length = 16 → D16 pr → (pairF f old m n b pr).1.1.length = 16 ∧ (pairF f old m n b pr).1.2.length = 16
  | 0, _, _, _, _, _, _, _ => ⟨rfl, rfl⟩
  | f + 1, old, m, n, b, pr, ho, hd => by
    by_cases hw : n ≤ m ∧ b = true
    · obtain ⟨h1, rfl⟩ := hw
      rw [pairF_whole f old m n pr h1]; exact ⟨ho, ho⟩
    · rcases snoc_cases pr with rfl | ⟨rest, last, rfl⟩
      · rw [pairF_nil f old m n b hw]; exact ⟨rfl, rfl⟩
      · have hl : last.length = 16 := hd last (by simp)
        by_cases h1 : n ≤ m
        · have hb : b = false := by
            cases b with
            | true => exact absurd ⟨h1, rfl⟩ hw
            | false => rfl
          subst hb
          rw [pairF_end f old m n rest last h1]; exact ⟨hl, hl⟩
        · by_cases h4 : m ≤ split n
          · rw [pairF_lo f old m n b rest last h1 h4]
            exact ⟨(pairF_16 f old m (split n) b rest ho (fun d h => hd d (by simp [h]))).1, short_len _⟩
          · rw [pairF_hi f old m n b rest last h1 h4]
            exact ⟨short_len _, short_len _⟩
theorem pairD_16 (old : List UInt8) (m n : Nat) (b : Bool) (pr : List (List UInt8)) (ho : old.length = 16) (hd : D16 pr) : (pairD old m n b pr).1.1.length = 16 ∧ (pairD old m n b pr).1.2.length = 16 := pairF_16 (n + 1) old m n b pr ho hd
/-- THE LAW: the program's check is the reference's -/
theorem verifyN_pair (old r : List UInt8) (m n : Nat) (pr : List (List UInt8)) (hm : 1 ≤ m) (hmn : m ≤ n) : verifyN old r m n pr = ((pairD old m n true pr).2 && (pairD old m n true pr).1.1 == old && (pairD old m n true pr).1.2 == r) := by
  have h := pair_law (n + 1) old m n true pr (by omega) hm hmn
  unfold verifyN pairD
  rw [show sideD n m true = sideF (n + 1) n m true from rfl]
  generalize sideF (n + 1) n m true = sw at *
  generalize pairF (n + 1) old m n true pr = p at *
  unfold PairLaw at h
  by_cases hw : sw.2 = true
  · rw [if_pos hw] at h ⊢
    unfold check
    by_cases hl : pr.length = sw.1.length
    · rw [if_pos hl, h.1.2 hl, h.2 hl]; simp
    · rw [if_neg hl]
      cases hp : p.2 with
      | false => simp
      | true => exact absurd (h.1.1 hp) hl
  · rw [if_neg hw] at h ⊢
    cases pr with
    | nil =>
      cases hp : p.2 with
      | false => simp
      | true => have := h.1.1 hp; simp at this
    | cons x ps =>
      show check x old r sw.1 ps = _
      unfold check
      by_cases hl : ps.length = sw.1.length
      · rw [if_pos hl, h.1.2 (by simp [hl]), h.2 x ps rfl hl]; simp
      · rw [if_neg hl]
        cases hp : p.2 with
        | false => simp
        | true => exact absurd (by have := h.1.1 hp; simpa using this) hl
end Mk
end Go.Proofs.YtfnbcchmembomaaDoor
