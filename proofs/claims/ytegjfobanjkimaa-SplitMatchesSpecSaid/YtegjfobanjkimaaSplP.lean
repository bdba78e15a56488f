/- Shares by the largest remainder, as plain data: an order of the indices, the first ones get one more. No program in sight. -/
import Derived.Test.YtegjfobanjkimaaSortP
namespace Go.Proofs.Ytegjfobanjkimaa
set_option linter.unusedVariables false
set_option linter.unusedSimpArgs false
namespace Spl
open So
/-! Injective maps of the first n numbers -/
theorem surj : ∀ (n : Nat) (p : Nat → Nat), (∀ t, t < n → p t < n) → (∀ s t, s < n → t < n → p s = p t → s = t) → ∀ y, y < n → ∃ t, t < n ∧ p t = y := by
  intro n
  induction n with
  | zero => intro p _ _ y hy; omega
  | succ n ih =>
    intro p hp hi y hy
    by_cases hn : ∃ t, t < n ∧ p t = n
    · obtain ⟨t0, ht0, h0⟩ := hn
      have hv : p n < n := by
        have h1 := hp n (by omega)
        have h2 : p n ≠ n := fun e => by have := hi t0 n (by omega) (by omega) (by omega); omega
        omega
      have h := ih (fun t => if t = t0 then p n else p t) (fun t ht => by
        show (if t = t0 then p n else p t) < n
        split
        · exact hv
        · rename_i hne
          have h1 := hp t (by omega)
          have h2 : p t ≠ n := fun e => hne (hi t t0 (by omega) (by omega) (by omega))
          omega) (fun s t hs ht e => by
        try simp only [] at e
        split at e <;> split at e
        · omega
        · have := hi n t (by omega) (by omega) e; omega
        · have := hi s n (by omega) (by omega) e; omega
        · exact hi s t (by omega) (by omega) e)
      by_cases hyn : y = n
      · exact ⟨t0, by omega, by omega⟩
      · obtain ⟨t, ht, e⟩ := h y (by omega)
        try simp only [] at e
        split at e
        · exact ⟨n, by omega, e⟩
        · exact ⟨t, by omega, e⟩
    · have h := ih p (fun t ht => by
        have h1 := hp t (by omega)
        have h2 : p t ≠ n := fun e => hn ⟨t, ht, e⟩
        omega) (fun s t hs ht e => hi s t (by omega) (by omega) e)
      have hpn : p n = n := by
        have h1 := hp n (by omega)
        rcases Nat.lt_or_ge (p n) n with h2 | h2
        · obtain ⟨t, ht, e⟩ := h (p n) h2
          have := hi t n (by omega) (by omega) e; omega
        · omega
      by_cases hyn : y = n
      · exact ⟨n, by omega, by omega⟩
      · obtain ⟨t, ht, e⟩ := h y (by omega)
        exact ⟨t, by omega, e⟩
/-- the sum of the first n -/
def sumTo (f : Nat → Int) : Nat → Int
  | 0 => 0
  | n + 1 => sumTo f n + f n
theorem sumTo_congr {f g : Nat → Int} {n : Nat} (h : ∀ t, t < n → f t = g t) : sumTo f n = sumTo g n := by
  induction n with
  | zero => rfl
  | succ n ih => unfold sumTo; rw [ih fun t ht => h t (by omega), h n (by omega)]
theorem sumTo_upd (f : Nat → Int) {n k : Nat} (hk : k < n) (v : Int) : sumTo (fun t => if t = k then v else f t) n = sumTo f n - f k + v := by
  induction n with
  | zero => omega
  | succ n ih =>
    unfold sumTo
    by_cases e : k = n
    · subst e
      rw [if_pos rfl, sumTo_congr (g := f) (fun t ht => by simp [show t ≠ k by omega])]
      omega
    · rw [ih (by omega), if_neg (by omega)]; omega
theorem sumTo_perm : ∀ (n : Nat) (p : Nat → Nat) (f : Nat → Int), (∀ t, t < n → p t < n) → (∀ s t, s < n → t < n → p s = p t → s = t) → sumTo (fun t => f (p t)) n = sumTo f n := by
  intro n
  induction n with
  | zero => intros; rfl
  | succ n ih =>
    intro p f hp hi
    obtain ⟨t0, ht0, h0⟩ := surj (n + 1) p hp hi n (by omega)
    by_cases e : t0 = n
    · subst e
      have h := ih p f (fun t ht => by
        have h1 := hp t (by omega)
        have h2 : p t ≠ t0 := fun e => by have := hi t t0 (by omega) (by omega) (by omega); omega
        omega) (fun s t hs ht e => hi s t (by omega) (by omega) e)
      unfold sumTo
      rw [h, h0]
    · have hv : p n < n := by
        have h1 := hp n (by omega)
        have h2 : p n ≠ n := fun e' => e (hi t0 n (by omega) (by omega) (by omega))
        omega
      have h := ih (fun t => if t = t0 then p n else p t) f (fun t ht => by
        show (if t = t0 then p n else p t) < n
        split
        · exact hv
        · rename_i hne
          have h1 := hp t (by omega)
          have h2 : p t ≠ n := fun e => hne (hi t t0 (by omega) (by omega) (by omega))
          omega) (fun s t hs ht e => by
        try simp only [] at e
        split at e <;> split at e
        · omega
        · have := hi n t (by omega) (by omega) e; omega
        · have := hi s n (by omega) (by omega) e; omega
        · exact hi s t (by omega) (by omega) e)
      have h1 : sumTo (fun t => f (if t = t0 then p n else p t)) n = sumTo (fun t => f (p t)) n - f (p t0) + f (p n) := by
        rw [← sumTo_upd (fun t => f (p t)) (show t0 < n by omega) (f (p n))]
        exact sumTo_congr fun t _ => by split <;> rfl
      unfold sumTo
      show sumTo (fun t => f (p t)) n + f (p n) = sumTo f n + f n
      have h2 : sumTo (fun t => f (if t = t0 then p n else p t)) n = sumTo f n := h
      rw [h1, h0] at h2
      omega

/-! The order -/
variable {key : Nat → Int} {n : Nat} {p : Nat → Nat}
/-- i goes before k -/
def Bef (key : Nat → Int) (i k : Nat) : Prop := key k < key i ∨ key i = key k ∧ i < k
theorem bef_asym {i k : Nat} (h : Bef key i k) (h' : Bef key k i) : False := by unfold Bef at *; omega
theorem bef_total {i k : Nat} (h : i ≠ k) : Bef key i k ∨ Bef key k i := by unfold Bef; omega
/-- p lists the first n numbers in this order -/
structure Ordr (key : Nat → Int) (n : Nat) (p : Nat → Nat) : Prop where
  lt : ∀ t, t < n → p t < n
  inj : ∀ s t, s < n → t < n → p s = p t → s = t
  srt : ∀ s t, s < t → t < n → Bef key (p s) (p t)
/-- one of the first k -/
def Fst (p : Nat → Nat) (k i : Nat) : Prop := ∃ t, t < k ∧ p t = i
instance (p : Nat → Nat) (k i : Nat) : Decidable (Fst p k i) := inferInstanceAs (Decidable (∃ t, t < k ∧ p t = i))
theorem fst_down (O : Ordr key n p) {k i j : Nat} (hk : k ≤ n) (hi : i < n) (hb : Bef key i j) (hj : Fst p k j) : Fst p k i := by
  obtain ⟨t, ht, rfl⟩ := hj
  obtain ⟨s, hs, rfl⟩ := surj n p O.lt O.inj i hi
  rcases Nat.lt_trichotomy s t with h | h | h
  · exact ⟨s, by omega, rfl⟩
  · subst h; exact ⟨s, ht, rfl⟩
  · exact (bef_asym hb (O.srt t s h hs)).elim
theorem fst_succ (p : Nat → Nat) (k i : Nat) : Fst p (k + 1) i ↔ Fst p k i ∨ p k = i := by
  constructor
  · intro ⟨t, ht, e⟩
    by_cases h : t = k
    · subst h; exact Or.inr e
    · exact Or.inl ⟨t, by omega, e⟩
  · rintro (⟨t, ht, e⟩ | e)
    · exact ⟨t, by omega, e⟩
    · exact ⟨k, by omega, e⟩
theorem fst_new (O : Ordr key n p) {k : Nat} (hk : k < n) : ¬ Fst p k (p k) := fun ⟨t, ht, e⟩ => by have := O.inj t k (by omega) hk e; omega
/-- the list with one more at each of the first k -/
def bump (p : Nat → Nat) (l : List Int) : Nat → List Int
  | 0 => l
  | k + 1 => (bump p l k).set (p k) ((bump p l k).getD (p k) 0 + 1)
theorem bump_len (p : Nat → Nat) (l : List Int) (k : Nat) : (bump p l k).length = l.length := by
  induction k with
  | zero => rfl
  | succ k ih => unfold bump; rw [List.length_set]; exact ih
theorem bump_get (O : Ordr key n p) (l : List Int) {k : Nat} (hl : l.length = n) (hk : k ≤ n) (i : Nat) : (bump p l k).getD i 0 = l.getD i 0 + if Fst p k i then 1 else 0 := by
  induction k with
  | zero => rw [if_neg (by rintro ⟨t, ht, _⟩; omega)]; simp [bump]
  | succ k ih =>
    have ih := ih (by omega)
    have hb := bump_len p l k
    unfold bump
    by_cases e : p k = i
    · subst e
      rw [if_pos ((fst_succ _ _ _).2 (Or.inr rfl))]
      have hlt : p k < (bump p l k).length := by rw [hb, hl]; exact O.lt k (by omega)
      have hn := fst_new O (show k < n by omega)
      rw [if_neg hn] at ih
      simp only [List.getD, List.getElem?_set_self hlt, Option.getD_some] at *
      omega
    · have h2 : Fst p (k + 1) i ↔ Fst p k i := by rw [fst_succ]; simp [e]
      have h3 : ((bump p l k).set (p k) ((bump p l k).getD (p k) 0 + 1)).getD i 0 = (bump p l k).getD i 0 := by
        simp only [List.getD, List.getElem?_set_ne e]
      rw [h3, ih]
      by_cases hf : Fst p k i
      · rw [if_pos hf, if_pos (h2.2 hf)]
      · rw [if_neg hf, if_neg (fun h => hf (h2.1 h))]
theorem sum_set' {l : List Int} {i : Nat} (h : i < l.length) (v : Int) : (l.set i v).sum = l.sum - l.getD i 0 + v := by
  induction l generalizing i with
  | nil => simp at h
  | cons a l ih =>
    cases i with
    | zero => simp [List.getD]; omega
    | succ i =>
      have := ih (i := i) (by simpa using h)
      simp only [List.set_cons_succ, List.sum_cons, this]
      simp [List.getD]; omega
theorem bump_sum (l : List Int) {k : Nat} (hlt : ∀ t, t < k → p t < l.length) : (bump p l k).sum = l.sum + k := by
  induction k with
  | zero => simp [bump]
  | succ k ih =>
    unfold bump
    rw [sum_set' (by rw [bump_len]; exact hlt k (by omega)), ih fun t ht => hlt t (by omega)]
    omega

/-! The shares -/
/-- what is left when each has its whole part -/
theorem left_mul (T W : Int) (w : Nat → Int) (n : Nat) (hW : sumTo w n = W) : (T - sumTo (fun t => T * w t / W) n) * W = sumTo (fun t => T * w t % W) n := by
  have h : ∀ k, T * sumTo w k = sumTo (fun t => T * w t / W) k * W + sumTo (fun t => T * w t % W) k := by
    intro k
    induction k with
    | zero => simp [sumTo]
    | succ k ih =>
      unfold sumTo
      rw [Int.mul_add, ih, Int.add_mul]
      have := Int.mul_ediv_add_emod (T * w k) W
      rw [Int.mul_comm] at this
      omega
  have := h n
  rw [hW] at this
  rw [Int.sub_mul]; omega
theorem sum_bound {f : Nat → Int} {n : Nat} {b : Int} (h : ∀ t, t < n → 0 ≤ f t ∧ f t ≤ b) : 0 ≤ sumTo f n ∧ sumTo f n ≤ n * b := by
  induction n with
  | zero => simp [sumTo]
  | succ n ih =>
    have h1 := ih fun t ht => h t (by omega)
    have h2 := h n (by omega)
    unfold sumTo
    have : ((n + 1 : Nat) : Int) * b = n * b + b := by rw [Int.natCast_add, Int.add_mul]; simp
    omega
theorem left_range {T W : Int} {w : Nat → Int} {n : Nat} (hW : sumTo w n = W) (h0 : 0 < W) (hn : 0 < n) : 0 ≤ T - sumTo (fun t => T * w t / W) n ∧ T - sumTo (fun t => T * w t / W) n < n := by
  have h := left_mul T W w n hW
  have hb := sum_bound (f := fun t => T * w t % W) (n := n) (b := W - 1) fun t _ => ⟨Int.emod_nonneg _ (by omega), by have := Int.emod_lt_of_pos (T * w t) h0; omega⟩
  generalize T - sumTo (fun t => T * w t / W) n = q at *
  rw [← h] at hb
  constructor
  · rcases Int.lt_or_le q 0 with h1 | h1
    · have : q * W ≤ (-1) * W := Int.mul_le_mul_of_nonneg_right (by omega) (by omega)
      omega
    · exact h1
  · rcases Int.lt_or_le q n with h1 | h1
    · exact h1
    · have h2 : (n : Int) * W ≤ q * W := Int.mul_le_mul_of_nonneg_right h1 (by omega)
      have h3 : (n : Int) * (W - 1) = n * W - n := by rw [Int.mul_sub]; simp
      omega
/-- the first ones have something left over -/
theorem fst_pos {T W : Int} {w : Nat → Int} {n : Nat} (hW : sumTo w n = W) (h0 : 0 < W) (O : Ordr (fun t => T * w t % W) n p) {k i : Nat} (hk : (k : Int) = T - sumTo (fun t => T * w t / W) n) (hkn : k ≤ n) (hf : Fst p k i) : 0 < T * w i % W := by
  obtain ⟨t, ht, rfl⟩ := hf
  have hnn : ∀ x, 0 ≤ T * w x % W := fun x => Int.emod_nonneg _ (by omega)
  rcases Int.lt_or_le 0 (T * w (p t) % W) with h1 | h1
  · exact h1
  · exfalso
    have hz : ∀ s, t ≤ s → s < n → T * w (p s) % W = 0 := by
      intro s hs hsn
      have := hnn (p s)
      have := hnn (p t)
      rcases Nat.lt_or_ge t s with h2 | h2
      · have := O.srt t s h2 hsn
        unfold Bef at this
        simp only [] at this
        omega
      · obtain rfl : s = t := by omega
        omega
    have h2 := left_mul T W w n hW
    rw [← hk, ← sumTo_perm n p (fun t => T * w t % W) O.lt O.inj] at h2
    have h3 : ∀ m, m ≤ n → t ≤ m → sumTo (fun s => T * w (p s) % W) m = sumTo (fun s => T * w (p s) % W) t := by
      intro m
      induction m with
      | zero => intro _ h; obtain rfl : t = 0 := by omega
                rfl
      | succ m ih =>
        intro hm htm
        rcases Nat.lt_or_ge t (m + 1) with h4 | h4
        · show sumTo (fun s => T * w (p s) % W) m + T * w (p m) % W = _
          rw [ih (by omega) (by omega), hz m (by omega) (by omega)]; omega
        · obtain rfl : t = m + 1 := by omega
          rfl
    rw [h3 n (Nat.le_refl _) (by omega)] at h2
    have hb := sum_bound (f := fun s => T * w (p s) % W) (n := t) (b := W - 1) fun s _ => ⟨hnn _, by have := Int.emod_lt_of_pos (T * w (p s)) h0; omega⟩
    rw [← h2] at hb
    have h5 : ((t : Int) + 1) * W ≤ k * W := Int.mul_le_mul_of_nonneg_right (by omega) (by omega)
    have h6 : (t : Int) * (W - 1) = t * W - t := by rw [Int.mul_sub]; simp
    have h7 : ((t : Int) + 1) * W = t * W + W := by rw [Int.add_mul]; simp
    omega
/-- P33.4: a share differs from the exact proportion by less than one -/
theorem near {T W : Int} {w : Nat → Int} {n : Nat} (hW : sumTo w n = W) (h0 : 0 < W) (O : Ordr (fun t => T * w t % W) n p) {k i : Nat} (hk : (k : Int) = T - sumTo (fun t => T * w t / W) n) (hkn : k ≤ n) :
    -W < (T * w i / W + if Fst p k i then 1 else 0) * W - T * w i ∧ (T * w i / W + if Fst p k i then 1 else 0) * W - T * w i < W := by
  have h1 := Int.mul_ediv_add_emod (T * w i) W
  rw [Int.mul_comm] at h1
  have h2 := Int.emod_lt_of_pos (T * w i) h0
  have h3 := Int.emod_nonneg (T * w i) (show W ≠ 0 by omega)
  rw [Int.add_mul]
  by_cases hf : Fst p k i
  · have h4 := fst_pos hW h0 O hk hkn hf
    rw [if_pos hf]; omega
  · rw [if_neg hf]; omega
/-- P33.5: a greater weight never gets a smaller share -/
theorem mono {T W : Int} {w : Nat → Int} {n : Nat} (h0 : 0 < W) (hT : 0 ≤ T) (hW : sumTo w n = W) (O : Ordr (fun t => T * w t % W) n p) {k i j : Nat} (hk : (k : Int) = T - sumTo (fun t => T * w t / W) n) (hkn : k ≤ n) (hi : i < n) (hij : w j < w i) :
    (T * w j / W + if Fst p k j then 1 else 0) ≤ (T * w i / W + if Fst p k i then 1 else 0) := by
  have hle : T * w j ≤ T * w i := Int.mul_le_mul_of_nonneg_left (by omega) hT
  have hd := Int.ediv_le_ediv h0 hle
  rcases Int.lt_or_le (T * w j / W) (T * w i / W) with h | h
  · split <;> split <;> omega
  · have he : T * w j / W = T * w i / W := by omega
    by_cases hf : Fst p k j
    · have hp := fst_pos hW h0 O hk hkn hf
      have hT' : 0 < T := by
        rcases Int.lt_or_le 0 T with h1 | h1
        · exact h1
        · have : T = 0 := by omega
          subst this
          simp at hp
      have hlt : T * w j < T * w i := Int.mul_lt_mul_of_pos_left hij hT'
      have h1 := Int.mul_ediv_add_emod (T * w i) W
      have h2 := Int.mul_ediv_add_emod (T * w j) W
      rw [he] at h2
      have hb : Bef (fun t => T * w t % W) i j := Or.inl (by show T * w j % W < T * w i % W; omega)
      rw [if_pos hf, if_pos (fst_down O hkn hi hb hf)]; omega
    · rw [if_neg hf]; split <;> omega
/-- P33.5: of two equal weights the first gets as much, or one more -/
theorem alike {T W : Int} {w : Nat → Int} {n : Nat} (O : Ordr (fun t => T * w t % W) n p) {k i j : Nat} (hkn : k ≤ n) (hi : i < n) (hij : w i = w j) (hlt : i < j) :
    (T * w i / W + if Fst p k i then 1 else 0) = (T * w j / W + if Fst p k j then 1 else 0) ∨ (T * w i / W + if Fst p k i then 1 else 0) = (T * w j / W + if Fst p k j then 1 else 0) + 1 := by
  rw [hij]
  by_cases hf : Fst p k j
  · rw [if_pos hf, if_pos (fst_down O hkn hi (Or.inr ⟨by simp only []; rw [hij], hlt⟩) hf)]; exact Or.inl rfl
  · rw [if_neg hf]; split <;> omega
/-- equal keys: the order is that of the indices -/
theorem ordr_id (O : Ordr key n p) (he : ∀ i j, i < n → j < n → key i = key j) : ∀ t, t < n → p t = t := by
  have hs : ∀ s t, s < t → t < n → p s < p t := fun s t h1 h2 => by
    have h3 := O.srt s t h1 h2
    have h4 := he (p s) (p t) (O.lt s (by omega)) (O.lt t h2)
    unfold Bef at h3; omega
  have h1 : ∀ t, t < n → t ≤ p t := by
    intro t
    induction t with
    | zero => intro _; omega
    | succ t ih => intro h; have := ih (by omega); have := hs t (t + 1) (by omega) h; omega
  have h2 : ∀ d t, t + d + 1 = n → p t ≤ t := by
    intro d
    induction d with
    | zero => intro t h; have := O.lt t (by omega); omega
    | succ d ih => intro t h; have := ih (t + 1) (by omega); have := hs t (t + 1) (by omega) (by omega); omega
  intro t ht
  have := h1 t ht
  have := h2 (n - t - 1) t (by omega)
  omega
/-- the best of those that were not taken yet -/
theorem next_is (O : Ordr key n p) {k b : Nat} (hk : k < n) (hb : b < n) (hnf : ¬ Fst p k b) (hbest : ∀ i, i < n → ¬ Fst p k i → i ≠ b → Bef key b i) : b = p k := by
  by_cases h : p k = b
  · exact h.symm
  · have h1 := hbest (p k) (O.lt k hk) (fst_new O hk) h
    obtain ⟨s, hs, rfl⟩ := surj n p O.lt O.inj b hb
    have hsk : k < s := by
      rcases Nat.lt_trichotomy s k with h2 | h2 | h2
      · exact (hnf ⟨s, h2, rfl⟩).elim
      · subst h2; exact (h rfl).elim
      · exact h2
    exact (bef_asym h1 (O.srt k s hsk hs)).elim
end Spl
end Go.Proofs.Ytegjfobanjkimaa
