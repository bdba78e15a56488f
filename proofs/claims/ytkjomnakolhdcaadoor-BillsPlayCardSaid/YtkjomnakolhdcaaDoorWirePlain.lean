/- The plain mathematics of layer 1 (wire): encodings and decodings as functions on lists of bytes, and the laws between them. No program in sight, no condition. -/
namespace Go.Proofs.YtkjomnakolhdcaaDoor
set_option linter.unusedVariables false
set_option linter.unusedSimpArgs false
namespace Wire

/-- number of base-256 digits, at most f -/
def nb : Nat → Nat → Nat
  | 0, _ => 0
  | f + 1, m => if m = 0 then 0 else nb f (m / 256) + 1
/-- the k lowest base-256 digits, the highest first -/
def bd (m : Nat) : Nat → List UInt8
  | 0 => []
  | k + 1 => UInt8.ofNat (m / 256 ^ k) :: bd m k
/-- the value of big-endian digits, m ahead of them -/
def val (m : Nat) (l : List UInt8) : Nat := l.foldl (fun m d => m * 256 + d.toNat) m
def mag (n : Int) : Nat := if 0 ≤ n then n.toNat else (-1 - n).toNat
def flp (neg : Bool) (x : UInt8) : UInt8 := if neg then 255 - x else x
def enc (n : Int) : List UInt8 := flp (decide (n < 0)) (UInt8.ofNat (128 + nb 8 (mag n))) :: (bd (mag n) (nb 8 (mag n))).map (flp (decide (n < 0)))

/-- result of a decoding: value, bytes used, error -/
def dec : List UInt8 → Int × Nat × Int
  | [] => (0, 0, 5)
  | h :: t =>
    let neg := decide (h < 128)
    let k := (flp neg h).toNat - 128
    if 8 < k then (0, 0, 6) else if t.length < k then (0, 0, 5)
    else
      let ds := (t.take k).map (flp neg)
      if ds.head? = some 0 then (0, 0, 6)
      else if 9223372036854775808 ≤ val 0 ds then (0, 0, 6)
      else (if neg then -1 - (val 0 ds : Int) else (val 0 ds : Int), k + 1, 0)

theorem nb_le (f m : Nat) : nb f m ≤ f := by
  induction f generalizing m with
  | zero => simp [nb]
  | succ f ih => unfold nb; split; omega; have := ih (m / 256); omega
theorem nb_lt (f m : Nat) (h : m < 256 ^ f) : m < 256 ^ nb f m := by
  induction f generalizing m with
  | zero => simpa [nb] using h
  | succ f ih =>
    unfold nb
    split
    · next h0 => simp [h0]
    · have h1 : m / 256 < 256 ^ f := by rw [Nat.div_lt_iff_lt_mul (by omega)]; rwa [Nat.pow_succ] at h
      have := ih _ h1
      rw [Nat.div_lt_iff_lt_mul (by omega)] at this
      rwa [Nat.pow_succ]
theorem nb_ge (f m : Nat) (h0 : m ≠ 0) (hf : f ≠ 0) : 256 ^ (nb f m - 1) ≤ m := by
  induction f generalizing m with
  | zero => exact absurd rfl hf
  | succ f ih =>
    unfold nb
    rw [if_neg h0, Nat.add_sub_cancel]
    by_cases h1 : m / 256 = 0
    · have : nb f (m / 256) = 0 := by cases f <;> simp [nb, h1]
      rw [this]; simp; omega
    · by_cases hf1 : f = 0
      · subst hf1; simp [nb]; omega
      · have := ih _ h1 hf1
        have hp : nb f (m / 256) ≠ 0 := by
          cases f with
          | zero => exact absurd rfl hf1
          | succ f => unfold nb; rw [if_neg h1]; omega
        obtain ⟨j, hj⟩ := Nat.exists_eq_succ_of_ne_zero hp
        rw [hj] at this ⊢
        simp only [Nat.succ_eq_add_one, Nat.add_sub_cancel] at this ⊢
        rw [Nat.pow_succ]
        rw [Nat.le_div_iff_mul_le (by omega)] at this
        exact this
theorem nb_zero (f : Nat) : nb f 0 = 0 := by cases f <;> simp [nb]
/-- nb is the one k with 256^(k-1) ≤ m < 256^k -/
theorem nb_eq {f m k : Nat} (hk : k ≤ f) (h1 : m < 256 ^ k) (h2 : k = 0 ∨ 256 ^ (k - 1) ≤ m) : nb f m = k := by
  have hf : m < 256 ^ f := Nat.lt_of_lt_of_le h1 (Nat.pow_le_pow_right (by omega) hk)
  have a := nb_lt f m hf
  by_cases h0 : m = 0
  · subst h0
    rw [nb_zero]
    rcases h2 with h2 | h2
    · exact h2.symm
    · exact absurd h2 (by have : 0 < 256 ^ (k - 1) := Nat.pow_pos (by omega); omega)
  · have hf0 : f ≠ 0 := by
      intro e; subst e; obtain rfl : k = 0 := by omega
      simp at h1; omega
    have b := nb_ge f m h0 hf0
    have hk0 : k ≠ 0 := by intro e; subst e; simp at h1; omega
    have h2' : 256 ^ (k - 1) ≤ m := h2.resolve_left hk0
    have c1 : k - 1 < nb f m := (Nat.pow_lt_pow_iff_right (a := 256) (by omega)).1 (Nat.lt_of_le_of_lt h2' a)
    have c2 : nb f m - 1 < k := (Nat.pow_lt_pow_iff_right (a := 256) (by omega)).1 (Nat.lt_of_le_of_lt b h1)
    omega

theorem bd_length (m k : Nat) : (bd m k).length = k := by induction k with
  | zero => rfl
  | succ k ih => simp [bd, ih]
theorem toNat_lt (x : UInt8) : x.toNat < 256 := x.toNat_lt
theorem toNat_ofNat (m : Nat) : (UInt8.ofNat m).toNat = m % 256 := by simp

theorem of_mag (n : Int) : (if decide (n < 0) then -1 - (mag n : Int) else (mag n : Int)) = n := by
  unfold mag; by_cases h : n < 0
  · rw [if_pos (by simpa using h), if_neg (by omega)]; omega
  · rw [if_neg (by simpa using h), if_pos (by omega)]; omega
theorem enc_length (n : Int) : (enc n).length = nb 8 (mag n) + 1 := by simp [enc, bd_length]
theorem enc_length_le (n : Int) : (enc n).length ≤ 9 := by rw [enc_length]; have := nb_le 8 (mag n); omega
end Wire
end Go.Proofs.YtkjomnakolhdcaaDoor
