/- The plain mathematics of layer 1 (wire): encodings and decodings as functions on lists of bytes, and the laws between them. No program in sight, no condition. -/
namespace Go.Proofs.Ytcicfneekmbamaa
set_option linter.unusedVariables false
set_option linter.unusedSimpArgs false
namespace Wire

/-- number of base-256 digits, at most f -/
def nb : Nat → Nat → Nat
  | 0, _ => 0
  | f + 1, m => if m = 0 then 0 else nb f (m / 256) + 1
/-- the k lowest base-256 digits, the highest first -/
def bd (m : Nat) : Nat → List UInt8
  | 0 => []
  | k + 1 => UInt8.ofNat (m / 256 ^ k) :: bd m k
/-- the value of big-endian digits, m ahead of them -/
def val (m : Nat) (l : List UInt8) : Nat := l.foldl (fun m d => m * 256 + d.toNat) m
def mag (n : Int) : Nat := if 0 ≤ n then n.toNat else (-1 - n).toNat
def flp (neg : Bool) (x : UInt8) : UInt8 := if neg then 255 - x else x
def enc (n : Int) : List UInt8 := flp (decide (n < 0)) (UInt8.ofNat (128 + nb 8 (mag n))) :: (bd (mag n) (nb 8 (mag n))).map (flp (decide (n < 0)))

/-- result of a decoding: value, bytes used, error -/
def dec : List UInt8 → Int × Nat × Int
  | [] => (0, 0, 5)
  | h :: t =>
    let neg := decide (h < 128)
    let k := (flp neg h).toNat - 128
    if 8 < k then (0, 0, 6) else if t.length < k then (0, 0, 5)
    else
      let ds := (t.take k).map (flp neg)
      if ds.head? = some 0 then (0, 0, 6)
      else if 9223372036854775808 ≤ val 0 ds then (0, 0, 6)
      else (if neg then -1 - (val 0 ds : Int) else (val 0 ds : Int), k + 1, 0)

theorem nb_le (f m : Nat) : nb f m ≤ f := by
  induction f generalizing m with
  | zero => simp [nb]
  | succ f ih => unfold nb; split; omega; have := ih (m / 256); omega
theorem nb_lt (f m : Nat) (h : m < 256 ^ f) : m < 256 ^ nb f m := by
  induction f generalizing m with
  | zero => simpa [nb] using h
  | succ f ih =>
    unfold nb
    split
    · next h0 => simp [h0]
    · have h1 : m / 256 < 256 ^ f := by rw [Nat.div_lt_iff_lt_mul (by omega)]; rwa [Nat.pow_succ] at h
      have := ih _ h1
      rw [Nat.div_lt_iff_lt_mul (by omega)] at this
      rwa [Nat.pow_succ]
theorem nb_ge (f m : Nat) (h0 : m ≠ 0) (hf : f ≠ 0) : 256 ^ (nb f m - 1) ≤ m := by
  induction f generalizing m with
  | zero => exact absurd rfl hf
  | succ f ih =>
    unfold nb
    rw [if_neg h0, Nat.add_sub_cancel]
    by_cases h1 : m / 256 = 0
    · have : nb f (m / 256) = 0 := by cases f <;> simp [nb, h1]
      rw [this]; simp; omega
    · by_cases hf1 : f = 0
      · subst hf1; simp [nb]; omega
      · have := ih _ h1 hf1
        have hp : nb f (m / 256) ≠ 0 := by
          cases f with
          | zero => exact absurd rfl hf1
          | succ f => unfold nb; rw [if_neg h1]; omega
        obtain ⟨j, hj⟩ := Nat.exists_eq_succ_of_ne_zero hp
        rw [hj] at this ⊢
        simp only [Nat.succ_eq_add_one, Nat.add_sub_cancel] at this ⊢
        rw [Nat.pow_succ]
        rw [Nat.le_div_iff_mul_le (by omega)] at this
        exact this
theorem nb_zero (f : Nat) : nb f 0 = 0 := by cases f <;> simp [nb]
/-- nb is the one k with 256^(k-1) ≤ m < 256^k -/
theorem nb_eq {f m k : Nat} (hk : k ≤ f) (h1 : m < 256 ^ k) (h2 : k = 0 ∨ 256 ^ (k - 1) ≤ m) : nb f m = k := by
  have hf : m < 256 ^ f := Nat.lt_of_lt_of_le h1 (Nat.pow_le_pow_right (by omega) hk)
  have a := nb_lt f m hf
  by_cases h0 : m = 0
  · subst h0
    rw [nb_zero]
    rcases h2 with h2 | h2
    · exact h2.symm
    · exact absurd h2 (by have : 0 < 256 ^ (k - 1) := Nat.pow_pos (by omega); omega)
  · have hf0 : f ≠ 0 := by
      intro e; subst e; obtain rfl : k = 0 := by omega
      simp at h1; omega
    have b := nb_ge f m h0 hf0
    have hk0 : k ≠ 0 := by intro e; subst e; simp at h1; omega
    have h2' : 256 ^ (k - 1) ≤ m := h2.resolve_left hk0
    have c1 : k - 1 < nb f m := (Nat.pow_lt_pow_iff_right (a := 256) (by omega)).1 (Nat.lt_of_le_of_lt h2' a)
    have c2 : nb f m - 1 < k := (Nat.pow_lt_pow_iff_right (a := 256) (by omega)).1 (Nat.lt_of_le_of_lt b h1)
    omega

theorem bd_length (m k : Nat) : (bd m k).length = k := by induction k with
  | zero => rfl
  | succ k ih => simp [bd, ih]
theorem flp_flp (b : Bool) (x : UInt8) : flp b (flp b x) = x := by
  cases b
  · rfl
  · simp only [flp, if_true]
    apply UInt8.toNat_inj.1
    have := x.toNat_lt
    simp only [UInt8.toNat_sub, UInt8.reduceToNat]
    omega
theorem head_ge (x : UInt8) : 128 ≤ (flp (decide (x < 128)) x).toNat := by
  have hlt := x.toNat_lt
  by_cases hx : x < 128
  · have := UInt8.lt_iff_toNat_lt.1 hx
    rw [decide_eq_true hx, flp, if_pos rfl, UInt8.toNat_sub]
    have e1 : (128 : UInt8).toNat = 128 := rfl
    have e2 : (255 : UInt8).toNat = 255 := rfl
    rw [e1] at this
    rw [e2]
    omega
  · have : ¬ x.toNat < (128 : UInt8).toNat := fun h => hx (UInt8.lt_iff_toNat_lt.2 h)
    rw [decide_eq_false hx, flp, if_neg (by decide)]
    have e1 : (128 : UInt8).toNat = 128 := rfl
    rw [e1] at this
    omega
theorem map_flp_flp (b : Bool) (l : List UInt8) : (l.map (flp b)).map (flp b) = l := by
  rw [List.map_map]; conv => rhs; rw [← List.map_id l]
  exact List.map_congr_left fun x _ => flp_flp b x
theorem toNat_lt (x : UInt8) : x.toNat < 256 := x.toNat_lt
theorem toNat_ofNat (m : Nat) : (UInt8.ofNat m).toNat = m % 256 := by simp

theorem val_cons (m : Nat) (d : UInt8) (l : List UInt8) : val m (d :: l) = val (m * 256 + d.toNat) l := rfl
theorem val_eq (m : Nat) (l : List UInt8) : val m l = m * 256 ^ l.length + val 0 l := by
  induction l generalizing m with
  | nil => simp [val]
  | cons d l ih =>
    rw [val_cons, val_cons, ih, ih (0 * 256 + d.toNat), List.length_cons, Nat.pow_succ]
    rw [Nat.add_mul, Nat.mul_assoc, Nat.mul_comm 256, Nat.zero_mul, Nat.zero_add, Nat.add_assoc]
theorem val_lt (l : List UInt8) : val 0 l < 256 ^ l.length := by
  induction l with
  | nil => simp [val]
  | cons d l ih =>
    rw [val_cons, val_eq, List.length_cons, Nat.pow_succ]
    have := toNat_lt d
    have h2 : (0 * 256 + d.toNat) * 256 ^ l.length ≤ 255 * 256 ^ l.length := Nat.mul_le_mul_right _ (by omega)
    generalize (0 * 256 + d.toNat) * 256 ^ l.length = q at *
    omega
theorem bd_val (l : List UInt8) (m : Nat) : bd (val m l) l.length = l := by
  induction l generalizing m with
  | nil => rfl
  | cons d l ih =>
    rw [val_cons, List.length_cons, bd, ih]
    congr 1
    rw [val_eq]
    have h1 := val_lt l
    have h2 : ((m * 256 + d.toNat) * 256 ^ l.length + val 0 l) / 256 ^ l.length = m * 256 + d.toNat := by
      rw [Nat.mul_comm, Nat.mul_add_div (Nat.pow_pos (by omega)), Nat.div_eq_of_lt h1, Nat.add_zero]
    rw [h2]
    apply UInt8.toNat_inj.1
    rw [toNat_ofNat]
    have := toNat_lt d
    omega
theorem val_bd (m k : Nat) : val (m / 256 ^ k) (bd m k) = m := by
  induction k with
  | zero => simp [bd, val]
  | succ k ih =>
    rw [bd, val_cons, toNat_ofNat]
    conv => rhs; rw [← ih]
    congr 1
    rw [Nat.pow_succ, ← Nat.div_div_eq_div_mul]
    omega
theorem val_bd0 {m k : Nat} (h : m < 256 ^ k) : val 0 (bd m k) = m := by
  have := val_bd m k
  rwa [Nat.div_eq_of_lt h] at this

theorem mag_lt {n : Int} (h1 : -9223372036854775808 ≤ n) (h2 : n ≤ 9223372036854775807) : mag n < 9223372036854775808 := by unfold mag; split <;> omega
theorem mag_lt8 {n : Int} (h1 : -9223372036854775808 ≤ n) (h2 : n ≤ 9223372036854775807) : mag n < 256 ^ 8 := Nat.lt_of_lt_of_le (mag_lt h1 h2) (by decide)
theorem of_mag (n : Int) : (if decide (n < 0) then -1 - (mag n : Int) else (mag n : Int)) = n := by
  unfold mag; by_cases h : n < 0
  · rw [if_pos (by simpa using h), if_neg (by omega)]; omega
  · rw [if_neg (by simpa using h), if_pos (by omega)]; omega
theorem enc_length (n : Int) : (enc n).length = nb 8 (mag n) + 1 := by simp [enc, bd_length]
theorem enc_length_le (n : Int) : (enc n).length ≤ 9 := by rw [enc_length]; have := nb_le 8 (mag n); omega
theorem enc_ne_nil (n : Int) : enc n ≠ [] := by simp [enc]

theorem head_lt (neg : Bool) (k : Nat) (hk : k ≤ 8) : decide (flp neg (UInt8.ofNat (128 + k)) < 128) = neg := by
  have : k = 0 ∨ k = 1 ∨ k = 2 ∨ k = 3 ∨ k = 4 ∨ k = 5 ∨ k = 6 ∨ k = 7 ∨ k = 8 := by omega
  rcases this with rfl | rfl | rfl | rfl | rfl | rfl | rfl | rfl | rfl <;> cases neg <;> decide
theorem bd_head {m k : Nat} (h1 : m < 256 ^ (k + 1)) (h2 : 256 ^ k ≤ m) : (bd m (k + 1)).head? ≠ some 0 := by
  rw [bd]
  simp only [List.head?_cons, ne_eq, Option.some.injEq]
  intro h
  have := congrArg UInt8.toNat h
  rw [toNat_ofNat] at this
  have hp : 0 < 256 ^ k := Nat.pow_pos (by omega)
  have a : m / 256 ^ k < 256 := by rw [Nat.div_lt_iff_lt_mul hp, Nat.mul_comm, ← Nat.pow_succ]; exact h1
  have b : 1 ≤ m / 256 ^ k := by rw [Nat.le_div_iff_mul_le hp]; omega
  rw [Nat.mod_eq_of_lt a] at this
  simp at this
  omega
/-- decoding an encoding, whatever follows it -/
theorem dec_enc {n : Int} (h1 : -9223372036854775808 ≤ n) (h2 : n ≤ 9223372036854775807) (r : List UInt8) : dec (enc n ++ r) = (n, (enc n).length, 0) := by
  have hk := nb_le 8 (mag n)
  have hm := mag_lt h1 h2
  have hm8 := mag_lt8 h1 h2
  have hlt := nb_lt 8 (mag n) hm8
  rw [enc_length]
  simp only [enc, List.cons_append, dec]
  rw [head_lt _ _ hk, flp_flp]
  have e : (UInt8.ofNat (128 + nb 8 (mag n))).toNat - 128 = nb 8 (mag n) := by rw [toNat_ofNat]; omega
  rw [e, if_neg (by omega), if_neg (by simp [bd_length])]
  have ht : List.take (nb 8 (mag n)) (List.map (flp (decide (n < 0))) (bd (mag n) (nb 8 (mag n))) ++ r) = List.map (flp (decide (n < 0))) (bd (mag n) (nb 8 (mag n))) := by
    rw [List.take_append_of_le_length (by simp [bd_length]), List.take_of_length_le (by simp [bd_length])]
  rw [ht, map_flp_flp, val_bd0 hlt, if_neg, if_neg (by omega), of_mag]
  by_cases h0 : nb 8 (mag n) = 0
  · rw [h0]; simp [bd]
  · obtain ⟨j, hj⟩ := Nat.exists_eq_succ_of_ne_zero h0
    rw [hj] at hlt ⊢
    refine bd_head hlt ?_
    have hne : mag n ≠ 0 := by intro e; rw [e, nb_zero] at h0; exact h0 rfl
    have := nb_ge 8 (mag n) hne (by omega)
    rwa [hj] at this
theorem dec_enc' {n : Int} (h1 : -9223372036854775808 ≤ n) (h2 : n ≤ 9223372036854775807) : dec (enc n) = (n, (enc n).length, 0) := by
  have := dec_enc h1 h2 []; rwa [List.append_nil] at this

/-- what is decoded: the value is in range, and the bytes are its encoding -/
theorem dec_ok {b : List UInt8} {n : Int} {u : Nat} (h : dec b = (n, u, 0)) : -9223372036854775808 ≤ n ∧ n ≤ 9223372036854775807 ∧ 1 ≤ u ∧ u ≤ 9 ∧ u ≤ b.length ∧ b.take u = enc n := by
  cases b with
  | nil => simp [dec] at h
  | cons x t =>
    simp only [dec] at h
    split at h
    · simp at h
    split at h
    · simp at h
    split at h
    · simp at h
    split at h
    · simp at h
    next hk ht hd hv =>
    generalize hneg : decide (x < 128) = neg at *
    generalize hkk : (flp neg x).toNat - 128 = k at *
    generalize hds : (t.take k).map (flp neg) = ds at *
    have hlen : ds.length = k := by rw [← hds, List.length_map, List.length_take]; omega
    have hvl := val_lt ds
    simp only [Prod.mk.injEq, and_true] at h
    obtain ⟨hn, rfl⟩ := h
    have hneg0 : decide (n < 0) = neg := by
      cases neg
      · simp at hn; simp; omega
      · simp at hn; simp; omega
    have hmag : mag n = val 0 ds := by
      unfold mag
      cases neg
      · simp at hn; rw [if_pos (by omega)]; omega
      · simp at hn; rw [if_neg (by omega)]; omega
    have hnb : nb 8 (val 0 ds) = k := by
      refine nb_eq (by omega) (by rw [← hlen]; exact hvl) ?_
      by_cases hk0 : k = 0
      · exact .inl hk0
      · right
        cases ds with
        | nil => simp at hlen; omega
        | cons d ds =>
          have hd0 : d ≠ 0 := by simpa using hd
          have hdn : 1 ≤ d.toNat := by
            rcases Nat.eq_zero_or_pos d.toNat with h0 | h0
            · exact absurd (UInt8.toNat_inj.1 (by simpa using h0)) hd0
            · exact h0
          rw [val_cons, val_eq]
          simp only [List.length_cons] at hlen
          obtain rfl : k = ds.length + 1 := by omega
          simp only [Nat.add_sub_cancel, Nat.zero_mul, Nat.zero_add]
          have := Nat.mul_le_mul_right (256 ^ ds.length) hdn
          omega
    refine ⟨?_, ?_, by omega, by omega, by simp; omega, ?_⟩
    · cases neg <;> simp at hn <;> omega
    · cases neg <;> simp at hn <;> omega
    · rw [List.take_succ_cons, enc, hmag, hnb, hneg0]
      have hb : bd (val 0 ds) k = ds := by have := bd_val ds 0; rwa [hlen] at this
      rw [hb, ← hds, map_flp_flp]
      refine congrArg (fun y => y :: t.take k) ?_
      have h128 : 128 ≤ (flp neg x).toNat := by subst hneg; exact head_ge x
      have h3 : UInt8.ofNat (128 + k) = flp neg x := by
        apply UInt8.toNat_inj.1; rw [toNat_ofNat]; have := toNat_lt (flp neg x); omega
      rw [h3, flp_flp]
theorem dec_err {b : List UInt8} {n : Int} {u : Nat} {e : Int} (h : dec b = (n, u, e)) : e = 0 ∨ (e = 5 ∨ e = 6) ∧ n = 0 ∧ u = 0 := by
  cases b with
  | nil => simp [dec] at h; omega
  | cons x t =>
    simp only [dec] at h
    repeat' split at h
    all_goals simp only [Prod.mk.injEq] at h
    all_goals omega

end Wire
end Go.Proofs.Ytcicfneekmbamaa
