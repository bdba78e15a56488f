/- The plain law of order of layer 1: encodings are ordered as the integers are, and neither is a proper prefix of another. No program in sight, no condition. -/
import Derived.Test.YtoipafbjdjhdjaaWireLaws
import GoSem.Op.String
namespace Go.Proofs.Ytoipafbjdjhdjaa
set_option linter.unusedVariables false
set_option linter.unusedSimpArgs false
namespace Wire
open Op (bytesLess)

theorem less_cons_lt {a b : UInt8} {x y : List UInt8} (h : a.toNat < b.toNat) : bytesLess (a :: x) (b :: y) = true := by
  have : (a < b) := UInt8.lt_iff_toNat_lt.2 h
  simp [bytesLess, this]
theorem less_cons_eq (a : UInt8) (x y : List UInt8) : bytesLess (a :: x) (a :: y) = bytesLess x y := by
  have : ¬ (a < a) := fun h => Nat.lt_irrefl _ (UInt8.lt_iff_toNat_lt.1 h)
  simp [bytesLess, this]
theorem less_irrefl (x : List UInt8) : bytesLess x x = false := by
  induction x with
  | nil => rfl
  | cons a x ih => rw [less_cons_eq, ih]
theorem less_asymm {x y : List UInt8} (h : bytesLess x y = true) : bytesLess y x = false := by
  induction x generalizing y with
  | nil => cases y <;> simp_all [bytesLess]
  | cons a x ih =>
    cases y with
    | nil => simp [bytesLess] at h
    | cons b y =>
      rcases Nat.lt_trichotomy a.toNat b.toNat with h1 | h1 | h1
      · have h2 : ¬ (b < a) := fun h => by have := UInt8.lt_iff_toNat_lt.1 h; omega
        have h3 : (b == a) = false := by rw [beq_eq_false_iff_ne]; intro e; subst e; omega
        simp [bytesLess, h2, h3]
      · have e : a = b := UInt8.toNat_inj.1 h1
        subst e
        rw [less_cons_eq] at h ⊢
        exact ih h
      · have h2 : ¬ (a < b) := fun h => by have := UInt8.lt_iff_toNat_lt.1 h; omega
        have h3 : (a == b) = false := by rw [beq_eq_false_iff_ne]; intro e; subst e; omega
        simp [bytesLess, h2, h3] at h

theorem bd_mod (m k : Nat) : bd m k = bd (m % 256 ^ k) k := by
  induction k generalizing m with
  | zero => rfl
  | succ k ih =>
    have hp : 0 < 256 ^ k := Nat.pow_pos (by omega)
    rw [bd, bd, ih m, ih (m % 256 ^ (k + 1))]
    congr 1
    · apply UInt8.toNat_inj.1
      rw [toNat_ofNat, toNat_ofNat, Nat.pow_succ, Nat.mod_mul_right_div_self]
      omega
    · congr 1
      rw [Nat.pow_succ, Nat.mod_mul_right_mod]
theorem bd_less {m n k : Nat} (h : m < n) (hn : n < 256 ^ k) : bytesLess (bd m k) (bd n k) = true := by
  induction k generalizing m n with
  | zero => simp at hn; omega
  | succ k ih =>
    have hp : 0 < 256 ^ k := Nat.pow_pos (by omega)
    rw [bd, bd]
    have hn1 : n / 256 ^ k < 256 := by rw [Nat.div_lt_iff_lt_mul hp, Nat.mul_comm, ← Nat.pow_succ]; exact hn
    have hle : m / 256 ^ k ≤ n / 256 ^ k := Nat.div_le_div_right (by omega)
    rcases Nat.lt_or_ge (m / 256 ^ k) (n / 256 ^ k) with h1 | h1
    · refine less_cons_lt ?_
      rw [toNat_ofNat, toNat_ofNat, Nat.mod_eq_of_lt (by omega), Nat.mod_eq_of_lt hn1]
      exact h1
    · have e : m / 256 ^ k = n / 256 ^ k := by omega
      rw [e, less_cons_eq, bd_mod m, bd_mod n]
      refine ih ?_ (Nat.mod_lt _ hp)
      have h2 := Nat.div_add_mod m (256 ^ k)
      have h3 := Nat.div_add_mod n (256 ^ k)
      rw [e] at h2
      omega
theorem flp_true (x : UInt8) : (flp true x).toNat = 255 - x.toNat := by
  have := x.toNat_lt
  simp only [flp, if_true]
  rw [UInt8.toNat_sub]
  have e2 : (255 : UInt8).toNat = 255 := rfl
  rw [e2]; omega
theorem flp_inj (b : Bool) {x y : UInt8} (h : flp b x = flp b y) : x = y := by rw [← flp_flp b x, h, flp_flp]
theorem less_flp {x y : List UInt8} (hl : x.length = y.length) (h : bytesLess x y = true) : bytesLess (y.map (flp true)) (x.map (flp true)) = true := by
  induction x generalizing y with
  | nil => cases y <;> simp_all [bytesLess]
  | cons a x ih =>
    cases y with
    | nil => simp [bytesLess] at h
    | cons b y =>
      rw [List.map_cons, List.map_cons]
      rcases Nat.lt_trichotomy a.toNat b.toNat with h1 | h1 | h1
      · refine less_cons_lt ?_
        have := b.toNat_lt
        rw [flp_true, flp_true]; omega
      · have e : a = b := UInt8.toNat_inj.1 h1
        subst e
        rw [less_cons_eq] at h ⊢
        exact ih (by simpa using hl) h
      · have h2 : ¬ (a < b) := fun h => by have := UInt8.lt_iff_toNat_lt.1 h; omega
        have h3 : (a == b) = false := by rw [beq_eq_false_iff_ne]; intro e; subst e; omega
        simp [bytesLess, h2, h3] at h
theorem nb_mono {f m n : Nat} (h : m ≤ n) : nb f m ≤ nb f n := by
  induction f generalizing m n with
  | zero => simp [nb]
  | succ f ih =>
    unfold nb
    split
    · omega
    · rw [if_neg (by omega)]
      have := ih (Nat.div_le_div_right (c := 256) h)
      omega
theorem enc_less {m n : Int} (h : m < n) (hm : In64 m) (hn : In64 n) : bytesLess (enc m) (enc n) = true := by
  have km := nb_le 8 (mag m)
  have kn := nb_le 8 (mag n)
  have lm := nb_lt 8 _ (mag_lt8 hm.1 hm.2)
  have ln := nb_lt 8 _ (mag_lt8 hn.1 hn.2)
  have hf : ∀ x, flp false x = x := fun _ => rfl
  have hmap : ∀ l : List UInt8, l.map (flp false) = l := fun l => by rw [show flp false = id from rfl, List.map_id]
  unfold enc
  by_cases h1 : m < 0
  · by_cases h2 : n < 0
    · rw [decide_eq_true h1, decide_eq_true h2]
      have hmag : mag n < mag m := by unfold mag; rw [if_neg (by omega), if_neg (by omega)]; omega
      have hk := nb_mono (f := 8) (Nat.le_of_lt hmag)
      rcases Nat.lt_or_ge (nb 8 (mag n)) (nb 8 (mag m)) with h3 | h3
      · refine less_cons_lt ?_
        rw [flp_true, flp_true, toNat_ofNat, toNat_ofNat]; omega
      · have e : nb 8 (mag n) = nb 8 (mag m) := by omega
        rw [e, less_cons_eq]
        exact less_flp (by simp [bd_length]) (bd_less hmag lm)
    · rw [decide_eq_true h1, decide_eq_false h2]
      refine less_cons_lt ?_
      rw [flp_true, hf, toNat_ofNat, toNat_ofNat]; omega
  · have h2 : ¬ n < 0 := by omega
    rw [decide_eq_false h1, decide_eq_false h2, hmap, hmap, hf, hf]
    have hmag : mag m < mag n := by unfold mag; rw [if_pos (by omega), if_pos (by omega)]; omega
    have hk := nb_mono (f := 8) (Nat.le_of_lt hmag)
    rcases Nat.lt_or_ge (nb 8 (mag m)) (nb 8 (mag n)) with h3 | h3
    · refine less_cons_lt ?_
      rw [toNat_ofNat, toNat_ofNat]; omega
    · have e : nb 8 (mag m) = nb 8 (mag n) := by omega
      rw [e, less_cons_eq]
      exact bd_less hmag ln
/-- their order is that of their encodings -/
theorem enc_order {m n : Int} (hm : In64 m) (hn : In64 n) : bytesLess (enc m) (enc n) = decide (m < n) := by
  rcases Int.lt_trichotomy m n with h | h | h
  · rw [enc_less h hm hn, decide_eq_true h]
  · subst h; rw [less_irrefl, decide_eq_false (by omega)]
  · rw [less_asymm (enc_less h hn hm), decide_eq_false (by omega)]
theorem enc_inj {m n : Int} (hm : In64 m) (hn : In64 n) : (enc m == enc n) = (m == n) := by
  by_cases h : m = n
  · subst h; simp
  · have h2 : (m == n) = false := by rw [beq_eq_false_iff_ne]; exact h
    rw [h2, beq_eq_false_iff_ne]
    intro e
    have h3 := dec_enc' hm.1 hm.2
    rw [e, dec_enc' hn.1 hn.2] at h3
    simp only [Prod.mk.injEq] at h3
    exact h h3.1.symm
theorem enc_prefix {m n : Int} (hm : In64 m) (hn : In64 n) : ((enc m).take (min (enc m).length (enc n).length) == (enc n).take (min (enc m).length (enc n).length)) = (m == n) := by
  by_cases h : m = n
  · subst h; simp
  · have h2 : (m == n) = false := by rw [beq_eq_false_iff_ne]; exact h
    rw [h2, beq_eq_false_iff_ne]
    intro e
    apply h
    rcases Nat.le_total (enc m).length (enc n).length with h3 | h3
    · rw [Nat.min_eq_left h3, List.take_of_length_le (Nat.le_refl _)] at e
      have h4 : enc m ++ (enc n).drop (enc m).length = enc n := by
        conv => lhs; rw [e]
        rw [List.length_take, Nat.min_eq_left h3, List.take_append_drop]
      have h5 := dec_enc hm.1 hm.2 ((enc n).drop (enc m).length)
      rw [h4, dec_enc' hn.1 hn.2] at h5
      simp only [Prod.mk.injEq] at h5
      exact h5.1.symm
    · rw [Nat.min_eq_right h3, List.take_of_length_le (l := enc n) (Nat.le_refl _)] at e
      have h4 : enc n ++ (enc m).drop (enc n).length = enc m := by
        conv => lhs; rw [← e]
        rw [List.length_take, Nat.min_eq_left h3, List.take_append_drop]
      have h5 := dec_enc hn.1 hn.2 ((enc m).drop (enc n).length)
      rw [h4, dec_enc' hm.1 hm.2] at h5
      simp only [Prod.mk.injEq] at h5
      exact h5.1
end Wire
end Go.Proofs.Ytoipafbjdjhdjaa
