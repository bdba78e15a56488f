/- The plain mathematics of layer 1's decoders of lists, and their laws. No program in sight, no condition. -/
import Derived.Test.YtcicfneekmbamaaWirePlain
namespace Go.Proofs.Ytcicfneekmbamaa
set_option linter.unusedVariables false
set_option linter.unusedSimpArgs false
namespace Wire

/-- the length of a list whose elements take at least 'size' bytes: number, bytes used, error -/
def cnt (size : Nat) (b : List UInt8) : Nat × Nat × Int :=
  match dec b with
  | (n, u, e) => if e ≠ 0 then (0, 0, e) else if n < 0 then (0, 0, 6) else if b.length - u < n.toNat * size then (0, 0, 5) else (n.toNat, u, 0)
/-- a byte string -/
def decB (b : List UInt8) : List UInt8 × Nat × Int :=
  match cnt 1 b with
  | (k, u, e) => if e = 0 then ((b.drop u).take k, u + k, 0) else ([], 0, e)
/-- k integers -/
def decN : Nat → List UInt8 → (List Int × Nat) ⊕ Int
  | 0, _ => .inl ([], 0)
  | k + 1, b =>
    match dec b with
    | (x, u, e) => if e = 0 then (match decN k (b.drop u) with | .inl (l, v) => .inl (x :: l, u + v) | .inr e => .inr e) else .inr e
def decI (b : List UInt8) : List Int × Nat × Int :=
  match cnt 1 b with
  | (k, u, e) => if e = 0 then (match decN k (b.drop u) with | .inl (l, v) => (l, u + v, 0) | .inr e => ([], 0, e)) else ([], 0, e)
/-- k digests -/
def chunks : Nat → List UInt8 → List (List UInt8)
  | 0, _ => []
  | k + 1, l => l.take 16 :: chunks k (l.drop 16)
def decD (b : List UInt8) : List (List UInt8) × Nat × Int :=
  match cnt 16 b with
  | (k, u, e) => if e = 0 then (chunks k (b.drop u), u + 16 * k, 0) else ([], 0, e)

def encB (l : List UInt8) : List UInt8 := enc l.length ++ l
def encI (l : List Int) : List UInt8 := enc l.length ++ l.flatMap enc
def encD (l : List (List UInt8)) : List UInt8 := enc l.length ++ l.flatten

theorem cnt_err {size : Nat} {b : List UInt8} {k u : Nat} {e : Int} (h : cnt size b = (k, u, e)) : e = 0 ∨ (e = 5 ∨ e = 6) ∧ k = 0 ∧ u = 0 := by
  obtain ⟨n, u0, e0, hd⟩ : ∃ n u e, dec b = (n, u, e) := ⟨_, _, _, rfl⟩
  have hde := dec_err hd
  simp only [cnt, hd] at h
  repeat' split at h
  all_goals simp only [Prod.mk.injEq] at h
  all_goals omega
theorem cnt_ok {size : Nat} {b : List UInt8} {k u : Nat} (h : cnt size b = (k, u, 0)) : dec b = ((k : Int), u, 0) ∧ k * size ≤ b.length - u ∧ 1 ≤ u ∧ u ≤ 9 ∧ u ≤ b.length ∧ k ≤ 9223372036854775807 ∧ b.take u = enc k := by
  obtain ⟨n, u0, e0, hd⟩ : ∃ n u e, dec b = (n, u, e) := ⟨_, _, _, rfl⟩
  simp only [cnt, hd] at h
  split at h
  · simp at h; omega
  split at h
  · simp at h
  split at h
  · simp at h
  next h1 h2 h3 =>
  simp only [ne_eq, Decidable.not_not] at h1
  subst h1
  have hk := dec_ok hd
  simp only [Prod.mk.injEq, and_true] at h
  obtain ⟨rfl, rfl⟩ := h
  have hn : ((n.toNat : Nat) : Int) = n := by omega
  rw [hn]
  exact ⟨hd, by omega, by omega, by omega, by omega, by omega, hk.2.2.2.2.2⟩
theorem cnt_enc {size k : Nat} {r : List UInt8} (hk : k ≤ 9223372036854775807) (hr : k * size ≤ r.length) : cnt size (enc k ++ r) = (k, (enc k).length, 0) := by
  simp only [cnt, dec_enc (show -9223372036854775808 ≤ (k : Int) by omega) (by omega)]
  rw [if_neg (by simp), if_neg (by omega), if_neg (by simp; omega)]
  simp
/-- the result of a list's decoding, acc being decoded already and at bytes used -/
def fin (acc : List Int) (at_ : Nat) : (List Int × Nat) ⊕ Int → List Int × Nat × Int
  | .inl (l, v) => (acc ++ l, at_ + v, 0)
  | .inr e => ([], 0, e)
theorem decI_start {b : List UInt8} {k u : Nat} (h : cnt 1 b = (k, u, 0)) : decI b = fin [] u (decN k (b.drop u)) := by
  simp only [decI, h, if_true]
  cases decN k (b.drop u) <;> rfl
theorem decI_err {b : List UInt8} {k u : Nat} {e : Int} (h : cnt 1 b = (k, u, e)) (he : e ≠ 0) : decI b = ([], 0, e) := by
  simp only [decI, h, if_neg he]
theorem fin_step {b : List UInt8} {at_ j u : Nat} {x : Int} {acc : List Int} (h : dec (b.drop at_) = (x, u, 0)) :
    fin acc at_ (decN (j + 1) (b.drop at_)) = fin (acc ++ [x]) (at_ + u) (decN j (b.drop (at_ + u))) := by
  simp only [decN, h, if_true, List.drop_drop]
  cases decN j (b.drop (at_ + u)) with
  | inl p => simp [fin, Nat.add_assoc]
  | inr e => rfl
theorem fin_stop {b : List UInt8} {at_ j u : Nat} {x e : Int} {acc : List Int} (h : dec (b.drop at_) = (x, u, e)) (he : e ≠ 0) : fin acc at_ (decN (j + 1) (b.drop at_)) = ([], 0, e) := by
  simp only [decN, h, if_neg he]; rfl
theorem fin_end {b : List UInt8} {at_ : Nat} {acc : List Int} : fin acc at_ (decN 0 (b.drop at_)) = (acc, at_, 0) := by simp [fin, decN]
theorem decB_ok {b : List UInt8} {k u : Nat} (h : cnt 1 b = (k, u, 0)) : decB b = ((b.drop u).take k, u + k, 0) := by simp [decB, h]
theorem decB_err {b : List UInt8} {k u : Nat} {e : Int} (h : cnt 1 b = (k, u, e)) (he : e ≠ 0) : decB b = ([], 0, e) := by simp [decB, h, he]
theorem decD_ok {b : List UInt8} {k u : Nat} (h : cnt 16 b = (k, u, 0)) : decD b = (chunks k (b.drop u), u + 16 * k, 0) := by simp [decD, h]
theorem decD_err {b : List UInt8} {k u : Nat} {e : Int} (h : cnt 16 b = (k, u, e)) (he : e ≠ 0) : decD b = ([], 0, e) := by simp [decD, h, he]
end Wire
end Go.Proofs.Ytcicfneekmbamaa
