/- The plain mathematics of layer 1's decoders of lists, and their laws. No program in sight, no condition. -/
import Derived.Test.YtkjomnakolhdcaaDoorWirePlain
namespace Go.Proofs.YtkjomnakolhdcaaDoor
set_option linter.unusedVariables false
set_option linter.unusedSimpArgs false
namespace Wire

/-- the length of a list whose elements take at least 'size' bytes: number, bytes used, error -/
def cnt (size : Nat) (b : List UInt8) : Nat × Nat × Int :=
  match dec b with
  | (n, u, e) => if e ≠ 0 then (0, 0, e) else if n < 0 then (0, 0, 6) else if b.length - u < n.toNat * size then (0, 0, 5) else (n.toNat, u, 0)
/-- a byte string -/
def decB (b : List UInt8) : List UInt8 × Nat × Int :=
  match cnt 1 b with
  | (k, u, e) => if e = 0 then ((b.drop u).take k, u + k, 0) else ([], 0, e)
/-- k integers -/
def decN : Nat → List UInt8 → (List Int × Nat) ⊕ Int
  | 0, _ => .inl ([], 0)
  | k + 1, b =>
    match dec b with
    | (x, u, e) => if e = 0 then (match decN k (b.drop u) with | .inl (l, v) => .inl (x :: l, u + v) | .inr e => .inr e) else .inr e
def decI (b : List UInt8) : List Int × Nat × Int :=
  match cnt 1 b with
  | (k, u, e) => if e = 0 then (match decN k (b.drop u) with | .inl (l, v) => (l, u + v, 0) | .inr e => ([], 0, e)) else ([], 0, e)
/-- k digests -/
def chunks : Nat → List UInt8 → List (List UInt8)
  | 0, _ => []
  | k + 1, l => l.take 16 :: chunks k (l.drop 16)
def decD (b : List UInt8) : List (List UInt8) × Nat × Int :=
  match cnt 16 b with
  | (k, u, e) => if e = 0 then (chunks k (b.drop u), u + 16 * k, 0) else ([], 0, e)

def encB (l : List UInt8) : List UInt8 := enc l.length ++ l
def encI (l : List Int) : List UInt8 := enc l.length ++ l.flatMap enc
def encD (l : List (List UInt8)) : List UInt8 := enc l.length ++ l.flatten

theorem cnt_ok {size : Nat} {b : List UInt8} {k u : Nat} (h : cnt size b = (k, u, 0)) : dec b = ((k : Int), u, 0) ∧ k * size ≤ b.length - u ∧ 1 ≤ u ∧ u ≤ 9 ∧ u ≤ b.length ∧ k ≤ 9223372036854775807 ∧ b.take u = enc k := by
  obtain ⟨n, u0, e0, hd⟩ : ∃ n u e, dec b = (n, u, e) := ⟨_, _, _, rfl⟩
  simp only [cnt, hd] at h
  split at h
  · simp at h; omega
  split at h
  · simp at h
  split at h
  · simp at h
  next h1 h2 h3 =>
  simp only [ne_eq, Decidable.not_not] at h1
  subst h1
  have hk := dec_ok hd
  simp only [Prod.mk.injEq, and_true] at h
  obtain ⟨rfl, rfl⟩ := h
  have hn : ((n.toNat : Nat) : Int) = n := by omega
  rw [hn]
  exact ⟨hd, by omega, by omega, by omega, by omega, by omega, hk.2.2.2.2.2⟩
/-- the result of a list's decoding, acc being decoded already and at bytes used -/
def fin (acc : List Int) (at_ : Nat) : (List Int × Nat) ⊕ Int → List Int × Nat × Int
  | .inl (l, v) => (acc ++ l, at_ + v, 0)
  | .inr e => ([], 0, e)
theorem decI_start {b : List UInt8} {k u : Nat} (h : cnt 1 b = (k, u, 0)) : decI b = fin [] u (decN k (b.drop u)) := by
  simp only [decI, h, if_true]
  cases decN k (b.drop u) <;> rfl
theorem decI_err {b : List UInt8} {k u : Nat} {e : Int} (h : cnt 1 b = (k, u, e)) (he : e ≠ 0) : decI b = ([], 0, e) := by
  simp only [decI, h, if_neg he]
theorem fin_step {b : List UInt8} {at_ j u : Nat} {x : Int} {acc : List Int} (h : dec (b.drop at_) = (x, u, 0)) :
    fin acc at_ (decN (j + 1) (b.drop at_)) = fin (acc ++ [x]) (at_ + u) (decN j (b.drop (at_ + u))) := by
  simp only [decN, h, if_true, List.drop_drop]
  cases decN j (b.drop (at_ + u)) with
  | inl p => simp [fin, Nat.add_assoc]
  | inr e => rfl
theorem fin_stop {b : List UInt8} {at_ j u : Nat} {x e : Int} {acc : List Int} (h : dec (b.drop at_) = (x, u, e)) (he : e ≠ 0) : fin acc at_ (decN (j + 1) (b.drop at_)) = ([], 0, e) := by
  simp only [decN, h, if_neg he]; rfl
theorem fin_end {b : List UInt8} {at_ : Nat} {acc : List Int} : fin acc at_ (decN 0 (b.drop at_)) = (acc, at_, 0) := by simp [fin, decN]
end Wire
end Go.Proofs.YtkjomnakolhdcaaDoor
