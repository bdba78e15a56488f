/- The plain mathematics of layer 1's decoders of lists, and their laws. No program in sight, no condition. -/
import Derived.Test.YtkjomnakolhdcaaDoorWirePlain
namespace Go.Proofs.YtkjomnakolhdcaaDoor
set_option linter.unusedVariables false
set_option linter.unusedSimpArgs false
namespace Wire

/-- the length of a list whose elements take at least 'size' bytes: number, bytes used, error -/
def cnt (size : Nat) (b : List UInt8) : Nat × Nat × Int :=
  match dec b with
  | (n, u, e) => if e ≠ 0 then (0, 0, e) else if n < 0 then (0, 0, 6) else if b.length - u < n.toNat * size then (0, 0, 5) else (n.toNat, u, 0)
/-- a byte string -/
def decB (b : List UInt8) : List UInt8 × Nat × Int :=
  match cnt 1 b with
  | (k, u, e) => if e = 0 then ((b.drop u).take k, u + k, 0) else ([], 0, e)
/-- k integers -/
def decN : Nat → List UInt8 → (List Int × Nat) ⊕ Int
  | 0, _ => .inl ([], 0)
  | k + 1, b =>
    match dec b with
    | (x, u, e) => if e = 0 then (match decN k (b.drop u) with | .inl (l, v) => .inl (x :: l, u + v) | .inr e => .inr e) else .inr e
def decI (b : List UInt8) : List Int × Nat × Int :=
  match cnt 1 b with
  | (k, u, e) => if e = 0 then (match decN k (b.drop u) with | .inl (l, v) => (l, u + v, 0) | .inr e => ([], 0, e)) else ([], 0, e)
/-- k digests -/
def chunks : Nat → List UInt8 → List (List UInt8)
  | 0, _ => []
  | k + 1, l => l.take 16 :: chunks k (l.drop 16)
def decD (b : List UInt8) : List (List UInt8) × Nat × Int :=
  match cnt 16 b with
  | (k, u, e) => if e = 0 then (chunks k (b.drop u), u + 16 * k, 0) else ([], 0, e)

def encB (l : List UInt8) : List UInt8 := enc l.length ++ l
def encI (l : List Int) : List UInt8 := enc l.length ++ l.flatMap enc
def encD (l : List (List UInt8)) : List UInt8 := enc l.length ++ l.flatten

/-- the result of a list's decoding, acc being decoded already and at bytes used -/
def fin (acc : List Int) (at_ : Nat) : (List Int × Nat) ⊕ Int → List Int × Nat × Int
  | .inl (l, v) => (acc ++ l, at_ + v, 0)
  | .inr e => ([], 0, e)
end Wire
end Go.Proofs.YtkjomnakolhdcaaDoor
