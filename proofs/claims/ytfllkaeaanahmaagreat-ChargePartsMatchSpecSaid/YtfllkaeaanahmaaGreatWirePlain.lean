/- The plain mathematics of layer 1 (wire): encodings and decodings as functions on lists of bytes, and the laws between them. No program in sight, no condition. -/
namespace Go.Proofs.YtfllkaeaanahmaaGreat
set_option linter.unusedVariables false
set_option linter.unusedSimpArgs false
namespace Wire

def nb : Nat → Nat → Nat
 | 0, _ => 0
 | f + 1, m => if m = 0 then 0 else nb f (m / 256) + 1
def bd (m : Nat) : Nat → List UInt8
 | 0 => []
 | k + 1 => UInt8.ofNat (m / 256 ^ k) :: bd m k
def val (m : Nat) (l : List UInt8) : Nat := l.foldl (fun m d => m * 256 + d.toNat) m
def mag (n : Int) : Nat := if 0 ≤ n then n.toNat else (-1 - n).toNat
def flp (neg : Bool) (x : UInt8) : UInt8 := if neg then 255 - x else x
def enc (n : Int) : List UInt8 := flp (decide (n < 0)) (UInt8.ofNat (128 + nb 8 (mag n))) :: (bd (mag n) (nb 8 (mag n))).map (flp (decide (n < 0)))

def dec : List UInt8 → Int × Nat × Int
 | [] => (0, 0, 5)
 | h :: t =>
  let neg := decide (h < 128)
  let k := (flp neg h).toNat - 128
  if 8 < k then (0, 0, 6) else if t.length < k then (0, 0, 5)
  else
   let ds := (t.take k).map (flp neg)
   if ds.head? = some 0 then (0, 0, 6)
   else if 9223372036854775808 ≤ val 0 ds then (0, 0, 6)
   else (if neg then -1 - (val 0 ds : Int) else (val 0 ds : Int), k + 1, 0)

end Wire
end Go.Proofs.YtfllkaeaanahmaaGreat
