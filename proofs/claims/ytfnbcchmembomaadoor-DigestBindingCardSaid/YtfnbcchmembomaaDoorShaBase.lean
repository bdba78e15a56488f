/- Joined texts: ShaP, U32, ShaM, ShaS, ShaW, ShaD. Conditions: as each part says. -/
import Derived.Laws.BitsAllLaws
import Derived.Laws.Shifts
import Derived.Test.YtfnbcchmembomaaDoorBase
import Derived.Test.YtfnbcchmembomaaDoorProg
import Derived.WalkKit
import Derived.WalkLawsBesides
import Derived.Deep.QuietTactic
import Derived.BigQuiet
import Derived.Test.YtfnbcchmembomaaDoorRow
import Derived.Test.YtfnbcchmembomaaDoorWireInt
import Derived.StillTailTactics
namespace Go.Proofs.YtfnbcchmembomaaDoor
set_option linter.unusedVariables false
set_option linter.unusedSimpArgs false
/-! SHA-256 in plain Lean. No condition. -/
section
namespace Sha
/-- the 64 round constants -/
def K : List UInt32 := [
  0x428a2f98, 0x71374491, 0xb5c0fbcf, 0xe9b5dba5, 0x3956c25b, 0x59f111f1, 0x923f82a4, 0xab1c5ed5,
  0xd807aa98, 0x12835b01, 0x243185be, 0x550c7dc3, 0x72be5d74, 0x80deb1fe, 0x9bdc06a7, 0xc19bf174,
  0xe49b69c1, 0xefbe4786, 0x0fc19dc6, 0x240ca1cc, 0x2de92c6f, 0x4a7484aa, 0x5cb0a9dc, 0x76f988da,
  0x983e5152, 0xa831c66d, 0xb00327c8, 0xbf597fc7, 0xc6e00bf3, 0xd5a79147, 0x06ca6351, 0x14292967,
  0x27b70a85, 0x2e1b2138, 0x4d2c6dfc, 0x53380d13, 0x650a7354, 0x766a0abb, 0x81c2c92e, 0x92722c85,
  0xa2bfe8a1, 0xa81a664b, 0xc24b8b70, 0xc76c51a3, 0xd192e819, 0xd6990624, 0xf40e3585, 0x106aa070,
  0x19a4c116, 0x1e376c08, 0x2748774c, 0x34b0bcb5, 0x391c0cb3, 0x4ed8aa4a, 0x5b9cca4f, 0x682e6ff3,
  0x748f82ee, 0x78a5636f, 0x84c87814, 0x8cc70208, 0x90befffa, 0xa4506ceb, 0xbef9a3f7, 0xc67178f2]
def rotr (x : UInt32) (k : Nat) : UInt32 := (x >>> UInt32.ofNat k) ||| (x <<< UInt32.ofNat (32 - k))
def w8 (x : UInt8) : UInt32 := UInt32.ofNat x.toNat
/-- the number of some bytes, the greatest first -/
def acc (l : List UInt8) : UInt32 := l.foldl (fun w x => (w <<< 8) ||| w8 x) 0
def words (b : List UInt8) : List UInt32 := (List.range 16).map fun t => acc ((b.drop (4 * t)).take 4)
def s0 (p : UInt32) : UInt32 := rotr p 7 ^^^ rotr p 18 ^^^ (p >>> 3)
def s1 (q : UInt32) : UInt32 := rotr q 17 ^^^ rotr q 19 ^^^ (q >>> 10)
def nextw (w : List UInt32) : UInt32 := w.getD (w.length - 16) 0 + s0 (w.getD (w.length - 15) 0) + w.getD (w.length - 7) 0 + s1 (w.getD (w.length - 2) 0)
def grow : Nat → List UInt32 → List UInt32
  | 0, w => w
  | n + 1, w => grow n (w ++ [nextw w])
def sched (b : List UInt8) : List UInt32 := grow 48 (words b)
structure St where
  (a b c d e f g h : UInt32)
def St.list (s : St) : List UInt32 := [s.a, s.b, s.c, s.d, s.e, s.f, s.g, s.h]
def big0 (x : UInt32) : UInt32 := rotr x 2 ^^^ rotr x 13 ^^^ rotr x 22
def big1 (x : UInt32) : UInt32 := rotr x 6 ^^^ rotr x 11 ^^^ rotr x 25
def rnd (s : St) (k w : UInt32) : St :=
  let x := s.h + big1 s.e + ((s.e &&& s.f) ^^^ (~~~ s.e &&& s.g)) + k + w
  let y := big0 s.a + ((s.a &&& s.b) ^^^ (s.a &&& s.c) ^^^ (s.b &&& s.c))
  ⟨x + y, s.a, s.b, s.c, s.d + x, s.e, s.f, s.g⟩
def rnds : List (UInt32 × UInt32) → St → St
  | [], s => s
  | p :: r, s => rnds r (rnd s p.1 p.2)
def add (s v : St) : St := ⟨s.a + v.a, s.b + v.b, s.c + v.c, s.d + v.d, s.e + v.e, s.f + v.f, s.g + v.g, s.h + v.h⟩
def comp (s : St) (b : List UInt8) : St := add s (rnds (K.zip (sched b)) s)
def start : St := ⟨0x6a09e667, 0xbb67ae85, 0x3c6ef372, 0xa54ff53a, 0x510e527f, 0x9b05688c, 0x1f83d9ab, 0x5be0cd19⟩
/-- the bytes of a number, eight of them, the greatest first -/
def be8 (n : Nat) : List UInt8 := [UInt8.ofNat (n / 2 ^ 56), UInt8.ofNat (n / 2 ^ 48), UInt8.ofNat (n / 2 ^ 40), UInt8.ofNat (n / 2 ^ 32), UInt8.ofNat (n / 2 ^ 24), UInt8.ofNat (n / 2 ^ 16), UInt8.ofNat (n / 2 ^ 8), UInt8.ofNat n]
def zeros (n : Nat) : Nat := (119 - n % 64) % 64
def pad (l : List UInt8) : List UInt8 := l ++ [128] ++ List.replicate (zeros l.length) 0 ++ be8 (8 * l.length)
/-- the t-th block of 64 -/
def blk (m : List UInt8) (t : Nat) : List UInt8 := (m.drop (64 * t)).take 64
/-- the state behind t blocks -/
def run (m : List UInt8) : Nat → St
  | 0 => start
  | t + 1 => comp (run m t) (blk m t)
def byteOf (x : UInt32) (i : Nat) : UInt8 := UInt8.ofNat (x.toNat / 2 ^ (24 - 8 * i))
/-- the bytes of a state -/
def outb (s : St) : List UInt8 := (List.range 32).map fun i => byteOf (s.list.getD (i / 4) 0) (i % 4)
def sum (l : List UInt8) : List UInt8 := outb (run (pad l) ((pad l).length / 64))

theorem sum_nil : sum [] = [0xe3, 0xb0, 0xc4, 0x42, 0x98, 0xfc, 0x1c, 0x14, 0x9a, 0xfb, 0xf4, 0xc8, 0x99, 0x6f, 0xb9, 0x24, 0x27, 0xae, 0x41, 0xe4, 0x64, 0x9b, 0x93, 0x4c, 0xa4, 0x95, 0x99, 0x1b, 0x78, 0x52, 0xb8, 0x55] := by decide +kernel

theorem grow_len : ∀ (n : Nat) (w : List UInt32), (grow n w).length = w.length + n
  | 0, w => rfl
  | n + 1, w => by rw [grow, grow_len n]; simp; omega
theorem grow_take0 : ∀ (n : Nat) (w : List UInt32), (grow n w).take (w.length + 0) = w
  | 0, w => by simp [grow]
  | n + 1, w => by
    have h := grow_take0 n (w ++ [nextw w])
    rw [grow]
    have e : (grow n (w ++ [nextw w])).take (w.length + 0) = ((grow n (w ++ [nextw w])).take ((w ++ [nextw w]).length + 0)).take w.length := by
      rw [List.take_take]; congr 1; simp
    rw [e, h]; simp
theorem grow_take : ∀ (n : Nat) (w : List UInt32) (k : Nat), k ≤ n → (grow n w).take (w.length + k) = grow k w
  | n, w, 0, _ => grow_take0 n w
  | n + 1, w, k + 1, h => by
    have := grow_take n (w ++ [nextw w]) k (by omega)
    rw [grow, grow, ← this]; congr 1; simp; omega
theorem grow_last : ∀ (k : Nat) (w : List UInt32), grow (k + 1) w = grow k w ++ [nextw (grow k w)]
  | 0, w => rfl
  | k + 1, w => by
    have := grow_last k (w ++ [nextw w])
    rw [grow, this]; rfl
theorem words_len (b : List UInt8) : (words b).length = 16 := by simp [words]
theorem sched_len (b : List UInt8) : (sched b).length = 64 := by rw [sched, grow_len, words_len]
theorem sched_snoc (b : List UInt8) {t : Nat} (h1 : 16 ≤ t) (h2 : t < 64) : (sched b).take (t + 1) = (sched b).take t ++ [nextw ((sched b).take t)] := by
  have e1 := grow_take 48 (words b) (t - 16) (by omega)
  have e2 := grow_take 48 (words b) (t - 16 + 1) (by omega)
  rw [words_len, show 16 + (t - 16) = t from by omega] at e1
  rw [words_len, show 16 + (t - 16 + 1) = t + 1 from by omega] at e2
  unfold sched
  rw [e1, e2, grow_last]
theorem words_get (b : List UInt8) {t : Nat} (h : t < 16) : (words b)[t]? = some (acc ((b.drop (4 * t)).take 4)) := by
  unfold words
  rw [List.getElem?_map, List.getElem?_range h, Option.map_some]
theorem sched_word (b : List UInt8) {t : Nat} (h : t < 16) : (sched b).take (t + 1) = (sched b).take t ++ [acc ((b.drop (4 * t)).take 4)] := by
  have e := grow_take0 48 (words b)
  rw [words_len, Nat.add_zero] at e
  have e1 : ∀ k, k ≤ 16 → (sched b).take k = (words b).take k := by
    intro k hk
    have : (sched b).take k = ((sched b).take 16).take k := by rw [List.take_take, Nat.min_eq_left hk]
    rw [this]
    unfold sched
    rw [e]
  rw [e1 _ (by omega), e1 _ (by omega), List.take_add_one, words_get b h, Option.toList_some]
theorem acc_snoc (l : List UInt8) (x : UInt8) : acc (l ++ [x]) = (acc l <<< 8) ||| w8 x := by simp [acc]
theorem acc4 (a b c d : UInt8) : acc [a, b, c, d] = (w8 a <<< 24) ||| (w8 b <<< 16) ||| (w8 c <<< 8) ||| w8 d := by
  have e1 : ∀ x : UInt32, (x <<< 8) <<< 8 = x <<< 16 := fun x => (UInt32.shiftLeft_add_of_toNat_lt (a := x) (b := 8) (c := 8) (by decide)).symm
  have e2 : ∀ x : UInt32, (x <<< 16) <<< 8 = x <<< 24 := fun x => (UInt32.shiftLeft_add_of_toNat_lt (a := x) (b := 16) (c := 8) (by decide)).symm
  simp only [acc, List.foldl_cons, List.foldl_nil, UInt32.shiftLeft_or, e1, e2]
  simp
theorem nextw_of (w : List UInt32) (t : Nat) (ht : w.length = t) : nextw w = w.getD (t - 16) 0 + s0 (w.getD (t - 15) 0) + w.getD (t - 7) 0 + s1 (w.getD (t - 2) 0) := by subst ht; rfl
theorem rnds_snoc (l : List (UInt32 × UInt32)) (p : UInt32 × UInt32) (s : St) : rnds (l ++ [p]) s = rnd (rnds l s) p.1 p.2 := by
  induction l generalizing s with
  | nil => rfl
  | cons q l ih => exact ih _
/-- after t rounds -/
def after (b : List UInt8) (s : St) (t : Nat) : St := rnds ((K.zip (sched b)).take t) s
theorem after_zero (b : List UInt8) (s : St) : after b s 0 = s := rfl
theorem after_end (b : List UInt8) (s : St) : add s (after b s 64) = comp s b := by
  have h : (K.zip (sched b)).length ≤ 64 := by rw [List.length_zip, sched_len]; exact Nat.min_le_right _ _
  unfold after comp
  rw [List.take_of_length_le h]
theorem after_succ (b : List UInt8) (s : St) {t : Nat} (h : t < 64) : after b s (t + 1) = rnd (after b s t) (K.getD t 0) ((sched b).getD t 0) := by
  have hk : K.length = 64 := rfl
  have hs := sched_len b
  have hl : t < (K.zip (sched b)).length := by rw [List.length_zip, hs, hk]; exact h
  unfold after
  rw [List.take_succ_eq_append_getElem hl, rnds_snoc]
  rw [List.getElem_zip]
  simp only [List.getD]
  rw [List.getElem?_eq_getElem (by omega), List.getElem?_eq_getElem (by omega)]
  rfl
/-- the sum of two states, as far as t words of each half -/
def mid (s v : St) (t : Nat) : List UInt32 := (List.range 8).map fun j => if j % 4 < t then s.list.getD j 0 + v.list.getD j 0 else s.list.getD j 0
theorem mid_len (s v : St) (t : Nat) : (mid s v t).length = 8 := by simp [mid]
theorem mid_zero (s v : St) : mid s v 0 = s.list := rfl
theorem mid_end (s v : St) : mid s v 4 = (add s v).list := rfl
theorem mid_set (s v : St) {t : Nat} (h : t < 4) : ((mid s v t).set t (s.list.getD t 0 + v.list.getD t 0)).set (t + 4) (s.list.getD (t + 4) 0 + v.list.getD (t + 4) 0) = mid s v (t + 1) := by
  rcases (by omega : t = 0 ∨ t = 1 ∨ t = 2 ∨ t = 3) with rfl | rfl | rfl | rfl <;> rfl
theorem mid_lo (s v : St) {t : Nat} (h : t < 4) : (mid s v t).getD t 0 = s.list.getD t 0 := by
  rcases (by omega : t = 0 ∨ t = 1 ∨ t = 2 ∨ t = 3) with rfl | rfl | rfl | rfl <;> rfl
theorem mid_hi (s v : St) {t : Nat} (h : t < 4) : (mid s v t).getD (t + 4) 0 = s.list.getD (t + 4) 0 := by
  rcases (by omega : t = 0 ∨ t = 1 ∨ t = 2 ∨ t = 3) with rfl | rfl | rfl | rfl <;> rfl
theorem half_lo (v : St) {t : Nat} (h : t < 4) : [v.a, v.b, v.c, v.d].getD t 0 = v.list.getD t 0 := by
  rcases (by omega : t = 0 ∨ t = 1 ∨ t = 2 ∨ t = 3) with rfl | rfl | rfl | rfl <;> rfl
theorem half_hi (v : St) {t : Nat} (h : t < 4) : [v.e, v.f, v.g, v.h].getD t 0 = v.list.getD (t + 4) 0 := by
  rcases (by omega : t = 0 ∨ t = 1 ∨ t = 2 ∨ t = 3) with rfl | rfl | rfl | rfl <;> rfl
/-- the sum of two states, as far as t words -/
def mid8 (s v : St) (t : Nat) : List UInt32 := (List.range 8).map fun j => if j < t then s.list.getD j 0 + v.list.getD j 0 else s.list.getD j 0
theorem mid8_len (s v : St) (t : Nat) : (mid8 s v t).length = 8 := by simp [mid8]
theorem mid8_zero (s v : St) : mid8 s v 0 = s.list := rfl
theorem mid8_end (s v : St) : mid8 s v 8 = (add s v).list := rfl
theorem mid8_set (s v : St) {t : Nat} (h : t < 8) : (mid8 s v t).set t (s.list.getD t 0 + v.list.getD t 0) = mid8 s v (t + 1) := by
  rcases (by omega : t = 0 ∨ t = 1 ∨ t = 2 ∨ t = 3 ∨ t = 4 ∨ t = 5 ∨ t = 6 ∨ t = 7) with rfl | rfl | rfl | rfl | rfl | rfl | rfl | rfl <;> rfl
theorem mid8_at (s v : St) {t : Nat} (h : t < 8) : (mid8 s v t).getD t 0 = s.list.getD t 0 := by
  rcases (by omega : t = 0 ∨ t = 1 ∨ t = 2 ∨ t = 3 ∨ t = 4 ∨ t = 5 ∨ t = 6 ∨ t = 7) with rfl | rfl | rfl | rfl | rfl | rfl | rfl | rfl <;> rfl
theorem list_len (s : St) : s.list.length = 8 := rfl
theorem outb_len (s : St) : (outb s).length = 32 := by simp [outb]
theorem sum_len (l : List UInt8) : (sum l).length = 32 := outb_len _
/-- the first t bytes, zeros behind -/
def outp (s : St) (t : Nat) : List UInt8 := (outb s).take t ++ List.replicate (32 - t) 0
theorem outp_zero (s : St) : outp s 0 = List.replicate 32 0 := by simp [outp]
theorem outp_end (s : St) : outp s 32 = outb s := by unfold outp; simp [List.take_of_length_le, outb_len]
theorem outp_len (s : St) {t : Nat} (h : t ≤ 32) : (outp s t).length = 32 := by unfold outp; simp [outb_len]; omega
theorem outp_set (s : St) {t : Nat} (h : t < 32) : (outp s t).set t (byteOf (s.list.getD (t / 4) 0) (t % 4)) = outp s (t + 1) := by
  have hl : ((outb s).take t).length = t := by simp [outb_len]; omega
  have hg : (outb s)[t]? = some (byteOf (s.list.getD (t / 4) 0) (t % 4)) := by
    unfold outb
    rw [List.getElem?_map, List.getElem?_range h, Option.map_some]
  unfold outp
  rw [List.set_append_right _ _ (by omega), hl, Nat.sub_self, show 32 - t = (31 - t) + 1 from by omega, List.replicate_succ, List.set_cons_zero, show 32 - (t + 1) = 31 - t from by omega, List.take_add_one, hg, Option.toList_some]
  simp
theorem K_len : K.length = 64 := rfl
end Sha
end
/-! Words of 32 bits in the walk: as Lean's own UInt32. No condition: plain lemmas over any program. -/
section
namespace U
open Go
theorem u32_lt (x : UInt32) : x.toNat < 4294967296 := by have := x.toNat_lt; simpa using this
theorem u8_lt (x : UInt8) : x.toNat < 256 := by have := x.toNat_lt; simpa using this
/-- a word's number, closed to the walk's simp -/
def uv (x : UInt32) : Int := x.toNat
theorem add (x y : UInt32) : IntKind.u32.wrap (uv x + uv y) = uv (x + y) := by
  unfold uv
  rw [IntKind.wrap_u32', UInt32.toNat_add]
  have := u32_lt x; have := u32_lt y
  simp only [Nat.reducePow]; omega
theorem xor (x y : UInt32) : bits .xor .u32 (uv x) (uv y) = uv (x ^^^ y) := by
  unfold uv
  rw [u32_xor_nat _ _ (u32_lt x) (u32_lt y), UInt32.toNat_xor]
theorem and (x y : UInt32) : bits .and .u32 (uv x) (uv y) = uv (x &&& y) := by
  unfold uv
  rw [u32_and_nat _ _ (u32_lt x) (u32_lt y), UInt32.toNat_and]
theorem or (x y : UInt32) : bits .or .u32 (uv x) (uv y) = uv (x ||| y) := by
  unfold uv
  rw [u32_or_nat _ _ (u32_lt x) (u32_lt y), UInt32.toNat_or]
theorem ones (x : UInt32) : x ^^^ 4294967295 = ~~~ x := by
  rw [← UInt32.toNat_inj, UInt32.toNat_xor, UInt32.toNat_not]
  have := u32_lt x
  rw [show (4294967295 : UInt32).toNat = 2 ^ 32 - 1 from rfl]
  show x.toNat ^^^ (2 ^ 32 - 1) = UInt32.size - 1 - x.toNat
  apply Nat.eq_of_testBit_eq
  intro i
  rw [Nat.testBit_xor, Nat.testBit_two_pow_sub_one]
  have e : UInt32.size - 1 - x.toNat = 2 ^ 32 - (x.toNat + 1) := by simp only [UInt32.size]; omega
  rw [e, Nat.testBit_two_pow_sub_succ (by simpa using this)]
  by_cases h : i < 32
  · simp [h]
  · have : x.toNat < 2 ^ i := Nat.lt_of_lt_of_le (by simpa using this) (Nat.pow_le_pow_right (by omega) (by omega) : 2 ^ 32 ≤ 2 ^ i)
    simp [h, Nat.testBit_lt_two_pow this]
theorem shr (x : UInt32) (k : Nat) (hk : k < 32) : uv x / 2 ^ k = uv (x >>> UInt32.ofNat k) := by
  unfold uv
  have e : (UInt32.ofNat k).toNat % 32 = k := by rw [UInt32.toNat_ofNat']; simp only [Nat.reducePow]; omega
  rw [UInt32.toNat_shiftRight, e, Nat.shiftRight_eq_div_pow]
  norm_cast
theorem shl (x : UInt32) (k : Nat) (hk : k < 32) : IntKind.u32.wrap (uv x * 2 ^ k) = uv (x <<< UInt32.ofNat k) := by
  unfold uv
  have e : (UInt32.ofNat k).toNat % 32 = k := by rw [UInt32.toNat_ofNat']; simp only [Nat.reducePow]; omega
  rw [IntKind.wrap_u32', UInt32.toNat_shiftLeft, e, Nat.shiftLeft_eq]
  have h : (x.toNat : Int) * 2 ^ k = ((x.toNat * 2 ^ k : Nat) : Int) := by push_cast; rfl
  rw [h]
  generalize x.toNat * 2 ^ k = z
  simp only [Nat.reducePow]
  omega
theorem conv8 (x : UInt8) : IntKind.u32.wrap (x.toNat : Int) = uv (Sha.w8 x) := by
  rw [IntKind.wrap_u32']
  unfold uv Sha.w8
  have := u8_lt x
  rw [UInt32.toNat_ofNat']
  simp only [Nat.reducePow]
  omega
theorem shl8 (x : UInt32) : IntKind.u32.wrap (uv x * (256 : Int)) = uv (x <<< 8) := by
  have := shl x 8 (by omega)
  simpa using this
theorem shl16 (x : UInt32) : IntKind.u32.wrap (uv x * (65536 : Int)) = uv (x <<< 16) := by
  have := shl x 16 (by omega)
  simpa using this
theorem shl24 (x : UInt32) : IntKind.u32.wrap (uv x * (16777216 : Int)) = uv (x <<< 24) := by
  have := shl x 24 (by omega)
  simpa using this
theorem not (x : UInt32) : bits .xor .u32 (if IntKind.u32.signed = true then -1 else IntKind.u32.max) (uv x) = uv (~~~ x) := by
  have h := u32_xor_nat 4294967295 x.toNat (by omega) (u32_lt x)
  rw [show IntKind.u32.signed = false from rfl, if_neg (by simp)]
  have hm : IntKind.u32.max = ((4294967295 : Nat) : Int) := rfl
  rw [hm]
  unfold uv
  rw [h, Nat.xor_comm, ← ones x, UInt32.toNat_xor]
  rfl
theorem add_mod (x y : UInt32) : (uv x + uv y) % (4294967296 : Int) = uv (x + y) := by rw [← add, IntKind.wrap_u32']
theorem xor_ones (x : UInt32) : bits .xor .u32 (uv x) (4294967295 : Int) = uv (~~~ x) := by
  have h := u32_xor_nat x.toNat 4294967295 (u32_lt x) (by omega)
  have hm : ((4294967295 : Nat) : Int) = 4294967295 := rfl
  rw [hm] at h
  unfold uv
  rw [h, ← ones x, UInt32.toNat_xor]
  rfl
theorem byteOf (x : UInt32) (i : Nat) (J : Nat) (hJ : J = 24 - 8 * i) : IntKind.u8.wrap (uv x / 2 ^ J) = ((Sha.byteOf x i).toNat : Int) := by
  subst hJ
  rw [IntKind.wrap_u8', Sha.byteOf, UInt8.toNat_ofNat']
  unfold uv
  have : (x.toNat : Int) / 2 ^ (24 - 8 * i) = ((x.toNat / 2 ^ (24 - 8 * i) : Nat) : Int) := by push_cast; rfl
  rw [this]
  simp only [Nat.reducePow]
  omega
theorem zero : uv 0 = 0 := rfl
theorem add4 (a b c d : UInt32) : (uv a + uv b + uv c + uv d) % (4294967296 : Int) = uv (a + b + c + d) := by
  rw [← add, ← add, ← add]
  simp only [IntKind.wrap_u32']
  omega
theorem shr3 (x : UInt32) : uv x / (8 : Int) = uv (x >>> 3) := by have := shr x 3 (by omega); simpa using this
theorem shr10 (x : UInt32) : uv x / (1024 : Int) = uv (x >>> 10) := by have := shr x 10 (by omega); simpa using this
end U
end
/-! The rotations: math/bits.RotateLeft32, digest's mix, the reference's rotr: walks. No condition. -/
section
open Go.RowKit
attribute [local go_sem] U.add U.xor U.and U.or
theorem and31 (k m : Nat) (h : k + m = 32) (h1 : 1 ≤ k) (h2 : 1 ≤ m) : bits .and .u64 (IntKind.u64.wrap (-(k : Int))) 31 = (m : Int) := by
  have e : IntKind.u64.wrap (-(k : Int)) = ((18446744073709551616 - k : Nat) : Int) := by
    rw [IntKind.wrap_u64]; omega
  rw [e]
  have := u64_and_nat (18446744073709551616 - k) 31 (by omega) (by omega)
  rw [show ((31 : Nat) : Int) = 31 from rfl] at this
  rw [this, show (31 : Nat) = 2 ^ 5 - 1 from rfl, Nat.and_two_pow_sub_one_eq_mod]
  omega
set_option maxHeartbeats 400000 in
theorem rotl_any (x : UInt32) (k : Nat) (h1 : 1 ≤ k) (h2 : k ≤ 31) (w : World) :
    Calls Tryd.prog 61 #[.int .u32 (U.uv x), .int .i64 (-(k : Int))] w fun e w' => e = .returned (.int .u32 (U.uv (Sha.rotr x k))) ∧ w = w' := by
  obtain ⟨m, hm⟩ : ∃ m, k + m = 32 := ⟨32 - k, by omega⟩
  have ha := and31 k m hm h1 (by omega)
  have hs : (32 : Int) - (m : Int) = (k : Int) := by omega
  have s1 := U.shl x m (by omega)
  have s2 := U.shr x k (by omega)
  have h3 : m ≤ 31 := by omega
  have hr : Sha.rotr x k = (x <<< UInt32.ofNat m) ||| (x >>> UInt32.ofNat k) := by
    unfold Sha.rotr; rw [show 32 - k = m from by omega, UInt32.or_comm]
  have HR := Lib.hid hr
  clear hm hr
  go_enter Tryd.func61, Tryd.ntmps61
  go_wp2
  go_ret
  rw [HR.out]
  exact ⟨rfl, rfl⟩
theorem rotl_z (x : UInt32) (z : Int) (k : Nat) (h1 : 1 ≤ k) (h2 : k ≤ 31) (hz : -(k : Int) = z) (w : World) :
    Calls Tryd.prog 61 #[.int .u32 (U.uv x), .int .i64 z] w fun e w' => e = .returned (.int .u32 (U.uv (Sha.rotr x k))) ∧ w = w' := by
  subst hz; exact rotl_any x k h1 h2 w
set_option maxHeartbeats 400000 in
theorem mix_any (x : UInt32) (i j k : Nat) (hi : 1 ≤ i ∧ i ≤ 31) (hj : 1 ≤ j ∧ j ≤ 31) (hk : 1 ≤ k ∧ k ≤ 31) (w : World) :
    Calls Tryd.prog 56 #[.int .u32 (U.uv x), .int .i64 (i : Int), .int .i64 (j : Int), .int .i64 (k : Int)] w fun e w' =>
      e = .returned (.int .u32 (U.uv (Sha.rotr x i ^^^ Sha.rotr x j ^^^ Sha.rotr x k))) ∧ w = w' := by
  obtain ⟨hi1, hi2⟩ := hi
  obtain ⟨hj1, hj2⟩ := hj
  obtain ⟨hk1, hk2⟩ := hk
  go_enter Tryd.func56, Tryd.ntmps56
  go_wp2_with fail
  refine (rotl_any x i hi1 hi2 _).mono ?_; rintro e w' ⟨rfl, rfl⟩
  go_wp2_with fail
  refine (rotl_any x j hj1 hj2 _).mono ?_; rintro e w' ⟨rfl, rfl⟩
  go_wp2_with fail
  refine (rotl_any x k hk1 hk2 _).mono ?_; rintro e w' ⟨rfl, rfl⟩
  go_wp2
  go_ret
  exact ⟨rfl, rfl⟩
theorem quiet_mix (x : UInt32) (i j k : Nat) (a b c : Int) (ha : (i : Int) = a) (hb : (j : Int) = b) (hc : (k : Int) = c) (hi : 1 ≤ i ∧ i ≤ 31) (hj : 1 ≤ j ∧ j ≤ 31) (hk : 1 ≤ k ∧ k ≤ 31) (w : World) (n : Nat) :
    Calls Tryd.prog 56 #[.int .u32 (U.uv x), .int .i64 a, .int .i64 b, .int .i64 c] (w.drewN n) fun e w' =>
      e = .returned (.int .u32 (U.uv (Sha.rotr x i ^^^ Sha.rotr x j ^^^ Sha.rotr x k))) ∧ ∃ m, w' = w.drewN m := by
  subst ha hb hc
  exact (mix_any x i j k hi hj hk (w.drewN n)).mono fun _ _ ⟨he, hm⟩ => ⟨he, n, hm.symm⟩
theorem quiet_mix2 (x : UInt32) (i j k : Nat) (a b c : Int) (ha : (i : Int) = a) (hb : (j : Int) = b) (hc : (k : Int) = c) (hi : 1 ≤ i ∧ i ≤ 31) (hj : 1 ≤ j ∧ j ≤ 31) (hk : 1 ≤ k ∧ k ≤ 31) (w : World) (q n : Nat) :
    Calls Tryd.prog 56 #[.int .u32 (U.uv x), .int .i64 a, .int .i64 b, .int .i64 c] (w.drewN (q + n)) fun e w' =>
      e = .returned (.int .u32 (U.uv (Sha.rotr x i ^^^ Sha.rotr x j ^^^ Sha.rotr x k))) ∧ ∃ m, w' = w.drewN (q + m) := by
  subst ha hb hc
  exact (mix_any x i j k hi hj hk (w.drewN (q + n))).mono fun _ _ ⟨he, hm⟩ => ⟨he, n, hm.symm⟩
set_option maxHeartbeats 400000 in
theorem rotr_any (x : UInt32) (k : Nat) (h1 : 1 ≤ k) (h2 : k ≤ 31) (w : World) :
    Calls Tryd.prog 35 #[.int .u32 (U.uv x), .int .i64 (k : Int)] w fun e w' => e = .returned (.int .u32 (U.uv (Sha.rotr x k))) ∧ ∃ n, w' = w.drewN n := by
  obtain ⟨m, hm⟩ : ∃ m, k + m = 32 := ⟨32 - k, by omega⟩
  have hs : IntKind.i64.wrap ((32 : Int) - (k : Int)) = (m : Int) := by rw [IntKind.wrap_i64]; omega
  have s1 := U.shl x m (by omega)
  have s2 := U.shr x k (by omega)
  have h3 : m ≤ 31 := by omega
  have hr : Sha.rotr x k = (x >>> UInt32.ofNat k) ||| (x <<< UInt32.ofNat m) := by
    unfold Sha.rotr; rw [show 32 - k = m from by omega]
  have HR := Lib.hid hr
  clear hm hr
  go_enter Tryd.func35, Tryd.ntmps35
  go_wp2
  go_quiet (fail)
  go_wp2
  go_ret
  rw [HR.out]
  exact ⟨rfl, ⟨_, rfl⟩⟩
end
/-! The message schedule of a block: walks of digest's schedule and the reference's words. -/
section
open Go.RowKit
attribute [local go_sem] U.add U.xor U.and U.or U.conv8 U.shl8 U.shr3 U.shr10
/-- the cells of a list of words -/
def wvs (l : List UInt32) : List Value := l.map fun x => .int .u32 (U.uv x)
theorem wvs_len (l : List UInt32) : (wvs l).length = l.length := by simp [wvs]
theorem wvs_get (l : List UInt32) (j : Nat) (h : j < l.length) : (wvs l)[j]? = some (.int .u32 (U.uv l[j])) := by simp [wvs, h]
theorem wvs_getD (l : List UInt32) (j : Nat) (h : j < l.length) : (wvs l)[j]? = some (.int .u32 (U.uv (l.getD j 0))) := by simp [wvs, h]
theorem wvs_set (l : List UInt32) (j : Nat) (x : UInt32) : (wvs l).set j (.int .u32 (U.uv x)) = wvs (l.set j x) := by simp [wvs, List.map_set]
theorem wvs_one (l : List UInt32) : (wvs l).all (·.oneCell') = true := by simp [wvs, Value.oneCell']
/-- the schedule's first t words, zeros behind -/
def part (b : List UInt8) (t : Nat) : List UInt32 := (Sha.sched b).take t ++ List.replicate (64 - t) 0
theorem part_len (b : List UInt8) {t : Nat} (h : t ≤ 64) : (part b t).length = 64 := by unfold part; simp [Sha.sched_len]; omega
theorem part_set (b : List UInt8) {t : Nat} (h : t < 64) (x y : UInt32) (hx : (Sha.sched b).take (t + 1) = (Sha.sched b).take t ++ [x]) : ((part b t).set t y).set t x = part b (t + 1) := by
  have hl : ((Sha.sched b).take t).length = t := by simp [Sha.sched_len]; omega
  unfold part
  rw [hx, List.set_set, List.set_append_right _ _ (by omega), hl, Nat.sub_self, show 64 - t = (63 - t) + 1 from by omega, List.replicate_succ, List.set_cons_zero, show 64 - (t + 1) = 63 - t from by omega]
  simp
theorem part_zero (b : List UInt8) : wvs (part b 0) = List.replicate 64 (.int .u32 0) := by simp [part, wvs, U.zero]
theorem part_end (b : List UInt8) : part b 64 = Sha.sched b := by unfold part; simp [List.take_of_length_le, Sha.sched_len]
theorem part_get (b : List UInt8) {t j : Nat} (h : j < t) (ht : t ≤ 64) : (part b t).getD j 0 = ((Sha.sched b).take t).getD j 0 := by
  unfold part
  simp only [List.getD]
  rw [List.getElem?_append_left (by simp [Sha.sched_len]; omega)]
theorem part_at (b : List UInt8) {t : Nat} (ht : t < 64) : (part b t).getD t 0 = 0 := by
  have hl : ((Sha.sched b).take t).length = t := by simp [Sha.sched_len]; omega
  unfold part
  simp only [List.getD]
  rw [List.getElem?_append_right (by omega), hl, Nat.sub_self, show 64 - t = (63 - t) + 1 from by omega, List.replicate_succ]
  rfl
theorem info64 : (Tryd.prog.info? 68).map (fun i => (i.zero, i.size)) = some (some (.agg (List.replicate 64 (Value.int .u32 0)).toArray), (List.replicate 64 (Value.int .u32 0)).length) := by kernel_rfl
theorem size64 : (Tryd.prog.info? 68).map (·.size) = some 64 := by kernel_rfl
theorem part_set0 (b : List UInt8) {t : Nat} (ht : t < 64) : (part b t).set t 0 = part b t := by
  have h := part_at b ht
  have hl := part_len b (t := t) (by omega)
  apply List.ext_getElem?
  intro j
  rw [List.getElem?_set]
  split
  · next e =>
    subst e
    simp only [List.getD] at h
    rw [if_pos (by omega)]
    rw [List.getElem?_eq_getElem (by omega)] at h ⊢
    simpa using h.symm
  · rfl
set_option maxRecDepth 100000 in
set_option maxHeartbeats 1000000 in
theorem schedule_any (A : Option Addr) (c : Nat) (b : List UInt8) (hb : b.length = 64) (B : Nat) (w : World) (hr : Rd w B 1 A 64 (bvs b)) (hB : B ≤ w.heap.size) (hc : 64 ≤ c) (hcm : c ≤ maxLen) :
    Calls Tryd.prog 55 #[.slice A 64 c] w fun e w' => e = .returned (.agg (wvs (Sha.sched b)).toArray) ∧ Below w.heap.size w w' := by
  unfold maxLen at hcm
  have tok1 : True := trivial
  have HLB := Lib.hid hb
  clear hb
  go_enter Tryd.func55, Tryd.ntmps55
  go_wp2_with (first
    | (have _t := tok1; refine wpList_allocRow rfl _ rfl _ info64 ?_; intro w1 r1 b1 z1; clear tok1)
    | (refine wpList_allocRow rfl _ rfl _ info64 ?_; intro w2 r2 b2 z2))
  rw [z1] at r2
  have hB2 : Below w.heap.size w w2 := b1.trans (b2.mono (by omega))
  have r1' := r1.below' b2
  rw [← part_zero b] at r2 r1'
  have H1 := Lib.hid z1; clear z1 r1 b1 b2 z2
  go_loopw [11] (fun i wr => ∃ t : Nat, t ≤ 64 ∧ i = .int .i64 t ∧ IsRow wr (w.heap.size + 1) 68 (wvs (part b t)) ∧ IsRow wr w.heap.size 68 (wvs (part b 0)) ∧ Below w.heap.size w wr)
    (fun i _ => 64 - (intOf i).toNat)
  case atStart => exact ⟨0, by omega, rfl, r2, r1', hB2⟩
  case round =>
    obtain ⟨t, ht, rfl, hw, hz, hbw⟩ := hrel
    clear r2 r1' hB2
    by_cases hlt : t < 64
    · by_cases h16 : t < 16
      · have hq : ((b.drop (4 * t)).take 4).length = 4 := by simp [HLB.out]; omega
        go_wp2_with (refine wpList_cut rfl (.tmp 16) (.tmp 18) (.tmp 21) 22 rfl 5 _ 1 1 bytesE A 64 c rfl (4 * t) (4 * t + 4) .i64 .i64 _ _ rfl rfl (by omega) (by omega) (by omega) (by omega) hc (hr.below (hbw.mono hB)) ?_; intro A' rd)
        have rd' : Rd wr B 1 A' 4 (bvs ((b.drop (4 * t)).take 4)) := by
          have e : 4 * t + 4 - 4 * t = 4 := by omega
          rw [e] at rd
          simpa [bvs, List.map_take, List.map_drop, Nat.mul_comm] using rd
        clear rd
        obtain ⟨bb, off, rfl, hbb, hcell⟩ := rd'.all (by omega)
        have hcw : ∀ k (hk : k < ((b.drop (4 * t)).take 4).length), w.cell? ⟨bb, off + k, none⟩ = some (.int .u8 (((b.drop (4 * t)).take 4)[k].toNat : Int)) :=
          fun k hk => (hbw.cell (p := ⟨bb, off + k, none⟩) (show bb < _ by omega)).symm.trans (hcell k hk)
        clear hcell rd'
        generalize hqq : (b.drop (4 * t)).take 4 = q at *
        have HQ := Lib.hid hq
        have HC := Lib.hid hcw
        have HQQ := Lib.hid hqq
        have hw0 : IsRow wr (w.heap.size + 1) 68 (wvs ((part b t).set t (Sha.acc (q.take 0)))) := by rw [List.take_zero]; show IsRow _ _ _ (wvs ((part b t).set t 0)); rw [part_set0 b hlt]; exact hw
        clear hcw hqq hq hw
        go_loopw [24] (fun j wr2 => ∃ k : Nat, k ≤ 4 ∧ j = .int .i64 k ∧ IsRow wr2 (w.heap.size + 1) 68 (wvs ((part b t).set t (Sha.acc (q.take k)))) ∧ IsRow wr2 w.heap.size 68 (wvs (part b 0)) ∧ Below w.heap.size w wr2)
          (fun j _ => 4 - (intOf j).toNat)
        case atStart => exact ⟨0, by omega, rfl, hw0, hz, hbw⟩
        case round =>
          obtain ⟨k, hk, rfl, hw, hz2, hb2⟩ := hrel
          clear hz hbw hw0
          by_cases hlk : k < 4
          · have hkq : k < q.length := by rw [HQ.out]; exact hlk
            have hc1 : wr.cell? ⟨bb, off + k, none⟩ = some (.int .u8 (q[k].toNat : Int)) := (hb2.cell (p := ⟨bb, off + k, none⟩) (show bb < _ by omega)).trans (HC.out k hkq)
            have hc2 : wr.cell? ⟨w.heap.size + 1, t, none⟩ = some (.int .u32 (U.uv (Sha.acc (q.take k)))) := by
              rw [hw.cell, wvs_get _ _ (by rw [List.length_set, part_len b ht]; exact hlt), List.getElem_set_self]
            have hc3 := hw.frozen t
            have hsn : Sha.acc (q.take (k + 1)) = (Sha.acc (q.take k) <<< 8) ||| Sha.w8 q[k] := by
              rw [List.take_succ_eq_append_getElem hkq, Sha.acc_snoc]
            have HSN := Lib.hid hsn
            have HKQ := Lib.hid hkq
            have hset := hw.set t (.int .u32 (U.uv (Sha.acc (q.take (k + 1)))))
            rw [wvs_set, List.set_set] at hset
            have hz3 := hz2.setOther (p := ⟨w.heap.size + 1, t, none⟩) (by simp) (.int .u32 (U.uv (Sha.acc (q.take (k + 1)))))
            have hb3 := hb2.setCell (p := ⟨w.heap.size + 1, t, none⟩) (by simp) (.int .u32 (U.uv (Sha.acc (q.take (k + 1)))))
            rw [hsn] at hz3 hset hb3
            clear hsn hw hz2
            generalize q[k] = x at *
            generalize Sha.acc (q.take k) = y at *
            go_wp2
            go_roundw
            case rel => exact ⟨k + 1, by omega, by go_num, by rw [HSN.out]; exact hset, hz3, hb3⟩
            case measure => simp [intOf]; omega
          · obtain rfl : k = 4 := by omega
            have hfin : (part b t).set t (Sha.acc (q.take 4)) = part b (t + 1) := by
              have h1 := Sha.sched_word b h16
              rw [HQQ.out] at h1
              have h2 := part_set b hlt _ 0 h1
              rw [List.set_set] at h2
              rw [List.take_of_length_le (by rw [HQ.out]; exact Nat.le_refl _)]
              exact h2
            rw [hfin] at hw
            have HW := Lib.hid hw
            clear hfin hw hlk
            go_wp2
            go_roundw
            case rel => exact ⟨t + 1, by omega, by go_num, HW.out, hz2, hb2⟩
            case measure => simp [intOf]; omega
      · have h16' : 16 ≤ t := by omega
        clear h16
        have cell : ∀ j, j < t → wr.cell? ⟨w.heap.size + 1, j, none⟩ = some (.int .u32 (U.uv (((Sha.sched b).take t).getD j 0))) := fun j hj => by
          rw [hw.cell, wvs_getD _ _ (by rw [part_len b ht]; omega), part_get b hj ht]
        have k1 := cell (t - 15) (by omega)
        have k2 := cell (t - 2) (by omega)
        have k3 := cell (t - 16) (by omega)
        have k4 := cell (t - 7) (by omega)
        clear cell
        have hx := Sha.sched_snoc b h16' hlt
        rw [Sha.nextw_of _ t (by simp [Sha.sched_len]; omega)] at hx
        have hset := hw.set t (.int .u32 (U.uv (((Sha.sched b).take t).getD (t - 16) 0 + Sha.s0 (((Sha.sched b).take t).getD (t - 15) 0) + ((Sha.sched b).take t).getD (t - 7) 0 + Sha.s1 (((Sha.sched b).take t).getD (t - 2) 0))))
        have h2 := part_set b hlt _ 0 hx
        rw [List.set_set] at h2
        rw [wvs_set, h2] at hset
        clear hx h2
        generalize ((Sha.sched b).take t).getD (t - 15) 0 = p at *
        generalize ((Sha.sched b).take t).getD (t - 2) 0 = q at *
        generalize ((Sha.sched b).take t).getD (t - 16) 0 = r at *
        generalize ((Sha.sched b).take t).getD (t - 7) 0 = s at *
        have hf := hw.frozen t
        have hex : wr.cell? ⟨w.heap.size + 1, t, none⟩ = some (.int .u32 (U.uv ((part b t).getD t 0))) := by rw [hw.cell, wvs_getD _ _ (by rw [part_len b ht]; omega)]
        generalize (part b t).getD t 0 = z0 at *
        have i1 : IntKind.i64.wrap ((t : Int) - 15) = (t : Int) - 15 := by rw [IntKind.wrap_i64]; omega
        have i2 : IntKind.i64.wrap ((t : Int) - 2) = (t : Int) - 2 := by rw [IntKind.wrap_i64]; omega
        have j1 : (0 : Int) ≤ (t : Int) - 15 := by omega
        have j2 : (0 : Int) ≤ (t : Int) - 2 := by omega
        have n1 : ((t : Int) - 15).toNat = t - 15 := by omega
        have n2 : ((t : Int) - 2).toNat = t - 2 := by omega
        have m1 : (t : Int) - 15 < 64 := by omega
        have m2 : (t : Int) - 2 < 64 := by omega
        have HW := Lib.hid hw
        clear hw
        go_wp2
        go_quiet (fail)
        have HK3 := Lib.hid k3
        have HK4 := Lib.hid k4
        clear i1 i2 j1 j2 n1 n2 m1 m2 k1 k2 k3 k4
        go_wp2_with fail
        have sp := U.shr3 p
        have sq := U.shr10 q
        refine (rotl_z _ (-7) 7 (by omega) (by omega) (by omega) _).mono ?_; rintro e w' ⟨rfl, rfl⟩
        go_wp2_with fail
        refine (rotl_z _ (-18) 18 (by omega) (by omega) (by omega) _).mono ?_; rintro e w' ⟨rfl, rfl⟩
        go_wp2_with fail
        refine (rotl_z _ (-17) 17 (by omega) (by omega) (by omega) _).mono ?_; rintro e w' ⟨rfl, rfl⟩
        go_wp2_with fail
        refine (rotl_z _ (-19) 19 (by omega) (by omega) (by omega) _).mono ?_; rintro e w' ⟨rfl, rfl⟩
        go_wp2
        clear sp sq
        have k3 := HK3.out
        have k4 := HK4.out
        have sm := U.add4 r (Sha.rotr p 7 ^^^ Sha.rotr p 18 ^^^ p >>> 3) s (Sha.rotr q 17 ^^^ Sha.rotr q 19 ^^^ q >>> 10)
        go_region
        clear k3 k4 sm
        go_wp2
        go_roundw
        case rel => exact ⟨t + 1, by omega, by go_num, hset, hz.setOther (p := ⟨w.heap.size + 1, t, none⟩) (by simp) _, (below_drewN hbw _).setCell (p := ⟨w.heap.size + 1, t, none⟩) (by simp) _⟩
        case measure => simp [intOf]; omega
    · obtain rfl : t = 64 := by omega
      rw [part_end] at hw
      have HB := Lib.hid hbw
      go_wp2_with (first
        | (refine wpList_loadRow rfl _ (.tmp 3) rfl hw rfl Tryd.underlying68 (by rw [wvs_len, Sha.sched_len]; exact size64) ?_)
        | (refine wpList_storeRow rfl _ (.tmp 2) (.tmp 78) rfl hz rfl rfl (by rw [wvs_len, Sha.sched_len]; exact size64) (by rw [wvs_len, wvs_len, Sha.sched_len, part_len _ (by omega)]) (wvs_one _) ?_; intro w3 r3 g3 z3))
      exact bodyPost_ret (resultRow rfl _ _ r3 rfl Tryd.underlying68 (by rw [wvs_len, Sha.sched_len]; exact size64)) rfl ⟨rfl, HB.out.grown g3 HB.out.size (by intro k hk; injection hk with hk; omega)⟩
end
/-! The message schedule of a block by the reference: a walk of words. -/
section
open Go.RowKit
attribute [local go_sem] U.add U.xor U.and U.or U.conv8 U.shl8 U.shr3 U.shr10 U.shl16 U.shl24
theorem quiet_rotr (x : UInt32) (k : Nat) (h1 : 1 ≤ k) (h2 : k ≤ 31) (z : Int) (hz : (k : Int) = z) (w : World) (n : Nat) :
    Calls Tryd.prog 35 #[.int .u32 (U.uv x), .int .i64 z] (w.drewN n) fun e w' => e = .returned (.int .u32 (U.uv (Sha.rotr x k))) ∧ ∃ m, w' = w.drewN m := by
  subst hz
  exact (rotr_any x k h1 h2 (w.drewN n)).mono fun _ _ ⟨he, m, hm⟩ => ⟨he, n + m, by rw [hm, World.drewN_drewN]⟩
theorem quiet_rotr2 (x : UInt32) (k : Nat) (h1 : 1 ≤ k) (h2 : k ≤ 31) (z : Int) (hz : (k : Int) = z) (w : World) (a n : Nat) :
    Calls Tryd.prog 35 #[.int .u32 (U.uv x), .int .i64 z] (w.drewN (a + n)) fun e w' => e = .returned (.int .u32 (U.uv (Sha.rotr x k))) ∧ ∃ m, w' = w.drewN (a + m) := by
  subst hz
  exact (rotr_any x k h1 h2 (w.drewN (a + n))).mono fun _ _ ⟨he, m, hm⟩ => ⟨he, n + m, by rw [hm, World.drewN_drewN, Nat.add_assoc]⟩
set_option maxRecDepth 100000 in
set_option maxHeartbeats 1000000 in
theorem words_any (A : Option Addr) (c : Nat) (b : List UInt8) (hb : b.length = 64) (B : Nat) (w : World) (hr : Rd w B 1 A 64 (bvs b)) (hB : B ≤ w.heap.size) :
    Calls Tryd.prog 34 #[.slice A 64 c] w fun e w' => e = .returned (.agg (wvs (Sha.sched b)).toArray) ∧ Below w.heap.size w w' := by
  obtain ⟨bb, off, rfl, hbb, hcell⟩ := hr.all (by omega)
  have tok1 : True := trivial
  have HLB := Lib.hid hb
  have HC := Lib.hid hcell
  clear hb hcell
  go_enter Tryd.func34, Tryd.ntmps34
  go_wp2_with (first
    | (have _t := tok1; refine wpList_allocRow rfl _ rfl _ info64 ?_; intro w1 r1 b1 z1; clear tok1)
    | (refine wpList_allocRow rfl _ rfl _ info64 ?_; intro w2 r2 b2 z2))
  rw [z1] at r2
  have hB2 : Below w.heap.size w w2 := b1.trans (b2.mono (by omega))
  have r1' := r1.below' b2
  rw [← part_zero b] at r2 r1'
  have H1 := Lib.hid z1; clear z1 r1 b1 b2 z2
  go_loopw [4] (fun i wr => ∃ t : Nat, t ≤ 16 ∧ i = .int .i64 t ∧ IsRow wr (w.heap.size + 1) 68 (wvs (part b t)) ∧ IsRow wr w.heap.size 68 (wvs (part b 0)) ∧ Below w.heap.size w wr)
    (fun i _ => 64 - (intOf i).toNat)
  case atStart => exact ⟨0, by omega, rfl, r2, r1', hB2⟩
  case round =>
    obtain ⟨t, ht, rfl, hw, hz, hbw⟩ := hrel
    clear r2 r1' hB2
    by_cases hlt : t < 16
    · have hq : ∀ j, j < 4 → 4 * t + j < b.length := fun j hj => by rw [HLB.out]; omega
      have hcw : ∀ j (hj : j < 4), wr.cell? ⟨bb, off + (4 * t + j), none⟩ = some (.int .u8 ((b[4 * t + j]'(hq j hj)).toNat : Int)) :=
        fun j hj => (hbw.cell (p := ⟨bb, off + (4 * t + j), none⟩) (show bb < _ by omega)).trans (HC.out _ (hq j hj))
      have c0 := hcw 0 (by omega)
      have c1 := hcw 1 (by omega)
      have c2 := hcw 2 (by omega)
      have c3 := hcw 3 (by omega)
      have hx := Sha.sched_word b hlt
      have e4 : (b.drop (4 * t)).take 4 = [b[4 * t + 0]'(hq 0 (by omega)), b[4 * t + 1]'(hq 1 (by omega)), b[4 * t + 2]'(hq 2 (by omega)), b[4 * t + 3]'(hq 3 (by omega))] := by
        apply List.ext_getElem
        · simp [HLB.out]; omega
        · intro i h1 h2
          simp at h2
          rcases (by omega : i = 0 ∨ i = 1 ∨ i = 2 ∨ i = 3) with rfl | rfl | rfl | rfl <;> simp
      rw [e4, Sha.acc4] at hx
      have h2 := part_set b (show t < 64 by omega) _ 0 hx
      rw [List.set_set] at h2
      have hset := hw.set t (.int .u32 (U.uv ((Sha.w8 (b[4 * t + 0]'(hq 0 (by omega))) <<< 24) ||| (Sha.w8 (b[4 * t + 1]'(hq 1 (by omega))) <<< 16) ||| (Sha.w8 (b[4 * t + 2]'(hq 2 (by omega))) <<< 8) ||| Sha.w8 (b[4 * t + 3]'(hq 3 (by omega))))))
      rw [wvs_set, h2] at hset
      clear hx h2 e4 hcw
      generalize b[4 * t + 0]'(hq 0 (by omega)) = x0 at *
      generalize b[4 * t + 1]'(hq 1 (by omega)) = x1 at *
      generalize b[4 * t + 2]'(hq 2 (by omega)) = x2 at *
      generalize b[4 * t + 3]'(hq 3 (by omega)) = x3 at *
      clear hq
      rw [Nat.add_zero] at c0
      have hf := hw.frozen t
      have hex : wr.cell? ⟨w.heap.size + 1, t, none⟩ = some (.int .u32 (U.uv ((part b t).getD t 0))) := by rw [hw.cell, wvs_getD _ _ (by rw [part_len b (by omega)]; omega)]
      generalize (part b t).getD t 0 = z0 at *
      have HW := Lib.hid hw
      clear hw
      have t0 : (0 : Int) ≤ (t : Int) := by omega
      have t1 : (t : Int) < 64 := by omega
      have i0 : IntKind.i64.wrap (4 * (t : Int)) = 4 * (t : Int) := by rw [IntKind.wrap_i64]; omega
      have i1 : IntKind.i64.wrap (4 * (t : Int) + 1) = 4 * (t : Int) + 1 := by rw [IntKind.wrap_i64]; omega
      have i2 : IntKind.i64.wrap (4 * (t : Int) + 2) = 4 * (t : Int) + 2 := by rw [IntKind.wrap_i64]; omega
      have i3 : IntKind.i64.wrap (4 * (t : Int) + 3) = 4 * (t : Int) + 3 := by rw [IntKind.wrap_i64]; omega
      have j0 : (0 : Int) ≤ 4 * (t : Int) := by omega
      have j1 : (0 : Int) ≤ 4 * (t : Int) + 1 := by omega
      have j2 : (0 : Int) ≤ 4 * (t : Int) + 2 := by omega
      have j3 : (0 : Int) ≤ 4 * (t : Int) + 3 := by omega
      have l0 : 4 * (t : Int) < 64 := by omega
      have l1 : 4 * (t : Int) + 1 < 64 := by omega
      have l2 : 4 * (t : Int) + 2 < 64 := by omega
      have l3 : 4 * (t : Int) + 3 < 64 := by omega
      have n0 : (4 * (t : Int)).toNat = 4 * t := by omega
      have n1 : (4 * (t : Int) + 1).toNat = 4 * t + 1 := by omega
      have n2 : (4 * (t : Int) + 2).toNat = 4 * t + 2 := by omega
      have n3 : (4 * (t : Int) + 3).toNat = 4 * t + 3 := by omega
      go_wp2
      go_still_tail 35, (by kernel_rfl)
      change wpList _ _ _ _ _ (World.drew _)
      clear i0 i1 i2 i3 j0 j1 j2 j3 l0 l1 l2 l3 n0 n1 n2 n3 c0 c1 c2 c3
      go_wp2
      go_roundw
      case rel => exact ⟨t + 1, by omega, by go_num, hset, hz.setOther (p := ⟨w.heap.size + 1, t, none⟩) (by simp) _, hbw.drew.setCell (p := ⟨w.heap.size + 1, t, none⟩) (by simp) _⟩
      case measure => simp [intOf]; omega
    · obtain rfl : t = 16 := by omega
      clear hlt ht HC hbb hr
      go_wp2
      go_loopw [5] (fun i wr => ∃ t : Nat, 16 ≤ t ∧ t ≤ 64 ∧ i = .int .i64 t ∧ IsRow wr (w.heap.size + 1) 68 (wvs (part b t)) ∧ IsRow wr w.heap.size 68 (wvs (part b 0)) ∧ Below w.heap.size w wr)
        (fun i _ => 64 - (intOf i).toNat)
      case atStart => exact ⟨16, by omega, by omega, rfl, hw, hz, hbw⟩
      case round =>
        obtain ⟨t, h16', ht, rfl, hw, hz, hbw⟩ := hrel
        by_cases hlt : t < 64
        · have cell : ∀ j, j < t → wr.cell? ⟨w.heap.size + 1, j, none⟩ = some (.int .u32 (U.uv (((Sha.sched b).take t).getD j 0))) := fun j hj => by
            rw [hw.cell, wvs_getD _ _ (by rw [part_len b ht]; omega), part_get b hj ht]
          have k1 := cell (t - 15) (by omega)
          have k2 := cell (t - 2) (by omega)
          have k3 := cell (t - 16) (by omega)
          have k4 := cell (t - 7) (by omega)
          clear cell
          have hx := Sha.sched_snoc b h16' hlt
          rw [Sha.nextw_of _ t (by simp [Sha.sched_len]; omega)] at hx
          have hset := hw.set t (.int .u32 (U.uv (((Sha.sched b).take t).getD (t - 16) 0 + Sha.s0 (((Sha.sched b).take t).getD (t - 15) 0) + ((Sha.sched b).take t).getD (t - 7) 0 + Sha.s1 (((Sha.sched b).take t).getD (t - 2) 0))))
          have h2 := part_set b hlt _ 0 hx
          rw [List.set_set] at h2
          rw [wvs_set, h2] at hset
          clear hx h2
          generalize ((Sha.sched b).take t).getD (t - 15) 0 = p at *
          generalize ((Sha.sched b).take t).getD (t - 2) 0 = q at *
          generalize ((Sha.sched b).take t).getD (t - 16) 0 = r at *
          generalize ((Sha.sched b).take t).getD (t - 7) 0 = s at *
          have hf := hw.frozen t
          have hex : wr.cell? ⟨w.heap.size + 1, t, none⟩ = some (.int .u32 (U.uv ((part b t).getD t 0))) := by rw [hw.cell, wvs_getD _ _ (by rw [part_len b ht]; omega)]
          generalize (part b t).getD t 0 = z0 at *
          have i1 : IntKind.i64.wrap ((t : Int) - 15) = (t : Int) - 15 := by rw [IntKind.wrap_i64]; omega
          have i2 : IntKind.i64.wrap ((t : Int) - 2) = (t : Int) - 2 := by rw [IntKind.wrap_i64]; omega
          have j1 : (0 : Int) ≤ (t : Int) - 15 := by omega
          have j2 : (0 : Int) ≤ (t : Int) - 2 := by omega
          have n1 : ((t : Int) - 15).toNat = t - 15 := by omega
          have n2 : ((t : Int) - 2).toNat = t - 2 := by omega
          have m1 : (t : Int) - 15 < 64 := by omega
          have m2 : (t : Int) - 2 < 64 := by omega
          have HW := Lib.hid hw
          clear hw
          have HK3 := Lib.hid k3
          have HK4 := Lib.hid k4
          clear k3 k4
          go_wp2
          go_quiet ((first | (go_at_call 35; exact quiet_rotr p 7 (by omega) (by omega) _ (by omega) _ _) | (go_at_call 35; exact quiet_rotr p 18 (by omega) (by omega) _ (by omega) _ _)))
          clear i1 j1 n1 m1 k1
          go_wp2
          go_quiet ((first | (go_at_call 35; exact quiet_rotr2 q 17 (by omega) (by omega) _ (by omega) _ _ _) | (go_at_call 35; exact quiet_rotr2 q 19 (by omega) (by omega) _ (by omega) _ _ _)))
          clear i2 j2 n2 m2 k2
          go_wp2
          have k3 := HK3.out
          have k4 := HK4.out
          have sm := U.add4 r (Sha.rotr p 7 ^^^ Sha.rotr p 18 ^^^ p >>> 3) s (Sha.rotr q 17 ^^^ Sha.rotr q 19 ^^^ q >>> 10)
          go_region
          clear k3 k4 sm
          go_wp2
          go_roundw
          case rel => exact ⟨t + 1, by omega, by omega, by go_num, hset, hz.setOther (p := ⟨w.heap.size + 1, t, none⟩) (by simp) _, (below_drewN hbw _).setCell (p := ⟨w.heap.size + 1, t, none⟩) (by simp) _⟩
          case measure => simp [intOf]; omega
        · obtain rfl : t = 64 := by omega
          rw [part_end] at hw
          have HB := Lib.hid hbw
          go_wp2_with (first
            | (refine wpList_loadRow rfl _ (.tmp 3) rfl hw rfl Tryd.underlying68 (by rw [wvs_len, Sha.sched_len]; exact size64) ?_)
            | (refine wpList_storeRow rfl _ (.tmp 2) (.tmp 100) rfl hz rfl rfl (by rw [wvs_len, Sha.sched_len]; exact size64) (by rw [wvs_len, wvs_len, Sha.sched_len, part_len _ (by omega)]) (wvs_one _) ?_; intro w3 r3 g3 z3))
          exact bodyPost_ret (resultRow rfl _ _ r3 rfl Tryd.underlying68 (by rw [wvs_len, Sha.sched_len]; exact size64)) rfl ⟨rfl, HB.out.grown g3 HB.out.size (by intro k hk; injection hk with hk; omega)⟩
end
/-! The padded message: a walk of the reference's padded. -/
section
open Go.RowKit
/-- an empty literal -/
theorem own_zero (w : World) (e : TypeId) (size base : Nat) (hb : base ≤ w.heap.size) : (w.alloc (.cells #[] e)).ownsRow base e size (.slice (some ⟨w.heap.size, 0, none⟩) 0 0) 0 [] :=
  ⟨by simp, .inr ⟨w.heap.size, 0, #[], rfl, hb, heap_alloc_new w _, Nat.le_refl _, by unfold maxLen; omega, by simp, by simp⟩⟩
/-- a slice's length -/
def slen (v : Value) : Nat := match v with | .slice _ n _ => n | _ => 0
namespace Sha
theorem zeros_lt (n : Nat) : zeros n < 64 := by unfold zeros; omega
theorem zeros_more {n j : Nat} (h : j < zeros n) : (n + 1 + j) % 64 ≠ 56 := by unfold zeros at h; omega
theorem zeros_end (n : Nat) : (n + 1 + zeros n) % 64 = 56 := by unfold zeros; omega
theorem zeros_unique {n j : Nat} (h : j ≤ zeros n) (h2 : (n + 1 + j) % 64 = 56) : j = zeros n := by unfold zeros at *; omega
theorem pad_len (l : List UInt8) : (pad l).length = l.length + 1 + zeros l.length + 8 := by simp [pad, be8]; omega
theorem pad_64 (l : List UInt8) : (pad l).length % 64 = 0 := by rw [pad_len]; have := zeros_end l.length; omega
theorem be8_take {n i : Nat} (h : i < 8) : (be8 n).take (i + 1) = (be8 n).take i ++ [UInt8.ofNat (n / 2 ^ (56 - 8 * i))] := by
  rcases (by omega : i = 0 ∨ i = 1 ∨ i = 2 ∨ i = 3 ∨ i = 4 ∨ i = 5 ∨ i = 6 ∨ i = 7) with rfl | rfl | rfl | rfl | rfl | rfl | rfl | rfl <;> simp [be8]
end Sha
theorem byte_of (x k : Nat) : IntKind.u8.wrap ((x : Int) / 2 ^ k) = ((UInt8.ofNat (x / 2 ^ k)).toNat : Int) := by
  rw [IntKind.wrap_u8', UInt8.toNat_ofNat']
  have : (x : Int) / 2 ^ k = ((x / 2 ^ k : Nat) : Int) := by push_cast; rfl
  rw [this]
  simp only [Nat.reducePow]
  omega
set_option maxHeartbeats 1000000 in
theorem padded_any (A : Option Addr) (n c : Nat) (l : List UInt8) (hl : l.length = n) (hn : n ≤ 1099511627776) (B : Nat) (w : World) (hr : Rd w B 1 A n (bvs l)) (hB : B ≤ w.heap.size) (N : Nat) (hN : (Sha.pad l).length = N) :
    Calls Tryd.prog 33 #[.slice A n c] w fun e w' => ∃ A' c', e = .returned (.slice A' N c') ∧ w'.ownsRow w.heap.size 5 1 (.slice A' N c') N (bvs (Sha.pad l)) ∧ Below w.heap.size w w' := by
  have hz := Sha.zeros_lt n
  have HN := Lib.hid hN
  have HL := Lib.hid hl
  clear hN hl
  have tok1 : True := trivial
  go_enter Tryd.func33, Tryd.ntmps33
  go_wp2_with (first
    | (at_builtin; have _t := tok1; refine wpList_appR rfl (.tmp 6) (.tmp 7) 22 rfl w.heap.size 5 _ 1 1 bytesE (some ⟨w.heap.size, 0, none⟩) 0 0 [] A n c (bvs l) rfl rfl (own_zero w _ 1 _ (Nat.le_refl _)) ((hr.more hB).alloc (Nat.le_refl _) _) (bvs_one _) ((Below.refl _ _).alloc (Nat.le_refl _) _) (by omega) (Nat.le_refl _) (by simp) ?_; intro A1 c1 w1 own1 hb1; simp only [Nat.zero_add, List.nil_append] at own1; clear tok1)
    | (at_builtin; (refine wpList_app1 rfl (.tmp 9) (.tmp 10) 22 rfl w.heap.size 5 _ 1 bytesE A1 n c1 _ _ rfl rfl own1 hb1 rfl (by omega) (Nat.le_refl _) hb1.size ?_); intro g2 c2 w2 own2 hb2 _))
  have own2' := (bvs_snoc l 128 (v := 128) rfl) ▸ own2
  go_loopw [3] (fun v wr => ∃ (k : Nat) (A' : Option Addr) (c' : Nat), k ≤ Sha.zeros n ∧ v = .slice A' (n + 1 + k) c' ∧ wr.ownsRow w.heap.size 5 1 (.slice A' (n + 1 + k) c') (n + 1 + k) (bvs (l ++ [128] ++ List.replicate k 0)) ∧ Below w.heap.size w wr)
    (fun v _ => n + 1 + Sha.zeros n - slen v)
  case atStart => exact ⟨0, _, c2, by omega, rfl, by simpa using own2', hb2⟩
  case round =>
    clear own1 own2 own2' hb2 hb1
    obtain ⟨k, A3, c3, hk, rfl, own3, hb3⟩ := hrel
    by_cases hlt : k < Sha.zeros n
    · have hm := Sha.zeros_more hlt
      have hm' : (((n : Int) + 1 + (k : Int)) % 64 != 56) = true := by rw [bne_iff_ne]; omega
      have hm'' : ((((n + 1 + k : Nat) : Int)) % 64 != 56) = true := by rw [bne_iff_ne]; omega
      have hm3 : ¬ (((n + 1 + k : Nat) : Int) % 64 = 56) := by omega
      clear hm
      go_wp2_with (at_builtin; refine wpList_app1 rfl (.tmp 16) (.tmp 17) 22 rfl w.heap.size 5 _ 1 bytesE A3 (n + 1 + k) c3 _ _ rfl rfl own3 hb3 rfl (by omega) (Nat.le_refl _) hb3.size ?_; intro g4 c4 w4 own4 hb4 _)
      have own5 := (bvs_snoc (l ++ [128] ++ List.replicate k 0) 0 (v := 0) rfl) ▸ own4
      rw [List.append_assoc, ← List.replicate_succ'] at own5
      go_roundw
      case rel => exact ⟨k + 1, _, c4, by omega, rfl, own5, hb4⟩
      case measure => simp [slen]; omega
    · obtain rfl : k = Sha.zeros n := by omega
      have hm := Sha.zeros_end n
      have hm' : ((((n + 1 + Sha.zeros n : Nat) : Int)) % 64 != 56) = false := by rw [bne_eq_false_iff_eq]; omega
      clear hm hlt hk
      generalize hZ : Sha.zeros n = z at *
      have hm2 : (((n : Int) + 1 + (z : Int)) % 64 != 56) = false := by
        have e : ((n : Int) + 1 + (z : Int)) = (((n + 1 + z : Nat) : Int)) := by push_cast; rfl
        rw [e]; exact hm'
      have HZ := Lib.hid hZ
      clear hZ
      go_wp2
      have own3' : wr.ownsRow w.heap.size 5 1 (.slice A3 (n + 1 + z + 0) c3) (n + 1 + z + 0) (bvs (l ++ [128] ++ List.replicate z 0 ++ (Sha.be8 (8 * n)).take 0)) := by simpa using own3
      go_loopw [3, 5] (fun v u wr => ∃ (i : Nat) (A' : Option Addr) (c' : Nat), i ≤ 8 ∧ u = .int .i64 i ∧ v = .slice A' (n + 1 + z + i) c' ∧ wr.ownsRow w.heap.size 5 1 (.slice A' (n + 1 + z + i) c') (n + 1 + z + i) (bvs (l ++ [128] ++ List.replicate z 0 ++ (Sha.be8 (8 * n)).take i)) ∧ Below w.heap.size w wr)
        (fun _ u _ => 8 - (intOf u).toNat)
      case atStart => exact ⟨0, A3, c3, by omega, rfl, rfl, own3', hb3⟩
      case round =>
        clear own3 own3' hb3 hm' hm2
        obtain ⟨i, A4, c4, hi, rfl, rfl, own4, hb4⟩ := hrel
        by_cases hlt : i < 8
        · have ht := Sha.be8_take (n := 8 * n) hlt
          obtain ⟨J, hJ⟩ : ∃ J, 56 - 8 * i = J := ⟨_, rfl⟩
          rw [hJ] at ht
          have hb := byte_of (8 * n) J
          have hj : (56 : Int) - 8 * (i : Int) = (J : Int) := by omega
          have hJ2 : J ≤ 56 := by omega
          rw [show (((8 * n : Nat)) : Int) = 8 * (n : Int) from by push_cast; rfl] at hb
          have HT := Lib.hid ht
          clear ht hJ
          generalize UInt8.ofNat (8 * n / 2 ^ J) = y at *
          go_wp2_with (at_builtin; refine wpList_app1 rfl (.tmp 27) (.tmp 34) 22 rfl w.heap.size 5 _ 1 bytesE A4 (n + 1 + z + i) c4 _ _ rfl rfl own4 hb4 rfl (by omega) (Nat.le_refl _) hb4.size ?_; intro g5 c5 w5 own5 hb5 _)
          have own6 := (bvs_snoc (l ++ [128] ++ List.replicate z 0 ++ (Sha.be8 (8 * n)).take i) y (v := _) rfl) ▸ own5
          rw [List.append_assoc, ← HT.out] at own6
          go_roundw
          case rel => exact ⟨i + 1, _, c5, by omega, by go_num, rfl, own6, hb5⟩
          case measure => simp [intOf]; omega
        · obtain rfl : i = 8 := by omega
          have hp : l ++ [128] ++ List.replicate z 0 ++ (Sha.be8 (8 * n)).take 8 = Sha.pad l := by rw [← HZ.out, ← HL.out]; rfl
          have hNN : n + 1 + z + 8 = N := by rw [← HN.out, ← HZ.out, ← HL.out, Sha.pad_len]
          rw [hp, hNN] at own4
          have HP := Lib.hid hNN
          clear hp hNN
          go_wp2
          go_ret
          rw [HP.out]
          exact ⟨A4, c4, rfl, own4, hb4⟩
end
end Go.Proofs.YtfnbcchmembomaaDoor
