/- Walks of layer 1's decoders of lengths and byte strings, the program's and the reference's. Conditions: the slice reads as a list of at most 2^40 bytes. -/
import Derived.Test.YtcicfneekmbamaaRefGetInt
import Derived.Test.YtcicfneekmbamaaWireDecPlain
namespace Go.Proofs.Ytcicfneekmbamaa
set_option linter.unusedVariables false
set_option linter.unusedSimpArgs false
open Go.RowKit

theorem refGetInt_any (A : Option Addr) (c : Nat) (b : List UInt8) (w : World) (B : Nat) (hB : B ≤ w.heap.size) (hr : Rd w B 1 A b.length (bvs b)) (hL : b.length ≤ 1099511627776) (hc : b.length ≤ c) (hcm : c ≤ maxLen)
    (n : Int) (u : Nat) (er : Int) (hd : Wire.dec b = (n, u, er)) :
    Calls Try.prog 88 #[.slice A b.length c] w fun e w' => e = .returned (.tuple #[.int .i64 n, .int .i64 u, .int .i64 er]) ∧ Below w.heap.size w w' := by
  cases b with
  | nil =>
    simp only [Wire.dec, Prod.mk.injEq] at hd
    obtain ⟨rfl, rfl, rfl⟩ := hd
    go_enter Try.func88, Try.ntmps88
    go_wp2
    go_ret3
    exact ⟨rfl, Below.refl _ _⟩
  | cons x t =>
    obtain ⟨bb, off, rfl, hbb, h0, ht⟩ := hr.get0
    have hl : (x :: t).length = t.length + 1 := rfl
    rw [hl] at hL hc ⊢
    have key : Calls Try.prog 88 #[.slice (some ⟨bb, off, none⟩) (t.length + 1) c] w fun e w' =>
        e = .returned (.tuple #[.int .i64 (Wire.dec (x :: t)).1, .int .i64 ((Wire.dec (x :: t)).2.1 : Nat), .int .i64 (Wire.dec (x :: t)).2.2]) ∧ Below w.heap.size w w' := by
      cases hneg : decide (x < 128)
      · exact refGetInt_false bb off c x t w (by omega) hc hcm (by omega) h0 ht hneg
      · exact refGetInt_true bb off c x t w (by omega) hc hcm (by omega) h0 ht hneg
    rw [hd] at key
    exact key

/-- the test of a count, as the program makes it -/
theorem quo_test {L u k size : Nat} (hs : 1 ≤ size) (hu : u ≤ L) : (((L : Int) - u) / (size : Int) < (k : Int)) ↔ L - u < k * size := by
  have e : ((L : Int) - u) = ((L - u : Nat) : Int) := by omega
  rw [e, ← Int.natCast_ediv, Int.ofNat_lt, Nat.div_lt_iff_lt_mul (by omega)]

end Go.Proofs.Ytcicfneekmbamaa
