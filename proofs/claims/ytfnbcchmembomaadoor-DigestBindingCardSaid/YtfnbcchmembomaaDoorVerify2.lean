/- digest.Verify, whatever the index and the proof. -/
import Derived.Test.YtfnbcchmembomaaDoorVerify
namespace Go.Proofs.YtfnbcchmembomaaDoor
set_option linter.unusedVariables false
set_option linter.unusedSimpArgs false
open Go.RowKit
namespace Mk
def verify (r : List UInt8) (n i : Int) (d : List UInt8) (pr : List (List UInt8)) : Bool :=
  if 0 ≤ i ∧ i < n then (if pr.length = (steps 0 n.toNat i.toNat).length then short (climb (leaf d) ((sides n.toNat i.toNat).zip pr)) == r else false) else false
end Mk
theorem verify_any (n i : Int) (hn : n ≤ 9223372036854775807) (r d : List UInt8) (hr : r.length = 16) (hd : d.length = 16) (A : Option Addr) (m c : Nat) (proof : List (List UInt8)) (hpl : proof.length = m) (hp : D16 proof) (B : Nat) (w : World) (hrd : Rd w B 16 A m (dvs proof)) (hB : B ≤ w.heap.size) (hT : Tabs w) :
    Calls Tryd.prog 26 #[dv r, .int .i64 n, .int .i64 i, dv d, .slice A m c] w fun e w' => e = .returned (.bool (Mk.verify r n i d proof)) ∧ Below w.heap.size w w' := by
  by_cases hi : 0 ≤ i ∧ i < n
  · obtain ⟨n', rfl⟩ : ∃ n' : Nat, n = n' := ⟨n.toNat, by omega⟩
    obtain ⟨i', rfl⟩ : ∃ i' : Nat, i = i' := ⟨i.toNat, by omega⟩
    have hi' : i' < n' := by omega
    unfold Mk.verify
    rw [if_pos hi, Int.toNat_natCast, Int.toNat_natCast]
    by_cases hl : m = (Mk.steps 0 n' i').length
    · rw [if_pos (by rw [hpl, hl])]
      have h63 := Mk.steps_63 0 n' i' (by omega)
      have hsl : (Mk.sides n' i').length = m := by unfold Mk.sides; simp [hl]
      have hx := Mk.ins_get d (Mk.sides n' i') proof m m (Nat.le_refl _)
      have hle := Mk.climb_le d hd (Mk.sides n' i') proof hp m (by omega) (by omega)
      rw [Mk.climb_done _ _ _ _ (by omega)] at hx hle
      exact verify_yes n' i' m r d _ w _ _ hx hle (by omega) hd hr hT (fun W hW => inputs_any n' i' hi' (by omega) d hd A m c proof hpl hp hl B W (hrd.below (hW.mono hB)) (by have := hW.size; omega) (hT.below hW))
    · rw [if_neg (by rw [hpl]; exact hl)]
      exact verify_no n' i' r d _ w (fun W => inputs_len n' i' hi' (by omega) d A m c hl W) hd
  · unfold Mk.verify
    rw [if_neg hi]
    exact verify_no n i r d _ w (fun W => inputs_out n i (by omega) d hd _ W) hd
end Go.Proofs.YtfnbcchmembomaaDoor
