/- The reference's Inputs, whatever the index and the proof. -/
import Derived.Test.YtfnbcchmembomaaDoorRefIn
import Derived.Test.YtfnbcchmembomaaDoorPairP
namespace Go.Proofs.YtfnbcchmembomaaDoor
set_option linter.unusedVariables false
set_option linter.unusedSimpArgs false
open Go.RowKit
theorem refInputs_any (d : List UInt8) (hd : d.length = 16) : ∀ (n i : Nat) (pl c : Nat) (A : Option Addr) (proof : List (List UInt8)), proof.length = pl → D16 proof → i < n → n ≤ 9223372036854775807 → pl ≤ c → c ≤ 9223372036854775807 → pl ≤ 1099511627776 → ∀ (B : Nat) (w : World), Rd w B 16 A pl (dvs proof) → B ≤ w.heap.size → RTab w →
    (pl = (Mk.steps 0 n i).length → Calls Tryd.prog 24 #[.int .i64 (n : Int), .int .i64 (i : Int), dv d, .slice A pl c] w (InOk (Mk.ins d (Mk.sides n i) proof pl) pl w)) ∧
    (pl ≠ (Mk.steps 0 n i).length → Calls Tryd.prog 24 #[.int .i64 (n : Int), .int .i64 (i : Int), dv d, .slice A pl c] w (InNo w)) := by
  intro n
  induction n using Nat.strongRecOn with
  | ind n ih =>
    intro i pl c A proof hpl hp hin hn hpc hcm hp40 B w hr hB hT
    by_cases h1 : n = 1
    · subst h1
      obtain rfl : i = 0 := by omega
      rw [Mk.steps_one 0 0 (Nat.le_refl _), Mk.sides_one 0 (Nat.le_refl _)]
      refine ⟨fun h => ?_, fun h => refIn_one' d hd A pl c h w⟩
      have h : pl = 0 := h
      subst h
      rw [Mk.ins_zero]
      exact refIn_one d hd A c w
    · have h2 : 2 ≤ n := by omega
      have hs1 := Mk.split_pos n
      have hs2 := Mk.split_lt h2
      rcases Mk.snoc_cases proof with rfl | ⟨rest, last, rfl⟩
      · simp at hpl
        subst hpl
        refine ⟨fun h => ?_, fun _ => refIn_empty n i h2 hin d A c w⟩
        by_cases hi : i < Mk.split n
        · rw [Mk.steps_lo 0 h2 hi] at h; simp at h
        · rw [Mk.steps_hi 0 h2 hi] at h; simp at h
      · obtain ⟨q, rfl⟩ : ∃ q, pl = q + 1 := ⟨rest.length, by simpa using hpl.symm⟩
        have hrl : rest.length = q := by simpa using hpl
        obtain ⟨bp, offp, rfl, hbp, _⟩ := hr.2 (by omega)
        have hbp : bp < w.heap.size := by omega
        have hl16 : last.length = 16 := hp last (by simp)
        have hdr : D16 rest := fun d h => hp d (by simp [h])
        have hrg : w.rangeAt bp (offp + q * 16) (bvs last) := by
          have := Rd.ranges hp hpl hr q (by omega)
          have e : (rest ++ [last]).getD q [] = last := by rw [List.getD, List.getElem?_append_right (by omega), hrl]; simp
          rwa [e] at this
        have hrr : Rd w B 16 (some ⟨bp, offp, none⟩) q (dvs rest) := by
          have := hr.first hp (k := q) (by omega)
          rwa [List.take_left' hrl] at this
        by_cases hi : i < Mk.split n
        · have hst : (Mk.steps 0 n i).length = (Mk.steps 0 (Mk.split n) i).length + 1 := by rw [← Mk.sides_count, ← Mk.sides_count, Mk.sides_lo h2 hi]; simp
          have hI := fun (W : World) (hW : Below w.heap.size w W) => ih (Mk.split n) hs2 i q c (some ⟨bp, offp, none⟩) rest hrl hdr hi (by omega) (by omega) hcm (by omega) B W (hrr.below (hW.mono hB)) (Nat.le_trans hB hW.size) (hT.below hW)
          refine ⟨fun h => ?_, fun h => refIn_lo_no n i q c bp offp h2 hn hi d hd last hl16 hpc (by omega) hcm w hrg hbp (fun W hW => (hI W hW).2 (by omega))⟩
          have hq : q = (Mk.steps 0 (Mk.split n) i).length := by omega
          have h63 := Mk.steps_63 0 (Mk.split n) i (by omega)
          have hsl : (Mk.sides (Mk.split n) i).length = q := by rw [Mk.sides_count]; omega
          rw [Mk.sides_lo h2 hi, Mk.ins_snoc d _ false rest last q hsl hrl]
          have hx := Mk.ins_get d (Mk.sides (Mk.split n) i) rest q q (Nat.le_refl _)
          have hle := Mk.climb_le d hd (Mk.sides (Mk.split n) i) rest hdr q (by omega) (by omega)
          rw [Mk.climb_done _ _ _ _ (by omega)] at hx hle
          exact refIn_lo n i q c bp offp h2 hn hi d hd last hl16 hpc (by omega) hcm w hrg hbp _ _ hx hle (Mk.ins_len _ _ _ _) (by omega) hT (fun W hW => (hI W hW).1 hq)
        · have hst : (Mk.steps 0 n i).length = (Mk.steps 0 (n - Mk.split n) (i - Mk.split n)).length + 1 := by rw [← Mk.sides_count, ← Mk.sides_count, Mk.sides_hi h2 hi]; simp
          have hI := fun (W : World) (hW : Below w.heap.size w W) => ih (n - Mk.split n) (by omega) (i - Mk.split n) q c (some ⟨bp, offp, none⟩) rest hrl hdr (by omega) (by omega) (by omega) hcm (by omega) B W (hrr.below (hW.mono hB)) (Nat.le_trans hB hW.size) (hT.below hW)
          rw [show ((i - Mk.split n : Nat) : Int) = (i : Int) - (Mk.split n : Int) from by omega, show ((n - Mk.split n : Nat) : Int) = (n : Int) - (Mk.split n : Int) from by omega] at hI
          refine ⟨fun h => ?_, fun h => refIn_hi_no n i q c bp offp h2 hn hi hin d hd last hl16 hpc (by omega) hcm w hrg hbp (fun W hW => (hI W hW).2 (by omega))⟩
          have hq : q = (Mk.steps 0 (n - Mk.split n) (i - Mk.split n)).length := by omega
          have h63 := Mk.steps_63 0 (n - Mk.split n) (i - Mk.split n) (by omega)
          have hsl : (Mk.sides (n - Mk.split n) (i - Mk.split n)).length = q := by rw [Mk.sides_count]; omega
          rw [Mk.sides_hi h2 hi, Mk.ins_snoc d _ true rest last q hsl hrl]
          have hx := Mk.ins_get d (Mk.sides (n - Mk.split n) (i - Mk.split n)) rest q q (Nat.le_refl _)
          have hle := Mk.climb_le d hd (Mk.sides (n - Mk.split n) (i - Mk.split n)) rest hdr q (by omega) (by omega)
          rw [Mk.climb_done _ _ _ _ (by omega)] at hx hle
          exact refIn_hi n i q c bp offp h2 hn hi hin d hd last hl16 hpc (by omega) hcm w hrg hbp _ _ hx hle (Mk.ins_len _ _ _ _) (by omega) hT (fun W hW => (hI W hW).1 hq)
end Go.Proofs.YtfnbcchmembomaaDoor
