/- slices.Grow of the nil slice, at bytes, by the library's contract (its lay by name). No condition. -/
import Derived.Shelf.Spec.SlicesGrow
import Derived.Test.YtkjomnakolhdcaaDoorProg
import Derived.Test.YtkjomnakolhdcaaDoorBase
import Derived.Test.YtkjomnakolhdcaaDoorMaps
namespace Go.Proofs
set_option linter.unusedVariables false
set_option linter.unusedSimpArgs false
open Go.Shelf
def Tryd.growB_ren : Go.Shelf.Ren := ⟨fun | 4 => 83 | n => n, fun | 0 => 0 | 3 => 3 | 4 => 4 | 9 => 9 | 20 => 20 | 22 => 58 | 25 => 5 | n => n, fun | n => n⟩
theorem Tryd.growB : Go.Proofs.Lays8.n4 Tryd.prog Tryd.growB_ren := {
  mixed := by kernel_rfl
  f4 := ⟨ "slices.Grow[[]byte,byte]", by kernel_rfl, Tryd.func83.trans (congrArg some (by kernel_rfl))⟩
  t0 := Tryd.underlying0
  a0 := Tryd.isAgg0
  z0 := Tryd.sizeOf0
  v0 := Tryd.zeroValue0
  t3 := Tryd.underlying3
  a3 := Tryd.isAgg3
  z3 := Tryd.sizeOf3
  v3 := Tryd.zeroValue3
  t4 := Tryd.underlying4
  a4 := Tryd.isAgg4
  z4 := Tryd.sizeOf4
  v4 := Tryd.zeroValue4
  t9 := Tryd.underlying9
  a9 := Tryd.isAgg9
  z9 := Tryd.sizeOf9
  v9 := Tryd.zeroValue9
  t20 := Tryd.underlying20
  a20 := Tryd.isAgg20
  z20 := Tryd.sizeOf20
  v20 := Tryd.zeroValue20
  t22 := Tryd.underlying58
  a22 := Tryd.isAgg58
  z22 := Tryd.sizeOf58
  v22 := Tryd.zeroValue58 }
end Go.Proofs
namespace Go.Proofs.YtkjomnakolhdcaaDoor
open Go.RowKit
theorem byteT : ElemT Tryd.prog 58 5 (.int .u8 0) 1 1 := ⟨Tryd.underlying58, by kernel_rfl, rfl, by decide, by decide⟩
/-- Grow of the nil slice: an empty row of the call's own, with room -/
theorem growB_any (n : Nat) (hn : n ≤ 1099511627776) (w : World) : Calls Tryd.prog 83 #[.slice none 0 0, .int .i64 (n : Int)] w fun e w' => ∃ A c, e = .returned (.slice A 0 c) ∧ w'.ownsRow w.heap.size 5 1 (.slice A 0 c) 0 [] ∧ Below w.heap.size w w' := by
  rcases Nat.eq_zero_or_pos n with h0 | h0
  · subst h0
    refine (Any8.slices_Grow_room Tryd.growB none 0 0 0 w (by omega) (by omega) (by omega) (by omega)).mono ?_
    rintro e w' ⟨rfl, rfl⟩
    exact ⟨none, 0, rfl, World.ownsRow_nil _ _ _ _, Below.refl _ _⟩
  · have hi := byteT.info
    cases h : Tryd.prog.info? 5 with
    | none => rw [h] at hi; simp at hi
    | some i =>
      rw [h] at hi
      simp only [Option.map_some, Option.some.injEq, Prod.mk.injEq] at hi
      obtain ⟨hz, hs, hb⟩ := hi
      refine (Any8.slices_Grow_grow Tryd.growB i (.int .u8 0) h hz (by omega) none 0 0 n [] w (by omega) (by omega) (by rw [hb]; omega) (by omega) (by simp) (fun _ => rfl) (fun a ha => by cases ha)).mono ?_
      rintro e w' ⟨rfl, rfl⟩
      have hc1 := grownCap_ge w (0 + n) 0 (Tryd.growB_ren.t 25)
      have hc2 := grownCap_le_maxLen w (0 + n) 0 (Tryd.growB_ren.t 25) (by unfold maxLen; omega)
      refine ⟨_, _, rfl, ⟨rfl, Or.inr ⟨w.heap.size, _, _, rfl, Nat.le_refl _, heap_alloc_new w.drew _, Nat.zero_le _, hc2, ?_, rfl⟩⟩, (Below.refl _ _).drew.alloc (Nat.le_refl _) _⟩
      have hz1 : (Value.int IntKind.u8 0).cells.size = 1 := rfl
      rw [Array.size_append, Array.size_append, size_zeroCells, size_zeroCells, hz1]
      simp only [Nat.zero_add] at hc1 ⊢
      simp
      omega
end Go.Proofs.YtkjomnakolhdcaaDoor
