/- Walks of layer 1's encoders of byte strings and lists of integers, the program's and the reference's. Conditions: the elements fit an int, the lengths stay below 2^40. -/
import Derived.Test.YtfnbcchmembomaaDoorWireInt
import Derived.Test.YtfnbcchmembomaaDoorRefInt
import Derived.Test.YtfnbcchmembomaaDoorWireDecPlain
namespace Go.Proofs.YtfnbcchmembomaaDoor
set_option linter.unusedVariables false
set_option linter.unusedSimpArgs false
open Go.RowKit

namespace Wire
theorem flat_len (l : List Int) : (l.flatMap enc).length ≤ 9 * l.length := by
  induction l with
  | nil => simp
  | cons x l ih => have := enc_length_le x; simp only [List.flatMap_cons, List.length_append, List.length_cons]; omega
theorem flat_take_len (l : List Int) (k : Nat) : ((l.take k).flatMap enc).length ≤ 9 * l.length := by
  have := flat_len (l.take k)
  have h : (l.take k).length ≤ l.length := by rw [List.length_take]; omega
  omega
theorem flat_snoc {l : List Int} {k : Nat} (hk : k < l.length) : (l.take (k + 1)).flatMap enc = (l.take k).flatMap enc ++ enc l[k] := by
  rw [List.take_succ_eq_append_getElem hk, List.flatMap_append]; simp
end Wire
/-- what holds of a list of ints that fit -/
def I64s (l : List Int) : Prop := ∀ x ∈ l, -9223372036854775808 ≤ x ∧ x ≤ 9223372036854775807
theorem I64s.get {l : List Int} (h : I64s l) {k : Nat} (hk : k < l.length) : -9223372036854775808 ≤ l[k] ∧ l[k] ≤ 9223372036854775807 := h _ (List.getElem_mem hk)
theorem bvs_append (l r : List UInt8) : bvs l ++ bvs r = bvs (l ++ r) := by simp [bvs]

set_option maxHeartbeats 400000 in
theorem wireBytes_any (s : ByteArray) (hs : s.size ≤ 1099511627776) (w : World) :
    Calls Tryd.prog 57 #[.string s] w fun e w' => ∃ A c, e = .returned (.slice A (Wire.encB s.data.toList).length c) ∧
      w'.ownsRow w.heap.size 5 1 (.slice A (Wire.encB s.data.toList).length c) (Wire.encB s.data.toList).length (bvs (Wire.encB s.data.toList)) ∧ Below w.heap.size w w' := by
  have hl : s.data.toList.length = s.size := by simp
  have HE : Hid (Wire.encB s.data.toList = Wire.enc s.size ++ s.data.toList) := by show _ = _; rw [Wire.encB, hl]
  have HL : Hid ((Wire.encB s.data.toList).length = (Wire.enc s.size).length + s.size) := by show _ = _; rw [HE.out, List.length_append, hl]
  have h9 := Wire.enc_length_le s.size
  clear hl
  go_enter Tryd.func57, Tryd.ntmps57
  go_wp2_with (first
    | (go_at_call 62; refine (wireInt_any _ (by omega) (by omega) _).mono ?_; rintro e w1 ⟨A1, c1, rfl, hown1, hb1⟩)
    | (at_builtin; refine wpList_appS rfl (.tmp 5) (.tmp 6) 22 9 rfl Tryd.underlying9 w.heap.size 5 bytesE A1 _ c1 _ s rfl rfl hown1 hb1 (by omega) (Nat.le_refl _) hb1.size ?_; intro A2 c2 w2 hown2 hb2))
  go_ret
  refine ⟨A2, c2, by rw [HL.out]; rfl, ?_, hb2⟩
  rw [HL.out, HE.out, ← bvs_append]
  exact hown2
set_option maxHeartbeats 400000 in
theorem refBytes_any (s : ByteArray) (hs : s.size ≤ 1099511627776) (w : World) :
    Calls Tryd.prog 58 #[.string s] w fun e w' => ∃ A c, e = .returned (.slice A (Wire.encB s.data.toList).length c) ∧
      w'.ownsRow w.heap.size 5 1 (.slice A (Wire.encB s.data.toList).length c) (Wire.encB s.data.toList).length (bvs (Wire.encB s.data.toList)) ∧ Below w.heap.size w w' := by
  have hl : s.data.toList.length = s.size := by simp
  have HE : Hid (Wire.encB s.data.toList = Wire.enc s.size ++ s.data.toList) := by show _ = _; rw [Wire.encB, hl]
  have HL : Hid ((Wire.encB s.data.toList).length = (Wire.enc s.size).length + s.size) := by show _ = _; rw [HE.out, List.length_append, hl]
  have h9 := Wire.enc_length_le s.size
  clear hl
  go_enter Tryd.func58, Tryd.ntmps58
  go_wp2_with (first
    | (go_at_call 63; refine (refInt_any _ (by omega) (by omega) _).mono ?_; rintro e w1 ⟨A1, c1, rfl, hown1, hb1⟩)
    | (with_reducible refine wpList_ofS rfl (.tmp 6) 9 22 5 rfl Tryd.underlying9 Tryd.underlying22 Tryd.underlying5 s rfl ?_; intro A3 c3 w3 hr3 hb3)
    | (at_builtin; refine wpList_appR rfl (.tmp 5) (.tmp 7) 22 rfl w.heap.size 5 _ 1 1 bytesE A1 _ c1 _ A3 _ c3 _ rfl rfl (own_below hown1 hb3) hr3 (bvs_one _) (hb1.trans (hb3.mono hb1.size)) (by omega) (Nat.le_refl _) (Nat.le_trans hb1.size hb3.size) ?_; intro A2 c2 w2 hown2 hb2))
  go_ret
  refine ⟨A2, c2, by rw [HL.out]; rfl, ?_, hb2⟩
  rw [HL.out, HE.out, ← bvs_append]
  exact hown2
end Go.Proofs.YtfnbcchmembomaaDoor
