/- Walks of layer 1's encoders of byte strings and lists of integers, the program's and the reference's. Conditions: the elements fit an int, the lengths stay below 2^40. -/
import Derived.Test.YtkjomnakolhdcaaDoorWireInt
import Derived.Test.YtkjomnakolhdcaaDoorRefInt
import Derived.Test.YtkjomnakolhdcaaDoorWireDecPlain
namespace Go.Proofs.YtkjomnakolhdcaaDoor
set_option linter.unusedVariables false
set_option linter.unusedSimpArgs false
open Go.RowKit

namespace Wire
theorem flat_len (l : List Int) : (l.flatMap enc).length ≤ 9 * l.length := by
  induction l with
  | nil => simp
  | cons x l ih => have := enc_length_le x; simp only [List.flatMap_cons, List.length_append, List.length_cons]; omega
theorem flat_take_len (l : List Int) (k : Nat) : ((l.take k).flatMap enc).length ≤ 9 * l.length := by
  have := flat_len (l.take k)
  have h : (l.take k).length ≤ l.length := by rw [List.length_take]; omega
  omega
theorem flat_snoc {l : List Int} {k : Nat} (hk : k < l.length) : (l.take (k + 1)).flatMap enc = (l.take k).flatMap enc ++ enc l[k] := by
  rw [List.take_succ_eq_append_getElem hk, List.flatMap_append]; simp
end Wire
/-- what holds of a list of ints that fit -/
def I64s (l : List Int) : Prop := ∀ x ∈ l, -9223372036854775808 ≤ x ∧ x ≤ 9223372036854775807
theorem I64s.get {l : List Int} (h : I64s l) {k : Nat} (hk : k < l.length) : -9223372036854775808 ≤ l[k] ∧ l[k] ≤ 9223372036854775807 := h _ (List.getElem_mem hk)
theorem bvs_append (l r : List UInt8) : bvs l ++ bvs r = bvs (l ++ r) := by simp [bvs]

set_option maxHeartbeats 400000 in
theorem wireBytes_any (s : ByteArray) (hs : s.size ≤ 1099511627776) (w : World) :
    Calls Tryd.prog 88 #[.string s] w fun e w' => ∃ A c, e = .returned (.slice A (Wire.encB s.data.toList).length c) ∧
      w'.ownsRow w.heap.size 5 1 (.slice A (Wire.encB s.data.toList).length c) (Wire.encB s.data.toList).length (bvs (Wire.encB s.data.toList)) ∧ Below w.heap.size w w' := by
  have hl : s.data.toList.length = s.size := by simp
  have HE : Hid (Wire.encB s.data.toList = Wire.enc s.size ++ s.data.toList) := by show _ = _; rw [Wire.encB, hl]
  have HL : Hid ((Wire.encB s.data.toList).length = (Wire.enc s.size).length + s.size) := by show _ = _; rw [HE.out, List.length_append, hl]
  have h9 := Wire.enc_length_le s.size
  clear hl
  go_enter Tryd.func88, Tryd.ntmps88
  go_wp2_with (first
    | (go_at_call 32; refine (wireInt_any _ (by omega) (by omega) _).mono ?_; rintro e w1 ⟨A1, c1, rfl, hown1, hb1⟩)
    | (at_builtin; refine wpList_appS rfl (.tmp 5) (.tmp 6) 58 9 rfl Tryd.underlying9 w.heap.size 5 bytesE A1 _ c1 _ s rfl rfl hown1 hb1 (by omega) (Nat.le_refl _) hb1.size ?_; intro A2 c2 w2 hown2 hb2))
  go_ret
  refine ⟨A2, c2, by rw [HL.out]; rfl, ?_, hb2⟩
  rw [HL.out, HE.out, ← bvs_append]
  exact hown2
set_option maxHeartbeats 800000 in
theorem wireInts_any (A : Option Addr) (c : Nat) (l : List Int) (hl : l.length ≤ 1099511627776) (hr : I64s l) (w : World) (ha : Rd w w.heap.size 1 A l.length (ivs l)) :
    Calls Tryd.prog 58 #[.slice A l.length c] w fun e w' => ∃ A c, e = .returned (.slice A (Wire.encI l).length c) ∧
      w'.ownsRow w.heap.size 5 1 (.slice A (Wire.encI l).length c) (Wire.encI l).length (bvs (Wire.encI l)) ∧ Below w.heap.size w w' := by
  have h9 := Wire.enc_length_le l.length
  have HR := Lib.hid hr; clear hr
  go_enter Tryd.func58, Tryd.ntmps58
  go_wp2_with (go_at_call 32; refine (wireInt_any _ (by omega) (by omega) _).mono ?_; rintro e w1 ⟨A1, c1, rfl, hown1, hb1⟩)
  go_loopw [3, 11] (fun u3 u11 wr => ∃ (k n : Nat) (A : Option Addr) (c : Nat), k ≤ l.length ∧ u11 = .int .i64 k ∧ u3 = .slice A n c ∧ Hid (n = (Wire.enc l.length ++ (l.take k).flatMap Wire.enc).length) ∧ n ≤ 9 + 9 * l.length ∧
     wr.ownsRow w.heap.size 5 1 (.slice A n c) n (bvs (Wire.enc l.length ++ (l.take k).flatMap Wire.enc)) ∧ Below w.heap.size w wr) (fun _ u _ => l.length - (intOf u).toNat)
  case atStart => exact ⟨0, _, A1, c1, by omega, rfl, rfl, by simp [Hid], by omega, by simpa using hown1, hb1⟩
  case round =>
    obtain ⟨k, n, A2, c2, hk, rfl, rfl, HN, hn9, hown2, hb2⟩ := hrel
    by_cases hlt : k < l.length
    · obtain ⟨bb, ob, rfl, _, hc⟩ := (ha.below hb2).get hlt
      obtain ⟨x, hx⟩ : ∃ x, x = l[k] := ⟨_, rfl⟩
      have hx1 := HR.out.get hlt
      have HS : Hid ((l.take (k + 1)).flatMap Wire.enc = (l.take k).flatMap Wire.enc ++ Wire.enc x) := by rw [hx]; exact Wire.flat_snoc hlt
      rw [← hx] at hc hx1
      clear hx
      have h9x := Wire.enc_length_le x
      have h9k := Wire.flat_take_len l (k + 1)
      go_wp2_with (first
        | (go_at_call 32; refine (wireInt_any x hx1.1 hx1.2 _).mono ?_; rintro e w3 ⟨A3, c3, rfl, hown3, hb3⟩)
        | (at_builtin; refine wpList_appR rfl (.tmp 15) (.tmp 17) 58 rfl w.heap.size 5 _ 1 1 bytesE A2 n c2 _ A3 _ c3 _ rfl rfl (own_below hown2 hb3) (Rd.of_own hown3) (bvs_one _) (hb2.trans (hb3.mono hb2.size)) (by omega) (Nat.le_refl _) (Nat.le_trans hb2.size hb3.size) ?_; intro A4 c4 w4 hown4 hb4))
      go_roundw
      case rel =>
        refine ⟨k + 1, n + (Wire.enc x).length, A4, c4, by omega, by go_num, rfl, ?_, ?_, ?_, hb4⟩
        · show _ = _
          rw [HS.out, HN.out, ← List.append_assoc, List.length_append (bs := Wire.enc x)]
        · have h1 := HN.out
          have h2 := congrArg List.length HS.out
          simp only [List.length_append] at h1 h2
          omega
        · rw [HS.out, ← List.append_assoc, ← bvs_append]
          exact hown4
      case measure => simp [intOf] <;> omega
    · have HK : Hid (l.take k = l) := List.take_of_length_le (by omega)
      go_wp2
      go_ret
      have e1 : Wire.enc l.length ++ (l.take k).flatMap Wire.enc = Wire.encI l := by rw [HK.out]; rfl
      have e2 := HN.out
      rw [e1] at hown2 e2
      subst e2
      exact ⟨A2, c2, rfl, hown2, hb2⟩
end Go.Proofs.YtkjomnakolhdcaaDoor
