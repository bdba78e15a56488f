/- The walk of the statement WireConcat: it returns true. Conditions: none beyond what the arguments are. -/
import Derived.Test.YtoipafbjdjhdjaaWireLawEnc
import Derived.Test.YtoipafbjdjhdjaaWireLaws
import Derived.Test.YtoipafbjdjhdjaaBase2
namespace Go.Proofs.Ytoipafbjdjhdjaa
set_option linter.unusedVariables false
set_option linter.unusedSimpArgs false
open Go.RowKit

theorem str_back (s : ByteArray) : (⟨s.data.toList.toArray⟩ : ByteArray) = s := by simp
theorem bvs_tail (l r : List UInt8) : (bvs (l ++ r)).drop (l.length * 1) = bvs r := by rw [Nat.mul_one, ← List.map_drop, List.drop_left]
theorem len_tail (a b : Nat) : a + b - a = b := by omega

set_option maxHeartbeats 1600000 in
theorem lawConcat (s : ByteArray) (hs : s.size ≤ 140737488355328)
    (A : Option Addr) (m c : Nat) (l : List Int) (hl : l.length = m) (hmc : m ≤ c) (hc : c ≤ 140737488355328) (hlr : ∀ x ∈ l, -9223372036854775808 ≤ x ∧ x ≤ 9223372036854775807)
    (w : World) (hr : Rd w w.heap.size 1 A m (ivs l)) :
    Calls Try.prog 10 #[.string s, .slice A m c] w fun e w' => e = .returned (.bool true) ∧ Below w.heap.size w w' := by
  have HL := Lib.hid hl; have HLR : Hid (I64s l) := hlr
  clear hl hlr
  by_cases hbig : 2000 < (s.size : Int) + m
  · go_enter Try.func10, Try.ntmps10
    go_wp2_with (go_at_call 11; refine (sanity_any _).mono ?_; rintro e w1 ⟨rfl, hb1⟩)
    go_ret
    exact ⟨rfl, hb1⟩
  · have q2 := encB_len s.data.toList
    have q2' : s.data.toList.length = s.size := by simp
    have q3 := encI_len l
    rw [q2'] at q2; rw [HL.out] at q3
    obtain ⟨E1, e1⟩ : ∃ E, Wire.encB s.data.toList = E := ⟨_, rfl⟩
    obtain ⟨E2, e2⟩ : ∃ E, Wire.encI l = E := ⟨_, rfl⟩
    have HB : Hid (Wire.decB (E1 ++ E2) = (s.data.toList, E1.length, 0)) := by show _ = _; rw [← e1]; exact Wire.decB_enc (by omega) _
    have HI : Hid (Wire.decI E2 = (l, E2.length, 0)) := by
      show _ = _
      rw [← e2]
      have := Wire.decI_enc (l := l) HLR.out (by have := HL.out; omega) []
      rwa [List.append_nil] at this
    rw [e1] at q2; rw [e2] at q3
    have H1 := Lib.hid e1; have H2 := Lib.hid e2
    clear e1 e2 q2'
    go_enter Try.func10, Try.ntmps10
    go_wp2_with (first
      | (go_at_call 15; refine (wireBytes_len s (by omega) E1 H1.out _ rfl _).mono ?_; rintro e w1 ⟨A1, c1, rfl, own1, hb1⟩)
      | (go_at_call 17; refine (wireInts_len A c m l _ _ hb1.size HL.out (by omega) HLR.out (hr.below hb1) E2 H2.out _ rfl).mono ?_; rintro e w2 ⟨A2, c2, rfl, own2, hx2⟩; have rd2 := Rd.of_own own2; have own1' := own_below own1 hx2; have hb2 := hb1.trans (hx2.mono hb1.size); clear own2 own1 hx2 hb1)
      | (at_builtin; refine wpList_appR rfl (.tmp 20) (.tmp 22) 26 rfl w.heap.size 5 _ 1 1 bytesE A1 E1.length c1 (bvs E1) A2 E2.length c2 (bvs E2) rfl rfl own1' rd2 (bvs_one _) hb2 (by omega) (Nat.le_refl _) hb2.size ?_
         intro A3 c3 w3 own3 hb3; have rd3 := (bvs_append E1 E2) ▸ Rd.of_own own3; have cap3 := own_cap own3; clear own3 own1' rd2 hb2)
      | (go_at_call 23; refine (wireGetBytes_len A3 c3 (E1.length + E2.length) (E1 ++ E2) _ _ (by simp) rd3 (by omega) cap3.1 cap3.2 _ _ _ HB.out).mono ?_; rintro e w4 ⟨he, rfl⟩; rw [str_back] at he; subst he)
      | (refine wpList_cutFrom rfl (.tmp 43) (.tmp 44) 26 rfl 5 _ 1 1 bytesE A3 (E1.length + E2.length) c3 rfl E1.length .i64 _ rfl rfl (by omega) cap3.1 rd3 ?_; rw [len_tail, bvs_tail]; intro A4 rd4)
      | (go_at_call 25; refine (wireGetInts_len A4 _ E2.length E2 _ _ (Nat.le_refl _) rfl rd4 (by omega) (by omega) (by omega) _ _ _ HI.out _ HL.out).mono ?_; rintro e w5 ⟨A5, c5, rfl, own5, hx5⟩; have rd5 := Rd.of_own own5; have hb5 := hb3.trans (hx5.mono hb3.size); clear own5 hx5 rd3 rd4)
      | (go_at_call 11; refine (sanity_any _).mono ?_; rintro e w6 ⟨rfl, hb6⟩; have rd6 := rd5.below hb6; have hr6 := hr.below (hb5.trans (hb6.mono hb5.size)))
      | (go_at_call 27; refine (sameInts_len A5 A c5 c _ _ l l _ HL.out HL.out (by unfold maxLen; omega) _ _ rd6 hr6 true (by simp)).mono ?_; rintro e w7 ⟨rfl, k7, hw7⟩))
    go_ret
    refine ⟨rfl, ?_⟩
    exact below_drewN (hb5.trans (hb6.mono hb5.size)) _
end Go.Proofs.Ytoipafbjdjhdjaa
