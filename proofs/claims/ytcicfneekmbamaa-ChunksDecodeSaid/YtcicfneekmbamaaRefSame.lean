/- Walks of the reference's comparisons: Same, SameInts compare two slices element by element. Conditions: the slices read as lists of at most 2^63-1 elements. -/
import Derived.Test.YtcicfneekmbamaaRows
import Derived.Test.YtcicfneekmbamaaBase
import Derived.WalkKit
import Derived.WalkSpells
import Derived.WalkLawsBesides
import Derived.Deep.QuietTactic
import Derived.BigQuiet
namespace Go.Proofs.Ytcicfneekmbamaa
set_option linter.unusedVariables false
set_option linter.unusedSimpArgs false
open Go.RowKit

theorem take_succ_eq {α : Type} {xs ys : List α} {k : Nat} (hx : k < xs.length) (hy : k < ys.length) (h : xs.take k = ys.take k) (e : xs[k] = ys[k]) : xs.take (k + 1) = ys.take (k + 1) := by
  rw [List.take_succ_eq_append_getElem hx, List.take_succ_eq_append_getElem hy, h, e]
theorem ne_of_get {α : Type} {xs ys : List α} {k : Nat} (hx : k < xs.length) (hy : k < ys.length) (e : xs[k] ≠ ys[k]) : xs ≠ ys := by
  intro h; subst h; exact e rfl
theorem eq_of_take {α : Type} {xs ys : List α} {k : Nat} (h : xs.take k = ys.take k) (h1 : xs.length ≤ k) (h2 : ys.length ≤ k) : xs = ys := by
  rwa [List.take_of_length_le h1, List.take_of_length_le h2] at h

theorem ex_drewS (w : World) (a b : Nat) : ∃ n, (w.drewN a).drewN b = w.drewN n := ⟨a + b, by rw [World.drewN_drewN]⟩
theorem ne_of_toNat {x y : UInt8} (h : ((x.toNat : Int) != y.toNat) = true) : x ≠ y := by
  intro e; subst e; simp at h
theorem eq_of_toNat {x y : UInt8} (h : ((x.toNat : Int) != y.toNat) = false) : x = y := by
  rw [bne_eq_false_iff_eq] at h; exact UInt8.toNat_inj.1 (by omega)


set_option maxHeartbeats 400000 in
theorem sameB_any (A B : Option Addr) (ca cb : Nat) (xs ys : List UInt8) (w : World) (hL : xs.length ≤ maxLen) (B1 B2 : Nat)
   (ha : Rd w B1 1 A xs.length (bvs xs)) (hb : Rd w B2 1 B ys.length (bvs ys)) :
    Calls Try.prog 97 #[.slice A xs.length ca, .slice B ys.length cb] w fun e w' => e = .returned (.bool (decide (xs = ys))) ∧ ∃ n, w' = w.drewN n := by
  unfold maxLen at hL
  by_cases hlen : xs.length = ys.length
  · have hne : ((xs.length : Int) != ys.length) = false := by rw [bne_eq_false_iff_eq]; omega
    have HL := Lib.hid hlen; clear hlen
    go_enter Try.func97, Try.ntmps97
    go_wp2
    go_loopw [5] (fun i wr => ∃ k n : Nat, k ≤ xs.length ∧ i = .int .i64 k ∧ wr = w.drewN n ∧ Hid (xs.take k = ys.take k)) (fun i _ => xs.length - (intOf i).toNat)
    case atStart => exact ⟨0, 0, Nat.zero_le _, rfl, rfl, by simp [Hid]⟩
    case round =>
      obtain ⟨k, n, hk, rfl, rfl, HT⟩ := hrel
      by_cases hlt : k < xs.length
      · have hky : k < ys.length := by have := HL.out; omega
        obtain ⟨ba, oa, rfl, _, h1⟩ := ha.get hlt
        obtain ⟨bb, ob, rfl, _, h2⟩ := hb.get hky
        clear ha hb
        by_cases hxy : ((xs[k].toNat : Int) != ys[k].toNat) = true
        · have HN := Lib.hid (ne_of_get hlt hky (by first | exact ne_of_toNat hxy | exact eq_of_toNat hxy))
          go_wp2
          go_quiet (fail)
          go_wp2
          go_ret
          exact ⟨ret_bool (decide_eq_false HN.out).symm, ex_drewS _ _ _⟩
        · have hxy : ((xs[k].toNat : Int) != ys[k].toNat) = false := (Bool.not_eq_true _).mp hxy
          have HN := Lib.hid (take_succ_eq hlt hky HT.out (by first | exact ne_of_toNat hxy | exact eq_of_toNat hxy))
          go_wp2
          go_quiet (fail)
          go_wp2
          go_roundw
          case rel => exact ⟨k + 1, _, by omega, by go_num, rfl, HN⟩
          case measure => simp [intOf] <;> omega
      · go_wp2
        go_ret
        exact ⟨ret_bool (decide_eq_true (eq_of_take HT.out (by omega) (by have := HL.out; omega))).symm, n, rfl⟩
  · have hne : ((xs.length : Int) != ys.length) = true := by rw [bne_iff_ne]; omega
    have HL := Lib.hid hlen; clear hlen
    go_enter Try.func97, Try.ntmps97
    go_wp2
    go_ret
    exact ⟨ret_bool (decide_eq_false fun h => HL.out (by rw [h])).symm, 0, rfl⟩

theorem same_len (A B : Option Addr) (ca cb la lb : Nat) (xs ys : List UInt8) (w : World) (hla : xs.length = la) (hlb : ys.length = lb) (hL : la ≤ maxLen) (B1 B2 : Nat) (ha : Rd w B1 1 A la (bvs xs)) (hb : Rd w B2 1 B lb (bvs ys)) (S : Bool) (hS : decide (xs = ys) = S) :
    Calls Try.prog 97 #[.slice A la ca, .slice B lb cb] w fun e w' => e = .returned (.bool S) ∧ ∃ n, w' = w.drewN n := by
  subst hla hlb hS
  exact sameB_any A B ca cb xs ys w hL B1 B2 ha hb
end Go.Proofs.Ytcicfneekmbamaa
