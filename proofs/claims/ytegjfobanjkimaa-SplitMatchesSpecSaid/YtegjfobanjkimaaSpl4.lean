/- Layer 33: the reference's Same; the laws' examples. No condition. -/
import Derived.Test.YtegjfobanjkimaaSpl3
namespace Go.Proofs.Ytegjfobanjkimaa
set_option linter.unusedVariables false
set_option linter.unusedSimpArgs false
open Go.RowKit
theorem take_succ_eq {α : Type} {xs ys : List α} {k : Nat} (hx : k < xs.length) (hy : k < ys.length) (h : xs.take k = ys.take k) (e : xs[k] = ys[k]) : xs.take (k + 1) = ys.take (k + 1) := by
  rw [List.take_succ_eq_append_getElem hx, List.take_succ_eq_append_getElem hy, h, e]
theorem ne_of_get {α : Type} {xs ys : List α} {k : Nat} (hx : k < xs.length) (hy : k < ys.length) (e : xs[k] ≠ ys[k]) : xs ≠ ys := by
  intro h; subst h; exact e rfl
theorem eq_of_take {α : Type} {xs ys : List α} {k : Nat} (h : xs.take k = ys.take k) (h1 : xs.length ≤ k) (h2 : ys.length ≤ k) : xs = ys := by
  rwa [List.take_of_length_le h1, List.take_of_length_le h2] at h

theorem ex_drew2 (w : World) (a b : Nat) : ∃ n, (w.drewN a).drewN b = w.drewN n := ⟨a + b, by rw [World.drewN_drewN]⟩
set_option maxHeartbeats 400000 in
theorem same33_any (A B : Option Addr) (ca cb : Nat) (xs ys : List Int) (w : World) (hL : xs.length ≤ maxLen) (B1 B2 : Nat)
   (ha : Rd w B1 1 A xs.length (ivs xs)) (hb : Rd w B2 1 B ys.length (ivs ys)) :
    Calls Try.prog 13 #[.slice A xs.length ca, .slice B ys.length cb] w fun e w' => e = .returned (.bool (decide (xs = ys))) ∧ ∃ n, w' = w.drewN n := by
  unfold maxLen at hL
  by_cases hlen : xs.length = ys.length
  · have hne : ((xs.length : Int) != ys.length) = false := by rw [bne_eq_false_iff_eq]; omega
    have HL := Lib.hid hlen; clear hlen
    go_enter Try.func13, Try.ntmps13
    go_wp2
    go_loopw [5] (fun i wr => ∃ k n : Nat, k ≤ xs.length ∧ i = .int .i64 k ∧ wr = w.drewN n ∧ Hid (xs.take k = ys.take k)) (fun i _ => xs.length - (intOf i).toNat)
    case atStart => exact ⟨0, 0, Nat.zero_le _, rfl, rfl, by simp [Hid]⟩
    case round =>
      obtain ⟨k, n, hk, rfl, rfl, HT⟩ := hrel
      by_cases hlt : k < xs.length
      · have hky : k < ys.length := by have := HL.out; omega
        obtain ⟨ba, oa, rfl, _, h1⟩ := ha.get hlt
        obtain ⟨bb, ob, rfl, _, h2⟩ := hb.get hky
        clear ha hb
        by_cases hxy : (xs[k] != ys[k]) = true
        · have HN := Lib.hid (ne_of_get hlt hky (by simpa using hxy))
          go_wp2
          go_quiet (fail)
          go_wp2
          go_ret
          exact ⟨ret_bool (decide_eq_false HN.out).symm, ex_drew2 _ _ _⟩
        · have hxy : (xs[k] != ys[k]) = false := by simpa using hxy
          have HN := Lib.hid (take_succ_eq hlt hky HT.out (by simpa using hxy))
          go_wp2
          go_quiet (fail)
          go_wp2
          go_roundw
          case rel => exact ⟨k + 1, _, by omega, by go_num, rfl, HN⟩
          case measure => simp [intOf] <;> omega
      · go_wp2
        go_ret
        exact ⟨ret_bool (decide_eq_true (eq_of_take HT.out (by omega) (by have := HL.out; omega))).symm, n, rfl⟩
  · have hne : ((xs.length : Int) != ys.length) = true := by rw [bne_iff_ne]; omega
    have HL := Lib.hid hlen; clear hlen
    go_enter Try.func13, Try.ntmps13
    go_wp2
    go_ret
    exact ⟨ret_bool (decide_eq_false fun h => HL.out (by rw [h])).symm, 0, rfl⟩

theorem same33_len (A B : Option Addr) (ca cb la lb : Nat) (xs ys : List Int) (w : World) (hla : xs.length = la) (hlb : ys.length = lb) (hL : la ≤ maxLen) (B1 B2 : Nat) (ha : Rd w B1 1 A la (ivs xs)) (hb : Rd w B2 1 B lb (ivs ys)) (S : Bool) (hS : decide (xs = ys) = S) :
    Calls Try.prog 13 #[.slice A la ca, .slice B lb cb] w fun e w' => e = .returned (.bool S) ∧ ∃ n, w' = w.drewN n := by
  subst hla hlb hS
  exact same33_any A B ca cb xs ys w hL B1 B2 ha hb
theorem same33_b (A B : Option Addr) (ca cb la lb : Nat) (xs ys : List Int) (w : World) (hla : xs.length = la) (hlb : ys.length = lb) (hL : la ≤ maxLen) (B1 B2 : Nat) (ha : Rd w B1 1 A la (ivs xs)) (hb : Rd w B2 1 B lb (ivs ys)) (S : Bool) (hS : decide (xs = ys) = S) :
    Calls Try.prog 13 #[.slice A la ca, .slice B lb cb] w fun e w' => e = .returned (.bool S) ∧ Below w.heap.size w w' :=
  (same33_len A B ca cb la lb xs ys w hla hlb hL B1 B2 ha hb S hS).mono fun _ _ ⟨he, n, hn⟩ => ⟨he, by rw [hn]; exact below_of_drewN _ _ _⟩
theorem FRow.rd {w : World} {g n : Nat} {d : Nat → Int} (h : FRow w g n d) (L : List Int) (hL : L.length = n) (he : ∀ t, t < n → L.getD t 0 = d t) : Rd w w.heap.size 1 (some ⟨g, 0, none⟩) n (ivs L) := by
  refine ⟨by simp [ivs, hL], fun _ => ⟨g, 0, rfl, h.lt, fun j u hu => ?_⟩⟩
  have hj : j < n := by have := (List.getElem?_eq_some_iff.1 hu).1; simpa [ivs, hL] using this
  have h1 := h.cell j hj
  rw [← he j hj] at h1
  have : u = .int .i64 (L.getD j 0) := by
    simp [ivs, List.getElem?_map] at hu
    obtain ⟨x, hx, rfl⟩ := hu
    simp [List.getD, hx]
  rw [this, Nat.zero_add]; exact h1
/-- the row as a list -/
def rowL (n : Nat) (d : Nat → Int) : List Int := (List.range n).map d
theorem rowL_get {n t : Nat} (d : Nat → Int) (h : t < n) : (rowL n d).getD t 0 = d t := by simp [rowL, List.getD, h]
theorem rowL_len (n : Nat) (d : Nat → Int) : (rowL n d).length = n := by simp [rowL]
theorem FRow.rdL {w : World} {g n : Nat} {d : Nat → Int} (h : FRow w g n d) : Rd w w.heap.size 1 (some ⟨g, 0, none⟩) n (ivs (rowL n d)) := h.rd _ (rowL_len n d) fun t ht => rowL_get d ht
theorem new_list {w w' : World} {L : List Int} {ua : Array Value} {ty : TypeId} {n : Nat} (h : w.alloc (.cells ua ty) = w') (hua : ua = (ivs L).toArray) (hn : L.length = n) : Rd w' w'.heap.size 1 (some ⟨w.heap.size, 0, none⟩) n (ivs L) ∧ Below w.heap.size w w' := by
  subst h hua hn
  exact ⟨by rw [alloc_size1]; exact Rd.new w (ivs L) ty L.length (size := 1) (by simp [ivs]), (Below.refl _ _).alloc (Nat.le_refl _) _⟩
theorem bump1 {p : Nat → Nat} {bl : List Int} {b : Nat} (h : b = p 0) : Spl.bump p bl 1 = bl.set b (bl.getD b 0 + 1) := by subst h; rfl
theorem lt3 {P : Nat → Prop} (h0 : P 0) (h1 : P 1) (h2 : P 2) : ∀ t, t < 3 → P t := by
  intro t ht
  obtain rfl | rfl | rfl : t = 0 ∨ t = 1 ∨ t = 2 := by omega
  · exact h0
  · exact h1
  · exact h2
theorem ok531 : OkTo [5, 3, 1] 3 := lt3 (by decide) (by decide) (by decide)
theorem ok022 : OkTo [0, 2, 2] 3 := lt3 (by decide) (by decide) (by decide)
theorem w531 {w w' : World} {e : Ending} (h : WOk 10 (Spl.sumTo (wOf [5, 3, 1]) 3) [5, 3, 1] 3 w e w') : ∃ g c, e = .returned (.tuple #[.slice (some ⟨g, 0, none⟩) 3 c, .int .i64 0]) ∧ Rd w' w'.heap.size 1 (some ⟨g, 0, none⟩) 3 (ivs [6, 3, 1]) ∧ Below w.heap.size w w' := by
  obtain ⟨g, c, p, k, rfl, _, hF, O, hk, _, _, hb⟩ := h
  have h1 : Spl.sumTo (baseOf 10 (Spl.sumTo (wOf [5, 3, 1]) 3) [5, 3, 1]) 3 = 9 := by decide
  rw [h1] at hk
  obtain rfl : k = 1 := by omega
  have h0 := Spl.next_is O (k := 0) (b := 0) (by omega) (by omega) (fun ⟨t, ht, _⟩ => by omega) fun i hi _ hne => by
    obtain rfl | rfl : i = 1 ∨ i = 2 := by omega
    · left; decide
    · left; decide
  refine ⟨g, c, rfl, hF.rd _ rfl (fun t ht => ?_), hb⟩
  rw [bump1 h0]
  exact lt3 (P := fun t => [6, 3, 1].getD t (0 : Int) = ((baseL 10 (Spl.sumTo (wOf [5, 3, 1]) 3) [5, 3, 1] 3).set 0 ((baseL 10 (Spl.sumTo (wOf [5, 3, 1]) 3) [5, 3, 1] 3).getD 0 0 + 1)).getD t 0) (by decide) (by decide) (by decide) t ht
theorem w022 {w w' : World} {e : Ending} (h : WOk 1 (Spl.sumTo (wOf [0, 2, 2]) 3) [0, 2, 2] 3 w e w') : ∃ g c, e = .returned (.tuple #[.slice (some ⟨g, 0, none⟩) 3 c, .int .i64 0]) ∧ Rd w' w'.heap.size 1 (some ⟨g, 0, none⟩) 3 (ivs [0, 1, 0]) ∧ Below w.heap.size w w' := by
  obtain ⟨g, c, p, k, rfl, _, hF, O, hk, _, _, hb⟩ := h
  have h1 : Spl.sumTo (baseOf 1 (Spl.sumTo (wOf [0, 2, 2]) 3) [0, 2, 2]) 3 = 0 := by decide
  rw [h1] at hk
  obtain rfl : k = 1 := by omega
  have h0 := Spl.next_is O (k := 0) (b := 1) (by omega) (by omega) (fun ⟨t, ht, _⟩ => by omega) fun i hi _ hne => by
    obtain rfl | rfl : i = 0 ∨ i = 2 := by omega
    · left; decide
    · right; decide
  refine ⟨g, c, rfl, hF.rd _ rfl (fun t ht => ?_), hb⟩
  rw [bump1 h0]
  exact lt3 (P := fun t => [0, 1, 0].getD t (0 : Int) = ((baseL 1 (Spl.sumTo (wOf [0, 2, 2]) 3) [0, 2, 2] 3).set 1 ((baseL 1 (Spl.sumTo (wOf [0, 2, 2]) 3) [0, 2, 2] 3).getD 1 0 + 1)).getD t 0) (by decide) (by decide) (by decide) t ht
theorem e73 {w w' : World} {e : Ending} (h : EOk 7 3 w e w') : ∃ g, e = .returned (.tuple #[.slice (some ⟨g, 0, none⟩) 3 3, .int .i64 0]) ∧ Rd w' w'.heap.size 1 (some ⟨g, 0, none⟩) 3 (ivs [3, 2, 2]) ∧ Below w.heap.size w w' := by
  obtain ⟨g, rfl, hF, _, hb⟩ := h
  exact ⟨g, rfl, hF.rd _ rfl (lt3 (P := fun t => [3, 2, 2].getD t (0 : Int) = evenOf 7 3 t) (by decide) (by decide) (by decide)), hb⟩
set_option maxRecDepth 100000 in
set_option maxHeartbeats 4000000 in
theorem sanity_any (w : World) : Calls Try.prog 8 #[] w fun e w' => e = .returned (.bool true) ∧ Below w.heap.size w w' := by
  go_enter Try.func8, Try.ntmps8
  go_wp2_with fail
  refine (even_ok 7 3 (by decide) (by decide) (by decide) (by decide) _).mono ?_
  rintro e w1 hE
  obtain ⟨g1, rfl, r1, b1⟩ := e73 hE
  clear hE
  have hb_w1 := b1
  go_wp2_with fail
  obtain ⟨w2, hw2⟩ : ∃ x, w1.alloc (.cells #[.int .i64 5, .int .i64 3, .int .i64 1] 3) = x := ⟨_, rfl⟩
  rw [hw2]
  obtain ⟨r2, b2⟩ := new_list (L := [5, 3, 1]) hw2 rfl rfl
  clear hw2
  refine (weighted_ok 10 _ 3 3 [5, 3, 1] rfl (by decide) _ w2 r2 (Nat.le_refl _) (by decide) (by decide) ok531 (by decide)).mono ?_
  rintro e w3 hE
  obtain ⟨g3, c3, rfl, r3, b3⟩ := w531 hE
  clear hE r2
  have b13 := b2.trans (b3.mono b2.size)
  have z_w3 := b13.size
  have hb_w3 := hb_w1.trans (b13.mono hb_w1.size)
  have r1 := r1.below (b13.mono (by omega))
  clear b13 b2 b3
  go_wp2_with fail
  obtain ⟨w4, hw4⟩ : ∃ x, w3.alloc (.cells #[.int .i64 0, .int .i64 2, .int .i64 2] 3) = x := ⟨_, rfl⟩
  rw [hw4]
  obtain ⟨r4, b4⟩ := new_list (L := [0, 2, 2]) hw4 rfl rfl
  clear hw4
  refine (weighted_ok 1 _ 3 3 [0, 2, 2] rfl (by decide) _ w4 r4 (Nat.le_refl _) (by decide) (by decide) ok022 (by decide)).mono ?_
  rintro e w5 hE
  obtain ⟨g5, c5, rfl, r5, b5⟩ := w022 hE
  clear hE r4
  have b35 := b4.trans (b5.mono b4.size)
  have z_w5 := b35.size
  have hb_w5 := hb_w3.trans (b35.mono hb_w3.size)
  have r1 := r1.below (b35.mono (by omega))
  have r3 := r3.below (b35.mono (by omega))
  clear b35 b4 b5
  go_wp2_with fail
  obtain ⟨w6, hw6⟩ : ∃ x, w5.alloc (.cells #[.int .i64 0, .int .i64 0] 3) = x := ⟨_, rfl⟩
  rw [hw6]
  obtain ⟨r6, b6⟩ := new_list (L := [0, 0]) hw6 rfl rfl
  clear hw6
  refine (weighted_bad 1 _ 2 2 [0, 0] rfl (by decide) _ w6 r6 (Nat.le_refl _) (Or.inr (Or.inr (Or.inr (by decide))))).mono ?_
  rintro e w7 ⟨rfl, b7⟩
  have b57 := b6.trans (b7.mono b6.size)
  have z_w7 := b57.size
  have hb_w7 := hb_w5.trans (b57.mono hb_w5.size)
  have r1 := r1.below (b57.mono (by omega))
  have r3 := r3.below (b57.mono (by omega))
  have r5 := r5.below (b57.mono (by omega))
  clear b57 b6 b7 r6
  go_wp2_with fail
  refine (even_bad 1 0 (by decide) (Or.inr (Or.inr (by decide))) _).mono ?_
  rintro e w8 ⟨rfl, b8⟩
  have z_w8 := b8.size
  have hb_w8 := hb_w7.trans (b8.mono hb_w7.size)
  have r1 := r1.below (b8.mono (by omega))
  have r3 := r3.below (b8.mono (by omega))
  have r5 := r5.below (b8.mono (by omega))
  clear b8
  go_wp2_with fail
  obtain ⟨w9, hw9⟩ : ∃ x, w8.alloc (.cells #[.int .i64 3, .int .i64 2, .int .i64 2] 3) = x := ⟨_, rfl⟩
  rw [hw9]
  obtain ⟨rw9, bw9⟩ := new_list (L := [3, 2, 2]) hw9 rfl rfl
  clear hw9
  refine (same33_b (some ⟨g1, 0, none⟩) (some ⟨w8.heap.size, 0, none⟩) 3 3 3 3 [3, 2, 2] [3, 2, 2] w9 rfl rfl (by unfold maxLen; omega) _ _ (r1.below (bw9.mono (by omega))) rw9 true (decide_eq_true rfl)).mono ?_
  rintro e w10 ⟨rfl, cw10⟩
  have b910 := bw9.trans (cw10.mono bw9.size)
  have z_w10 := b910.size
  have hb_w10 := hb_w8.trans (b910.mono hb_w8.size)
  have r1 := r1.below (b910.mono (by omega))
  have r3 := r3.below (b910.mono (by omega))
  have r5 := r5.below (b910.mono (by omega))
  clear b910 bw9 cw10 rw9
  go_wp2_with fail
  obtain ⟨w11, hw11⟩ : ∃ x, w10.alloc (.cells #[.int .i64 6, .int .i64 3, .int .i64 1] 3) = x := ⟨_, rfl⟩
  rw [hw11]
  obtain ⟨rw11, bw11⟩ := new_list (L := [6, 3, 1]) hw11 rfl rfl
  clear hw11
  refine (same33_b (some ⟨g3, 0, none⟩) (some ⟨w10.heap.size, 0, none⟩) c3 3 3 3 [6, 3, 1] [6, 3, 1] w11 rfl rfl (by unfold maxLen; omega) _ _ (r3.below (bw11.mono (by omega))) rw11 true (decide_eq_true rfl)).mono ?_
  rintro e w12 ⟨rfl, cw12⟩
  have b1112 := bw11.trans (cw12.mono bw11.size)
  have z_w12 := b1112.size
  have hb_w12 := hb_w10.trans (b1112.mono hb_w10.size)
  have r1 := r1.below (b1112.mono (by omega))
  have r3 := r3.below (b1112.mono (by omega))
  have r5 := r5.below (b1112.mono (by omega))
  clear b1112 bw11 cw12 rw11
  go_wp2_with fail
  obtain ⟨w13, hw13⟩ : ∃ x, w12.alloc (.cells #[.int .i64 0, .int .i64 1, .int .i64 0] 3) = x := ⟨_, rfl⟩
  rw [hw13]
  obtain ⟨rw13, bw13⟩ := new_list (L := [0, 1, 0]) hw13 rfl rfl
  clear hw13
  refine (same33_b (some ⟨g5, 0, none⟩) (some ⟨w12.heap.size, 0, none⟩) c5 3 3 3 [0, 1, 0] [0, 1, 0] w13 rfl rfl (by unfold maxLen; omega) _ _ (r5.below (bw13.mono (by omega))) rw13 true (decide_eq_true rfl)).mono ?_
  rintro e w14 ⟨rfl, cw14⟩
  have b1314 := bw13.trans (cw14.mono bw13.size)
  have z_w14 := b1314.size
  have hb_w14 := hb_w12.trans (b1314.mono hb_w12.size)
  have r1 := r1.below (b1314.mono (by omega))
  have r3 := r3.below (b1314.mono (by omega))
  have r5 := r5.below (b1314.mono (by omega))
  clear b1314 bw13 cw14 rw13
  go_wp2_with fail
  go_ret
  exact ⟨rfl, hb_w14⟩
end Go.Proofs.Ytegjfobanjkimaa
