/- Walks of the laws' own helpers: sanity, play, has. -/
import Derived.Test.YtnehbcopbioenaaIRef3
import Derived.Test.YtnehbcopbioenaaIPlayP
namespace Go.Proofs.Ytnehbcopbioenaa
set_option linter.unusedVariables false
set_option linter.unusedSimpArgs false
open Go.RowKit Go.ChangeMaps

def ov (o : IOp) : List Value := [.bool o.1, .int .u32 o.2.1, .int .i64 o.2.2]
abbrev ovs (l : List IOp) : List Value := l.flatMap ov
theorem ov_cells {w : World} {B n : Nat} {A : Option Addr} {L : List IOp} (h : Rd w B 3 A n (ovs L)) {k : Nat} (hk : k < L.length) (hkn : k < n) :
    ∃ b off, A = some ⟨b, off, none⟩ ∧ b < B ∧ w.cell? ⟨b, off + k * 3, none⟩ = some (.bool L[k].1) ∧ w.cell? ⟨b, off + k * 3 + 1, none⟩ = some (.int .u32 L[k].2.1) ∧ w.cell? ⟨b, off + k * 3 + 2, none⟩ = some (.int .i64 L[k].2.2) := by
  obtain ⟨b, off, rfl, hb, hr⟩ := h.elem (fun e _ => show (ov e).length = 3 from rfl) hk hkn
  exact ⟨b, off, rfl, hb, hr 0 _ rfl, hr 1 _ rfl, hr 2 _ rfl⟩

/-- Put of any chunk -/
theorem put_step (bx bm : Nat) (cap : Int) (L : List (Int × Int)) (p c : Int) (hcap : 1 ≤ cap) (w : World) (h : HoldsIx w bx bm cap L) :
    Calls Try.prog 17 #[.pointer (some ⟨bx, 0, none⟩), .int .u32 p, .int .i64 c] w fun e w' => e = .returned (.tuple #[.int .i64 (putR cap L p c).2.1, .int .i64 (putR cap L p c).2.2]) ∧ HoldsIx w' bx bm cap (putR cap L p c).1 ∧ Keep (fun k => k = bx ∨ k = bm) w w' := by
  unfold putR
  by_cases hc : 1 ≤ c ∧ c ≤ 65536
  · rw [if_pos hc]; exact put_holds bx bm cap L p c hc.1 hc.2 hcap w h
  · rw [if_neg hc]
    refine (put_bad _ p c (by omega) w).mono ?_
    rintro e w' ⟨rfl, rfl⟩
    exact ⟨rfl, h, Keep.refl _ _⟩
theorem refPut_step (br : Nat) (cap : Int) (L : List (Int × Int)) (p c : Int) (hlen : L.length ≤ 1099511627776) (hcap : 1 ≤ cap) (w : World) (h : RefAt w br cap L) :
    Calls Try.prog 23 #[.pointer (some ⟨br, 0, none⟩), .int .u32 p, .int .i64 c] w fun e w' => e = .returned (.tuple #[.int .i64 (putR cap L p c).2.1, .int .i64 (putR cap L p c).2.2]) ∧ RefAt w' br cap (putR cap L p c).1 ∧ Keep (fun k => k = br) w w' := by
  unfold putR
  by_cases hc : 1 ≤ c ∧ c ≤ 65536
  · rw [if_pos hc]; exact refPut_any p c hc.1 hc.2 br cap L hlen hcap w h
  · rw [if_neg hc]
    refine (refPut_bad _ p c (by omega) w).mono ?_
    rintro e w' ⟨rfl, rfl⟩
    exact ⟨rfl, h, Keep.refl _ _⟩

set_option maxHeartbeats 1600000 in
theorem sanity_any (w : World) : Calls Try.prog 9 #[] w fun e w' => e = .returned (.bool true) ∧ Below w.heap.size w w' := by
  have HP1 : Hid (putR 2 [] 7 1 = ([(7, 1)], 0, 0)) := by show _ = _; decide
  have HP2 : Hid (putR 2 [(7, 1)] 7 2 = ([(7, 2), (7, 1)], 0, 0)) := by show _ = _; decide
  have HP3 : Hid (putR 2 [(7, 2), (7, 1)] 9 3 = ([(9, 3), (7, 2)], 1, 0)) := by show _ = _; decide
  have HP4 : Hid (putR 2 [(9, 3), (7, 2)] 9 0 = ([(9, 3), (7, 2)], 0, 1)) := by show _ = _; decide
  have HF : Hid (findL 7 [(7, 2), (7, 1)] = [2, 1]) := by show _ = _; decide
  go_enter Try.func9, Try.ntmps9
  go_wp2_with fail
  refine (new_holds 2 (by omega) (by omega) _).mono ?_
  rintro e w1 ⟨bx, bm, rfl, h1, hx1, hx2, b1⟩
  go_wp2_with fail
  refine (put_step bx bm 2 [] 7 1 (by omega) _ h1).mono ?_
  rw [HP1.out]
  rintro e w2 ⟨rfl, h2, k2⟩
  have b2 := Below.then_keep b1 k2 (fun k hk => by rcases hk with hk | hk <;> omega) (Nat.le_refl _)
  clear h1 k2 b1
  go_wp2_with fail
  refine (put_step bx bm 2 _ 7 2 (by omega) _ h2).mono ?_
  rw [HP2.out]
  rintro e w3 ⟨rfl, h3, k3⟩
  have b3 := Below.then_keep b2 k3 (fun k hk => by rcases hk with hk | hk <;> omega) (Nat.le_refl _)
  clear h2 k3 b2
  go_wp2_with fail
  have hlt := h3.lt
  refine (find_holds 7 bx bm 2 _ (by simp) _ h3).mono ?_
  rw [HF.out]
  rintro e w4 ⟨A4, c4, rfl, own4, b34⟩
  have h4 := h3.below b34 hlt.1 hlt.2
  have b4 := b3.trans (b34.mono b3.size)
  have rd4 := Rd.of_own own4
  have hAb := own_block_lt own4
  clear h3 b3 own4
  go_wp2_with fail
  refine (put_step bx bm 2 _ 9 3 (by omega) _ h4).mono ?_
  rw [HP3.out]
  rintro e w5 ⟨rfl, h5, k5⟩
  have b5 := Below.then_keep b4 k5 (fun k hk => by rcases hk with hk | hk <;> omega) (Nat.le_refl _)
  have hxx : ∀ a, A4 = some a → ¬ (a.block = bx ∨ a.block = bm) := by
    intro a ha
    have h0 := (hAb a ha).1
    omega
  have rd5 := rd4.keepS k5 (Nat.le_refl _) hxx
  have hs5 := k5.size
  clear h4 b4 rd4 k5 hAb
  go_wp2_with fail
  refine (put_step bx bm 2 _ 9 0 (by omega) _ h5).mono ?_
  rw [HP4.out]
  rintro e w6 ⟨rfl, h6, k6⟩
  have b6 := Below.then_keep b5 k6 (fun k hk => by rcases hk with hk | hk <;> omega) (Nat.le_refl _)
  have rd6 := rd5.keepS k6 hs5 hxx
  clear h5 b5 rd5 k6
  obtain ⟨bb, off, rfl, _, hc⟩ := rd6.get (l := [2, 1]) (k := 0) (by simp)
  simp only [List.getElem_cons_zero, Nat.add_zero] at hc
  clear rd6 hxx
  go_wp2_with (first
    | (go_at_call 26; refine (len_holds bx bm 2 _ _ h6).mono ?_; rintro e w7 ⟨rfl, rfl⟩)
    | (go_at_call 28; refine (cap_holds bx bm 2 _ _ h6).mono ?_; rintro e w7 ⟨rfl, rfl⟩))
  go_ret
  exact ⟨rfl, b6⟩

set_option maxHeartbeats 1600000 in
theorem play_bad (cap : Int) (A : Option Addr) (n c : Nat) (w : World) (h : (cap < 1 ∨ 4096 < cap) ∨ 80 < n) :
    Calls Try.prog 10 #[.int .i64 cap, .slice A n c] w fun e w' => e = .returned (.tuple #[.pointer none, .bool false]) ∧ Below w.heap.size w w' := by
  by_cases hcap : cap < 1 ∨ 4096 < cap
  · go_enter Try.func10, Try.ntmps10
    go_wp2_with (go_at_call 18; refine (new_bad cap hcap _).mono ?_; rintro e w1 ⟨rfl, rfl⟩)
    go_ret2
    exact ⟨rfl, Below.refl _ _⟩
  · have hn : 80 < n := by omega
    have hn' : (80 : Int) < n := by omega
    go_enter Try.func10, Try.ntmps10
    go_wp2_with (go_at_call 18; refine (new_holds cap (by omega) (by omega) _).mono ?_; rintro e w1 ⟨bx, bm, rfl, h1, hx1, hx2, b1⟩)
    go_ret2
    exact ⟨rfl, b1⟩
set_option maxHeartbeats 1600000 in
theorem play_any (cap : Int) (hcap1 : 1 ≤ cap) (hcap2 : cap ≤ 4096) (A : Option Addr) (n c : Nat) (os : List IOp) (hn : os.length = n) (hn80 : n ≤ 80) (hok : OpsOk os) (w : World) (B : Nat) (hB : B ≤ w.heap.size) (hr : Rd w B 3 A n (ovs os)) :
    Calls Try.prog 10 #[.int .i64 cap, .slice A n c] w fun e w' => ∃ bx, e = .returned (.tuple #[.pointer (some ⟨bx, 0, none⟩), .bool true]) ∧ ∃ bm, HoldsIx w' bx bm cap (playL cap os) ∧ w.heap.size ≤ bx ∧ w.heap.size ≤ bm ∧ Below w.heap.size w w' := by
  have HN := Lib.hid hn
  have HOK := Lib.hid hok
  clear hn hok
  have hn' : ¬ (80 : Int) < n := by omega
  go_enter Try.func10, Try.ntmps10
  go_wp2_with (go_at_call 18; refine (new_holds cap hcap1 hcap2 _).mono ?_; rintro e w1 ⟨bx, bm, rfl, h1, hx1, hx2, b1⟩)
  go_loopw [8] (fun u wr => ∃ k : Nat, k ≤ n ∧ u = .int .i64 k ∧ HoldsIx wr bx bm cap (playL cap (os.take k)) ∧ Below w.heap.size w wr) (fun u _ => n - (intOf u).toNat)
  case atStart => exact ⟨0, by omega, rfl, by simpa [playL] using h1, b1⟩
  case round =>
    clear h1 b1
    obtain ⟨k, hk, rfl, hI, hbel⟩ := hrel
    by_cases hlt : k < n
    · obtain ⟨b, off, rfl, hb, hc0, hc1, hc2⟩ := ov_cells (hr.below (hbel.mono hB)) (k := k) (by rw [HN.out]; exact hlt) hlt
      have HT := Lib.hid (List.take_succ_eq_append_getElem (show k < os.length by rw [HN.out]; exact hlt))
      obtain ⟨o, ho⟩ : ∃ o, os[k]'(by rw [HN.out]; exact hlt) = o := ⟨_, rfl⟩
      rw [ho] at hc0 hc1 hc2 HT
      have HS : Hid (playL cap (os.take (k + 1)) = stepL cap (playL cap (os.take k)) o) := by show _ = _; rw [HT.out, playL_snoc]
      clear ho HT
      obtain ⟨d, p, ch⟩ := o
      have hk0 : (0 : Int) ≤ k := by omega
      have hk1 : (k : Int) < n := by omega
      cases d with
      | true =>
        go_wp2_with (go_at_call 16; refine (drop_holds bx bm cap _ ch _ hI).mono ?_; rintro e w2 ⟨rfl, h2, k2⟩)
        go_roundw
        case rel => exact ⟨k + 1, by omega, by go_num, by rw [HS.out]; exact h2, Below.then_keep hbel k2 (fun k hk => by rcases hk with hk | hk <;> omega) (Nat.le_refl _)⟩
        case measure => simp [intOf]; omega
      | false =>
        go_wp2_with fail
        go_still_tail 11, (by kernel_rfl)
        change wpList _ _ _ _ _ wr.drew
        have hI2 : HoldsIx wr.drew bx bm cap (playL cap (os.take k)) := hI
        have hb2 : Below w.heap.size w wr.drew := hbel.drew
        generalize wr.drew = w3 at hI2 hb2 ⊢
        clear hI hbel hc0 hc1 hc2
        go_wp2_with (go_at_call 17; refine (put_step bx bm cap _ p ch hcap1 _ hI2).mono ?_; rintro e w2 ⟨rfl, h2, k2⟩)
        go_roundw
        case rel => exact ⟨k + 1, by omega, by go_num, by rw [HS.out]; exact h2, Below.then_keep hb2 k2 (fun k hk => by rcases hk with hk | hk <;> omega) (Nat.le_refl _)⟩
        case measure => simp [intOf]; omega
    · have hk1 : ¬ (k : Int) < n := by omega
      have HK : Hid (os.take k = os) := List.take_of_length_le (by rw [HN.out]; omega)
      rw [HK.out] at hI
      go_wp2
      go_ret2
      exact ⟨bx, rfl, bm, hI, hx1, hx2, hbel⟩
end Go.Proofs.Ytnehbcopbioenaa
