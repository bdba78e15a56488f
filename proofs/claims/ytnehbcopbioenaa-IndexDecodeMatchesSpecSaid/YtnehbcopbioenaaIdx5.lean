/- The index's Clone. -/
import Derived.Test.YtnehbcopbioenaaIdx4
namespace Go.Proofs.Ytnehbcopbioenaa
set_option linter.unusedVariables false
set_option linter.unusedSimpArgs false
open Go.RowKit Go.ChangeMaps

/-- an index in memory that stands for the list L -/
def HoldsIx (w : World) (bx bm : Nat) (cap : Int) (L : List (Int × Int)) : Prop := ∃ s, IxAt w bx bm s ∧ Rep s L ∧ s.cap = cap ∧ Good L
theorem HoldsIx.below {w w' : World} {B bx bm : Nat} {cap : Int} {L : List (Int × Int)} (h : HoldsIx w bx bm cap L) (hb : Below B w w') (h1 : bx < B) (h2 : bm < B) : HoldsIx w' bx bm cap L := by
  obtain ⟨s, r, q⟩ := h; exact ⟨s, r.below hb h1 h2, q⟩
theorem HoldsIx.keep {w w' : World} {S : Nat → Prop} {bx bm : Nat} {cap : Int} {L : List (Int × Int)} (h : HoldsIx w bx bm cap L) (hk : Keep S w w') (h1 : ¬ S bx) (h2 : ¬ S bm) : HoldsIx w' bx bm cap L := by
  obtain ⟨s, r, q⟩ := h; exact ⟨s, r.keep hk h1 h2, q⟩
theorem HoldsIx.lt {w : World} {bx bm : Nat} {cap : Int} {L : List (Int × Int)} (h : HoldsIx w bx bm cap L) : bx < w.heap.size ∧ bm < w.heap.size := by obtain ⟨s, r, q⟩ := h; exact r.lt
theorem rep_empty (n : Int) : Rep (ISt.empty n) [] := ⟨rfl, rfl, fun _ => rfl, rfl⟩
theorem good_nil : Good [] := ⟨by simp, by simp⟩

/-- Put on what the index stands for -/
theorem put_holds (bx bm : Nat) (cap : Int) (L : List (Int × Int)) (p c : Int) (hc1 : 1 ≤ c) (hc2 : c ≤ 65536) (hcap : 1 ≤ cap) (w : World) (h : HoldsIx w bx bm cap L) :
    Calls Try.prog 17 #[.pointer (some ⟨bx, 0, none⟩), .int .u32 p, .int .i64 c] w fun e w' => e = .returned (.tuple #[.int .i64 (lput cap L p c).2, .int .i64 0]) ∧ HoldsIx w' bx bm cap (lput cap L p c).1 ∧ Keep (fun k => k = bx ∨ k = bm) w w' := by
  obtain ⟨s, hI, hR, rfl, hG⟩ := h
  refine (put_any bx bm s p c hc1 hc2 w hI).mono ?_
  rintro e w' ⟨rfl, h1, hk⟩
  obtain ⟨r1, r2, r3⟩ := hR.put hG p c (by omega) hcap
  exact ⟨by rw [r3], ⟨_, h1, r1, r2, lput_good hG p c (by omega)⟩, hk⟩
theorem drop_holds (bx bm : Nat) (cap : Int) (L : List (Int × Int)) (c : Int) (w : World) (h : HoldsIx w bx bm cap L) :
    Calls Try.prog 16 #[.pointer (some ⟨bx, 0, none⟩), .int .i64 c] w fun e w' => e = .returned (.bool (decide (c ∈ L.map (·.2)))) ∧ HoldsIx w' bx bm cap (del c L) ∧ Keep (fun k => k = bx ∨ k = bm) w w' := by
  obtain ⟨s, hI, hR, rfl, hG⟩ := h
  refine (drop_any bx bm s c w hI).mono ?_
  rintro e w' ⟨rfl, h1, hk⟩
  obtain ⟨r1, r2⟩ := hR.drop hG c
  exact ⟨by rw [hR.has c], ⟨_, h1, r1, r2, hG.del c⟩, hk⟩
theorem new_holds (n : Int) (h1 : 1 ≤ n) (h2 : n ≤ 4096) (w : World) :
    Calls Try.prog 18 #[.int .i64 n] w fun e w' => ∃ bx bm, e = .returned (.tuple #[.pointer (some ⟨bx, 0, none⟩), .int .i64 0]) ∧ HoldsIx w' bx bm n [] ∧ w.heap.size ≤ bx ∧ w.heap.size ≤ bm ∧ Below w.heap.size w w' := by
  refine (new_any n h1 h2 w).mono ?_
  rintro e w' ⟨bx, bm, rfl, h, q⟩
  exact ⟨bx, bm, rfl, ⟨_, h, rep_empty n, rfl, good_nil⟩, q⟩
theorem all_holds (bx bm : Nat) (cap : Int) (L : List (Int × Int)) (hlen : L.length ≤ 1099511627776) (w : World) (h : HoldsIx w bx bm cap L) :
    Calls Try.prog 11 #[.pointer (some ⟨bx, 0, none⟩)] w fun e W' => ∃ A c, e = .returned (.slice A L.length c) ∧ W'.ownsRow w.heap.size 39 2 (.slice A L.length c) L.length (evs L) ∧ Below w.heap.size w W' := by
  obtain ⟨s, hI, hR, rfl, hG⟩ := h
  exact all_any bx bm s L hR hG hlen w hI
theorem find_holds (p : Int) (bx bm : Nat) (cap : Int) (L : List (Int × Int)) (hlen : L.length ≤ 1099511627776) (w : World) (h : HoldsIx w bx bm cap L) :
    Calls Try.prog 13 #[.pointer (some ⟨bx, 0, none⟩), .int .u32 p] w fun e W' => ∃ A c, e = .returned (.slice A (findL p L).length c) ∧ W'.ownsRow w.heap.size 3 1 (.slice A (findL p L).length c) (findL p L).length (ivs (findL p L)) ∧ Below w.heap.size w W' := by
  obtain ⟨s, hI, hR, rfl, hG⟩ := h
  exact find_any p bx bm s L hR hG hlen w hI
theorem len_holds (bx bm : Nat) (cap : Int) (L : List (Int × Int)) (w : World) (h : HoldsIx w bx bm cap L) :
    Calls Try.prog 26 #[.pointer (some ⟨bx, 0, none⟩)] w fun e W' => e = .returned (.int .i64 L.length) ∧ w = W' := by
  obtain ⟨s, hI, hR, rfl, hG⟩ := h
  refine (len_any hI).mono ?_
  rintro e w' ⟨rfl, rfl⟩
  exact ⟨by rw [hR.2.2.2], rfl⟩
theorem cap_holds (bx bm : Nat) (cap : Int) (L : List (Int × Int)) (w : World) (h : HoldsIx w bx bm cap L) :
    Calls Try.prog 28 #[.pointer (some ⟨bx, 0, none⟩)] w fun e W' => e = .returned (.int .i64 cap) ∧ w = W' := by
  obtain ⟨s, hI, hR, rfl, hG⟩ := h
  exact cap_any hI

theorem ev_cells {w : World} {B n : Nat} {A : Option Addr} {L : List (Int × Int)} (h : Rd w B 2 A n (evs L)) {k : Nat} (hk : k < L.length) (hkn : k < n) :
    ∃ b off, A = some ⟨b, off, none⟩ ∧ b < B ∧ w.cell? ⟨b, off + k * 2, none⟩ = some (.int .u32 L[k].1) ∧ w.cell? ⟨b, off + k * 2 + 1, none⟩ = some (.int .i64 L[k].2) := by
  obtain ⟨b, off, rfl, hb, hr⟩ := h.elem (fun e _ => ev_len e) hk hkn
  exact ⟨b, off, rfl, hb, hr 0 _ rfl, hr 1 _ rfl⟩
theorem good_drop {L : List (Int × Int)} (g : Good L) (k : Nat) : Good (L.drop k) := ⟨List.Nodup.sublist (List.Sublist.map _ (List.drop_sublist _ _)) g.1, fun e he => g.2 e (List.mem_of_mem_drop he)⟩
theorem lput_front {cap : Int} {L : List (Int × Int)} (g : Good L) (hcap : (L.length : Int) ≤ cap) {k : Nat} (hk : k < L.length) : lput cap (L.drop (k + 1)) L[k].1 L[k].2 = (L.drop k, 0) := by
  have e : L.drop k = L[k] :: L.drop (k + 1) := List.drop_eq_getElem_cons hk
  have hm : L[k].2 ∉ (L.drop (k + 1)).map (·.2) := by
    have := (good_drop g k).1
    rw [e, List.map_cons, List.nodup_cons] at this
    exact this.1
  unfold lput
  rw [if_neg (by rw [List.length_drop]; omega), del_none hm, e]

set_option maxHeartbeats 1600000 in
theorem clone_any (bx bm : Nat) (cap : Int) (L : List (Int × Int)) (hcap1 : 1 ≤ cap) (hcap2 : cap ≤ 4096) (hlen : (L.length : Int) ≤ cap) (hch : ∀ e ∈ L, 1 ≤ e.2 ∧ e.2 ≤ 65536) (w : World) (h : HoldsIx w bx bm cap L) :
    Calls Try.prog 20 #[.pointer (some ⟨bx, 0, none⟩)] w fun e W' => ∃ bx' bm', e = .returned (.pointer (some ⟨bx', 0, none⟩)) ∧ HoldsIx W' bx' bm' cap L ∧ w.heap.size ≤ bx' ∧ w.heap.size ≤ bm' ∧ Below w.heap.size w W' := by
  obtain ⟨hG, hc0⟩ : Good L ∧ w.cell? ⟨bx, 0, none⟩ = some (.int .i64 cap) := by obtain ⟨s, hI, hR, rfl, hG⟩ := h; exact ⟨hG, hI.cells.1⟩
  have hblt := h.lt
  have HG := Lib.hid hG
  have HCH := Lib.hid hch
  clear hG hch
  go_enter Try.func20, Try.ntmps20
  go_wp2_with fail
  refine (new_holds cap hcap1 hcap2 _).mono ?_
  rintro e w1 ⟨bx', bm', rfl, h1, hx1, hx2, hb1⟩
  have h0 := h.below hb1 hblt.1 hblt.2
  go_wp2_with fail
  refine (all_holds bx bm cap L (by omega) _ h0).mono ?_
  rintro e w2 ⟨A, c, rfl, own, hb2⟩
  have hlt1 := h1.lt
  have h2 := h1.below hb2 hlt1.1 hlt1.2
  have rd := Rd.of_own own
  have hAb := own_block_lt own
  have hbb := hb1.trans (hb2.mono hb1.size)
  clear h0 h hc0 own hb2 hb1 h1
  go_wp2_with fail
  go_loopw [6] (fun u wr => ∃ k : Nat, k ≤ L.length ∧ u = .int .i64 ((k : Int) - 1) ∧ HoldsIx wr bx' bm' cap (L.drop k) ∧ Rd wr w2.heap.size 2 A L.length (evs L) ∧ w2.heap.size ≤ wr.heap.size ∧ Below w.heap.size w wr) (fun u _ => (intOf u + 1).toNat)
  case atStart => exact ⟨L.length, Nat.le_refl _, rfl, by simpa using h2, rd, Nat.le_refl _, hbb⟩
  case round =>
    clear h2 rd hbb
    obtain ⟨k, hk, rfl, hI, rd, hsz, hbb⟩ := hrel
    cases k with
    | zero =>
      go_wp2
      go_ret
      exact ⟨bx', bm', rfl, by simpa using hI, hx1, hx2, hbb⟩
    | succ k =>
      obtain ⟨b, off, rfl, hb, hcp, hcc⟩ := ev_cells rd (show k < L.length by omega) (by omega)
      have hch := HCH.out L[k] (List.getElem_mem _)
      have HF := Lib.hid (lput_front (cap := cap) HG.out hlen (show k < L.length by omega))
      obtain ⟨p, hp⟩ : ∃ p, L[k].1 = p := ⟨_, rfl⟩
      obtain ⟨ch, hc⟩ : ∃ ch, L[k].2 = ch := ⟨_, rfl⟩
      rw [hp, hc] at HF
      rw [hp] at hcp
      rw [hc] at hcc hch
      clear hp hc
      have e1 : ((k + 1 : Nat) : Int) - 1 = k := by omega
      rw [e1]
      go_wp2
      have hk0 : (0 : Int) ≤ k := by omega
      have hk1 : (k : Int) < L.length := by omega
      have HE1 := Lib.hid e1
      clear e1
      go_still_tail 11, (by kernel_rfl)
      change wpList _ _ _ _ _ wr.drew
      generalize hwd : wr.drew = w3
      have hI3 : HoldsIx w3 bx' bm' cap (L.drop (k + 1)) := by rw [← hwd]; exact hI
      have hbb3 : Below w.heap.size w w3 := by rw [← hwd]; exact hbb.drew
      have rd3 : Rd w3 w2.heap.size 2 (some ⟨b, off, none⟩) L.length (evs L) := by rw [← hwd]; exact rd.drew
      have hsz3 : w2.heap.size ≤ w3.heap.size := by rw [← hwd]; exact hsz
      clear hI hbb rd hsz hcp hcc hwd
      go_wp2_with fail
      refine (put_holds bx' bm' cap (L.drop (k + 1)) p ch hch.1 hch.2 hcap1 _ hI3).mono ?_
      rintro e w4 ⟨rfl, hI4, hk4⟩
      rw [HF.out] at hI4
      go_wp2_with fail
      go_roundw
      case rel =>
        refine ⟨k, by omega, rfl, hI4, rd3.keepS hk4 hsz3 ?_, Nat.le_trans hsz3 hk4.size, ?_⟩
        · intro a ha
          obtain ⟨q1, q2⟩ := hAb a ha
          rintro (q | q)
          · omega
          · omega
        · exact hbb3.trans (hk4.below hbb3.size (fun k hk q => by rcases q with q | q <;> omega))
      case measure => simp [intOf]
end Go.Proofs.Ytnehbcopbioenaa
