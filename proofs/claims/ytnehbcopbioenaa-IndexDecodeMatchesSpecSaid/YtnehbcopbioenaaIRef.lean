/- The reference's index in memory, and the walks of its functions. -/
import Derived.Test.YtnehbcopbioenaaIdx5
namespace Go.Proofs.Ytnehbcopbioenaa
set_option linter.unusedVariables false
set_option linter.unusedSimpArgs false
open Go.RowKit Go.ChangeMaps

/-- the reference's index lies in block br: its capacity and a slice of its own that reads as L -/
def RefAt (w : World) (br : Nat) (cap : Int) (L : List (Int × Int)) : Prop :=
  ∃ A c, w.heap[br]? = some (.cells #[.int .i64 cap, .slice A L.length c] 56) ∧ w.ownsRow 0 39 2 (.slice A L.length c) L.length (evs L)
section
variable {w w' : World} {br bx bm : Nat} {cap cap' : Int} {L L' : List (Int × Int)}
theorem RefAt.lt (h : RefAt w br cap L) : br < w.heap.size := by obtain ⟨A, c, h1, _⟩ := h; exact (Array.getElem?_eq_some_iff.1 h1).1
theorem own_keep {base e size n c : Nat} {A : Option Addr} {xs : List Value} {S : Nat → Prop} (h : w.ownsRow base e size (.slice A n c) n xs) (hk : Keep S w w') (hS : ∀ a, A = some a → ¬ S a.block) : w'.ownsRow base e size (.slice A n c) n xs := by
  refine ⟨h.1, ?_⟩
  rcases h.2 with h0 | ⟨g, cap, cur, hv, hg, hh, r⟩
  · exact .inl h0
  · have hA : A = some ⟨g, 0, none⟩ := by injection hv
    exact .inr ⟨g, cap, cur, hv, hg, (hk.block g (Array.getElem?_eq_some_iff.1 hh).1 (hS _ hA)).trans hh, r⟩
theorem own_type {base e size n c : Nat} {A : Option Addr} {xs : List Value} (h : w.ownsRow base e size (.slice A n c) n xs) : ∀ a, A = some a → ∃ cs m, w.heap[a.block]? = some (.cells cs e m) := by
  rintro a rfl
  rcases h.2 with ⟨h0, _⟩ | ⟨g, cap, cur, hv, hg, hh, r⟩
  · cases h0
  · injection hv with hv; injection hv with hv; subst hv; exact ⟨_, _, hh⟩
theorem RefAt.keep {S : Nat → Prop} (h : RefAt w br cap L) (hk : Keep S w w') (h1 : ¬ S br) (h2 : ∀ g cs m, w.heap[g]? = some (.cells cs 39 m) → ¬ S g) : RefAt w' br cap L := by
  obtain ⟨A, c, hb, hr⟩ := h
  refine ⟨A, c, (hk.block br (Array.getElem?_eq_some_iff.1 hb).1 h1).trans hb, own_keep hr hk fun a ha => ?_⟩
  obtain ⟨cs, m, hc⟩ := own_type hr a ha
  exact h2 _ _ _ hc
theorem RefAt.below (h : RefAt w br cap L) (hb : Below w.heap.size w w') : RefAt w' br cap L := h.keep (Keep.of_below hb) (S := fun _ => False) id fun _ _ _ _ h => h
theorem HoldsIx.blocks (h : HoldsIx w bx bm cap L) : (∃ cs, w.heap[bx]? = some (.cells cs 70)) ∧ ∃ es k, w.heap[bm]? = some (.map es k) := by
  obtain ⟨s, hI, _⟩ := h
  obtain ⟨es, k, _, hb, _⟩ := hI.2.2
  exact ⟨⟨_, hI.2.1⟩, es, k, hb⟩
/-- what the program's index does leaves the reference's alone -/
theorem RefAt.prog (h : RefAt w br cap L) (hx : HoldsIx w bx bm cap' L') (hk : Keep (fun k => k = bx ∨ k = bm) w w') : RefAt w' br cap L := by
  obtain ⟨⟨cs, h1⟩, es, k, h2⟩ := hx.blocks
  refine h.keep hk ?_ ?_
  · obtain ⟨A, c, hb, _⟩ := h
    rintro (rfl | rfl)
    · rw [h1] at hb; cases hb
    · rw [h2] at hb; cases hb
  · rintro g cs m hg (rfl | rfl)
    · rw [h1] at hg; cases hg
    · rw [h2] at hg; cases hg
/-- what the reference's index does leaves the program's alone -/
theorem HoldsIx.ref (hx : HoldsIx w bx bm cap' L') (h : RefAt w br cap L) (hk : Keep (fun k => k = br) w w') : HoldsIx w' bx bm cap' L' := by
  obtain ⟨⟨cs, h1⟩, es, k, h2⟩ := hx.blocks
  obtain ⟨A, c, hb, _⟩ := h
  refine hx.keep hk ?_ ?_
  · rintro rfl; rw [h1] at hb; cases hb
  · rintro rfl; rw [h2] at hb; cases hb
end

theorem refNew_bad (n : Int) (hn : n < 1 ∨ 4096 < n) (w : World) :
    Calls Try.prog 19 #[.int .i64 n] w fun e w' => e = .returned (.tuple #[.pointer none, .int .i64 1]) ∧ w = w' := by
  rcases hn with h | h
  · go_enter Try.func19, Try.ntmps19
    go_wp2
    go_ret2
    exact ⟨rfl, rfl⟩
  · have h1 : ¬ n < 1 := by omega
    go_enter Try.func19, Try.ntmps19
    go_wp2
    go_ret2
    exact ⟨rfl, rfl⟩
theorem refNew_any (n : Int) (h1 : 1 ≤ n) (h2 : n ≤ 4096) (w : World) :
    Calls Try.prog 19 #[.int .i64 n] w fun e w' => ∃ br, e = .returned (.tuple #[.pointer (some ⟨br, 0, none⟩), .int .i64 0]) ∧ RefAt w' br n [] ∧ w.heap.size ≤ br ∧ Below w.heap.size w w' := by
  go_enter Try.func19, Try.ntmps19
  go_wp2
  go_ret2
  exact ⟨w.heap.size, rfl, ⟨none, 0, heap_alloc_new _ _, World.ownsRow_nil _ _ _ _⟩, Nat.le_refl _, (Below.refl _ w).alloc (Nat.le_refl _) _⟩
section
variable {w : World} {br : Nat} {cap : Int} {L : List (Int × Int)}
theorem refCells {A : Option Addr} {n c : Nat} (h : w.heap[br]? = some (.cells #[.int .i64 cap, .slice A n c] 56)) : w.cell? ⟨br, 0, none⟩ = some (.int .i64 cap) ∧ w.cell? ⟨br, 1, none⟩ = some (.slice A n c) := by
  refine ⟨?_, ?_⟩ <;> (rw [cell_of_row _ _ _ _ _ _ h]; rfl)
theorem refLen_any (h : RefAt w br cap L) : Calls Try.prog 27 #[.pointer (some ⟨br, 0, none⟩)] w fun e w' => e = .returned (.int .i64 L.length) ∧ w = w' := by
  obtain ⟨A, c, hb, hr⟩ := h
  obtain ⟨hc0, hc1⟩ := refCells hb
  clear hb hr
  go_enter Try.func27, Try.ntmps27
  go_wp2
  go_ret
  exact ⟨rfl, rfl⟩
theorem refCap_any (h : RefAt w br cap L) : Calls Try.prog 29 #[.pointer (some ⟨br, 0, none⟩)] w fun e w' => e = .returned (.int .i64 cap) ∧ w = w' := by
  obtain ⟨A, c, hb, hr⟩ := h
  obtain ⟨hc0, hc1⟩ := refCells hb
  clear hb hr
  go_enter Try.func29, Try.ntmps29
  go_wp2
  go_ret
  exact ⟨rfl, rfl⟩
theorem refAll_any (hlen : L.length ≤ 1099511627776) (h : RefAt w br cap L) : Calls Try.prog 25 #[.pointer (some ⟨br, 0, none⟩)] w fun e w' => ∃ A c, e = .returned (.slice A L.length c) ∧ w'.ownsRow w.heap.size 39 2 (.slice A L.length c) L.length (evs L) ∧ Below w.heap.size w w' := by
  obtain ⟨A, c, hb, hr⟩ := h
  obtain ⟨hc0, hc1⟩ := refCells hb
  have rd := Rd.of_own hr
  clear hb hr
  go_enter Try.func25, Try.ntmps25
  go_wp2_with (at_builtin; refine wpList_appR rfl (.tmp 4) (.tmp 8) 27 rfl w.heap.size 39 _ 2 16 entryT none 0 0 [] A L.length c (evs L) rfl rfl (World.ownsRow_nil _ _ _ _) rd (evs_one L) (Below.refl _ w) (by omega) (Nat.le_refl _) (Nat.le_refl _) ?_; intro A1 c1 w1 own1 hb1)
  go_ret
  simp only [Nat.zero_add, List.nil_append] at own1 ⊢
  exact ⟨A1, c1, rfl, own1, hb1⟩
end

set_option maxHeartbeats 800000 in
theorem refFind_any (p : Int) (br : Nat) (cap : Int) (L : List (Int × Int)) (hlen : L.length ≤ 1099511627776) (w : World) (h : RefAt w br cap L) :
    Calls Try.prog 24 #[.pointer (some ⟨br, 0, none⟩), .int .u32 p] w fun e W' => ∃ A c, e = .returned (.slice A (findL p L).length c) ∧ W'.ownsRow w.heap.size 3 1 (.slice A (findL p L).length c) (findL p L).length (ivs (findL p L)) ∧ Below w.heap.size w W' := by
  have hblt := h.lt
  obtain ⟨A, c, hb, hr⟩ := h
  obtain ⟨hc0, hc1⟩ := refCells hb
  have rd := Rd.of_own hr
  clear hb hr hc0
  go_enter Try.func24, Try.ntmps24
  go_wp2
  go_loopw [5, 6] (fun u5 u6 wr => ∃ (k : Nat) (A' : Option Addr) (c' n' : Nat), k ≤ L.length ∧ u6 = .int .i64 k ∧ u5 = .slice A' n' c' ∧ Hid (n' = (findL p (L.take k)).length) ∧ wr.ownsRow w.heap.size 3 1 (.slice A' n' c') n' (ivs (findL p (L.take k))) ∧ Below w.heap.size w wr)
    (fun _ u _ => L.length - (intOf u).toNat)
  case atStart => exact ⟨0, none, 0, 0, by omega, rfl, rfl, rfl, World.ownsRow_nil _ _ _ _, Below.refl _ _⟩
  case round =>
    obtain ⟨k, A', c', n', hk, rfl, rfl, HN, own, hbel⟩ := hrel
    have hd1 : wr.cell? ⟨br, 1, none⟩ = some (.slice A L.length c) := (hbel.cell (p := ⟨br, 1, none⟩) hblt).trans hc1
    by_cases hlt : k < L.length
    · obtain ⟨b, off, rfl, hb, hcp, hcc⟩ := ev_cells (rd.below hbel) hlt hlt
      have hle := findL_le p (L.take k)
      rw [← HN.out, List.length_take] at hle
      have HT := Lib.hid (List.take_succ_eq_append_getElem hlt)
      have hn' : n' ≤ 1099511627776 := by omega
      clear hle
      obtain ⟨x, hx⟩ : ∃ x, L[k] = x := ⟨_, rfl⟩
      rw [hx] at hcp hcc HT
      clear hx
      have hk0 : (0 : Int) ≤ k := by omega
      have hk1 : (k : Int) < L.length := by omega
      go_wp2_with (at_builtin; refine wpList_app1 rfl (.tmp 26) (.tmp 35) 30 rfl w.heap.size 3 _ 8 intT A' n' c' _ _ rfl rfl own hbel rfl (by omega) (Nat.le_refl _) hbel.size ?_; intro g c4 w4 own4 hbel4 _)
      · have ht : (x.1 == p) = true := by assumption
        go_roundw
        case rel =>
          refine ⟨k + 1, some ⟨g, 0, none⟩, c4, n' + 1, by omega, by go_num, rfl, ?_, ?_, hbel4⟩
          · show _ = _; rw [HT.out, findL_hit _ ht, HN.out]; simp
          · rw [HT.out, findL_hit _ ht, ← ivs_snoc _ _ rfl]; exact own4
        case measure => simp [intOf]; omega
      · have ht : (x.1 == p) = false := by assumption
        go_roundw
        case rel =>
          refine ⟨k + 1, A', c', n', by omega, by go_num, rfl, ?_, ?_, hbel⟩
          · show _ = _; rw [HT.out, findL_miss _ ht]; exact HN.out
          · rw [HT.out, findL_miss _ ht]; exact own
        case measure => simp [intOf]; omega
    · have HK : Hid (L.take k = L) := List.take_of_length_le (by omega)
      have hk1 : ¬ (k : Int) < L.length := by omega
      go_wp2
      go_ret
      have h1 := HN.out
      rw [HK.out] at own h1
      subst h1
      exact ⟨A', c', rfl, own, hbel⟩
end Go.Proofs.Ytnehbcopbioenaa
