/- The reference's Drop and Put. -/
import Derived.Test.YtnehbcopbioenaaIRef
import Derived.IntWalk
namespace Go.Proofs.Ytnehbcopbioenaa
set_option linter.unusedVariables false
set_option linter.unusedSimpArgs false
open Go.RowKit Go.ChangeMaps

theorem del_le (c : Int) (L : List (Int × Int)) : (del c L).length ≤ L.length := List.length_filter_le _ _
theorem del_hit {c : Int} (L : List (Int × Int)) {x : Int × Int} (h : (x.2 != c) = true) : del c (L ++ [x]) = del c L ++ [x] := by simp [del, List.filter_append, h]
theorem del_miss {c : Int} (L : List (Int × Int)) {x : Int × Int} (h : (x.2 != c) = false) : del c (L ++ [x]) = del c L := by simp [del, List.filter_append, h]
theorem del_lt {c : Int} {L : List (Int × Int)} : (del c L).length < L.length ↔ c ∈ L.map (·.2) := by
  rw [show (del c L).length < L.length ↔ (del c L).length ≠ L.length by have := del_le c L; omega]
  constructor
  · intro h
    apply Decidable.byContradiction
    intro hm
    exact h (by rw [del_none hm])
  · intro hm he
    have : del c L = L := List.filter_eq_self.2 (List.length_filter_eq_length_iff.1 he)
    exact not_mem_del c L (by rw [this]; exact hm)

set_option maxHeartbeats 1600000 in
theorem refDrop_any (ch : Int) (br : Nat) (cap : Int) (L : List (Int × Int)) (hlen : L.length ≤ 1099511627776) (w : World) (h : RefAt w br cap L) :
    Calls Try.prog 22 #[.pointer (some ⟨br, 0, none⟩), .int .i64 ch] w fun e W' => e = .returned (.bool (decide (ch ∈ L.map (·.2)))) ∧ RefAt W' br cap (del ch L) ∧ Keep (fun k => k = br) w W' := by
  have hblt := h.lt
  obtain ⟨A, c, hb, hr⟩ := h
  obtain ⟨hc0, hc1⟩ := refCells hb
  have rd := Rd.of_own hr
  have HB := Lib.hid hb
  clear hb hr hc0
  obtain ⟨S, hS⟩ : ∃ S, decide (ch ∈ L.map (·.2)) = S := ⟨_, rfl⟩
  rw [hS]
  have HS := Lib.hid hS
  clear hS
  go_enter Try.func22, Try.ntmps22
  go_wp2
  go_loopw [5, 6] (fun u5 u6 wr => ∃ (k : Nat) (A' : Option Addr) (c' n' : Nat), k ≤ L.length ∧ u6 = .int .i64 k ∧ u5 = .slice A' n' c' ∧ Hid (n' = (del ch (L.take k)).length) ∧ wr.ownsRow w.heap.size 39 2 (.slice A' n' c') n' (evs (del ch (L.take k))) ∧ Below w.heap.size w wr)
    (fun _ u _ => L.length - (intOf u).toNat)
  case atStart => exact ⟨0, none, 0, 0, by omega, rfl, rfl, rfl, World.ownsRow_nil _ _ _ _, Below.refl _ _⟩
  case round =>
    obtain ⟨k, A', c', n', hk, rfl, rfl, HN, own, hbel⟩ := hrel
    have hd1 : wr.cell? ⟨br, 1, none⟩ = some (.slice A L.length c) := (hbel.cell (p := ⟨br, 1, none⟩) hblt).trans hc1
    by_cases hlt : k < L.length
    · obtain ⟨b, off, rfl, hb, hcp, hcc⟩ := ev_cells (rd.below hbel) hlt hlt
      have hle := del_le ch (L.take k)
      rw [← HN.out, List.length_take] at hle
      have HT := Lib.hid (List.take_succ_eq_append_getElem hlt)
      have hn' : n' ≤ 1099511627776 := by omega
      clear hle
      obtain ⟨x, hx⟩ : ∃ x, L[k] = x := ⟨_, rfl⟩
      rw [hx] at hcp hcc HT
      clear hx
      have hk0 : (0 : Int) ≤ k := by omega
      have hk1 : (k : Int) < L.length := by omega
      go_wp2_with (at_builtin; refine wpList_appN rfl (.tmp 27) (.tmp 35) 27 rfl w.heap.size 39 _ 2 16 entryT A' n' c' _ (ev x) _ rfl rfl rfl own hbel rfl (ev_one x) (by omega) (Nat.le_refl _) hbel.size ?_; intro g c4 w4 own4 hbel4 _)
      · have ht : (x.2 != ch) = true := by assumption
        go_roundw
        case rel =>
          refine ⟨k + 1, some ⟨g, 0, none⟩, c4, n' + 1, by omega, by go_num, rfl, ?_, ?_, hbel4⟩
          · show _ = _; rw [HT.out, del_hit _ ht, HN.out]; simp
          · rw [HT.out, del_hit _ ht, ← evs_snoc]; exact own4
        case measure => simp [intOf]; omega
      · have ht : (x.2 != ch) = false := by assumption
        go_roundw
        case rel =>
          refine ⟨k + 1, A', c', n', by omega, by go_num, rfl, ?_, ?_, hbel⟩
          · show _ = _; rw [HT.out, del_miss _ ht]; exact HN.out
          · rw [HT.out, del_miss _ ht]; exact own
        case measure => simp [intOf]; omega
    · have HK : Hid (L.take k = L) := List.take_of_length_le (by omega)
      have hk1 : ¬ (k : Int) < L.length := by omega
      have h1 := HN.out
      rw [HK.out] at own h1
      have hb3 : wr.heap[br]? = _ := (hbel.block br hblt).trans HB.out
      have hfz : wr.frozen? ⟨br, 1, none⟩ = false := frozen_of_row _ _ _ _ _ hb3
      have H1 := Lib.hid h1
      have HB3 := Lib.hid hb3
      have HO := Lib.hid own
      have e1 : Hid (decide ((n' : Int) < L.length) = S) := by
        show _ = _
        rw [← HS.out, h1, decide_eq_decide, Int.ofNat_lt, del_lt]
      clear h1 hb3 own HN HS rd hc1
      go_wp2
      go_ret
      have e2 := e1.out
      have e3 := H1.out
      subst e3
      refine ⟨ret_bool ?_, ⟨A', c', heap_setCell_same wr br 1 _ _ _ HB3.out, ?_⟩, Keep.setCell (S := fun k => k = br) (Keep.of_below hbel) (a := ⟨br, 1, none⟩) (.inl rfl) _⟩
      · first | exact e2 | simpa using e2
      · refine own_keep (S := fun k => k = br) (own_base HO.out (Nat.zero_le _)) (Keep.setCell (S := fun k => k = br) (Keep.refl _ wr) (a := ⟨br, 1, none⟩) (.inl rfl) _) fun a ha q => ?_
        have := own_block_lt HO.out a ha
        omega
theorem refPut_bad (x : Option Addr) (p c : Int) (hc : c < 1 ∨ 65536 < c) (w : World) :
    Calls Try.prog 23 #[.pointer x, .int .u32 p, .int .i64 c] w fun e w' => e = .returned (.tuple #[.int .i64 0, .int .i64 1]) ∧ w = w' := by
  rcases hc with h | h
  · go_enter Try.func23, Try.ntmps23
    go_wp2
    go_ret2
    exact ⟨rfl, rfl⟩
  · have h1 : ¬ c < 1 := by omega
    go_enter Try.func23, Try.ntmps23
    go_wp2
    go_ret2
    exact ⟨rfl, rfl⟩

theorem evs_take (L : List (Int × Int)) (n : Nat) : evs (L.take n) = (evs L).take (n * 2) := by
  induction n generalizing L with
  | zero => simp [evs]
  | succ n ih =>
    cases L with
    | nil => simp [evs]
    | cons e L =>
      rw [List.take_succ_cons]
      show ev e ++ evs (L.take n) = List.take ((n + 1) * 2) (ev e ++ evs L)
      rw [ih, show (n + 1) * 2 = n * 2 + 1 + 1 by omega]
      rfl
/-- a literal of one element of several cells -/
theorem own_lit (w : World) (us : List Value) (e : TypeId) (size base : Nat) (hb : base ≤ w.heap.size) (hl : us.length = size) : (w.alloc (.cells us.toArray e)).ownsRow base e size (.slice (some ⟨w.heap.size, 0, none⟩) 1 1) 1 us := by
  refine ⟨by omega, .inr ⟨w.heap.size, 1, us.toArray, rfl, hb, heap_alloc_new w _, Nat.le_refl _, by unfold maxLen; omega, ?_, ?_⟩⟩
  · simp [hl]
  · simp [← hl]

/-- Put, where the chunk was there before or the index is not full -/
theorem refPut_room (p ch : Int) (hc1 : 1 ≤ ch) (hc2 : ch ≤ 65536) (br : Nat) (cap : Int) (L : List (Int × Int)) (hlen : L.length ≤ 1099511627776) (hm : ¬ (ch ∉ L.map (·.2) ∧ (L.length : Int) = cap)) (w : World) (h : RefAt w br cap L) :
    Calls Try.prog 23 #[.pointer (some ⟨br, 0, none⟩), .int .u32 p, .int .i64 ch] w fun e W' => e = .returned (.tuple #[.int .i64 0, .int .i64 0]) ∧ RefAt W' br cap ((p, ch) :: del ch L) ∧ Keep (fun k => k = br) w W' := by
  have hdl := del_le ch L
  go_enter Try.func23, Try.ntmps23
  have HM := Lib.hid hm
  clear hm
  go_wp2_with fail
  refine (refDrop_any ch br cap L hlen _ h).mono ?_
  rintro e w1 ⟨rfl, h1, hk1⟩
  clear h
  have hblt := h1.lt
  have h2 := h1
  obtain ⟨A, c, hb, hr⟩ := h2
  obtain ⟨hd0, hd1⟩ := refCells hb
  obtain ⟨S, hS⟩ : ∃ S, decide (ch ∈ L.map (·.2)) = S := ⟨_, rfl⟩
  rw [hS]
  have HS := Lib.hid hS
  clear hS
  have HR := Lib.hid hr
  have HB := Lib.hid hb
  clear hr hb
  have ht : S = false → (((del ch L).length : Int) == cap) = false := by
    intro hs
    have h1 := HS.out
    rw [hs, decide_eq_false_iff_not] at h1
    have h2 := HM.out
    have h3 := del_none h1
    rw [h3]
    simp only [beq_eq_false_iff_ne, ne_eq]
    exact fun h => h2 ⟨h1, h⟩
  cases S with
  | true =>
    clear ht
    go_wp2_with fail
    go_quiet (fail)
    generalize hwd : (w1.alloc (.cells #[.int .u32 p, .int .i64 ch] 39)).drewN nq = w2
    have b2 : Below w1.heap.size w1 w2 := by rw [← hwd]; exact below_drewN ((Below.refl _ _).alloc (Nat.le_refl _) _) _
    have own2 : w2.ownsRow w1.heap.size 39 2 (.slice (some ⟨w1.heap.size, 0, none⟩) 1 1) 1 (evs [(p, ch)]) := by rw [← hwd]; exact own_drewN (own_lit w1 (ev (p, ch)) _ 2 _ (Nat.le_refl _) rfl) _
    have rd2 : Rd w2 w1.heap.size 2 A (del ch L).length (evs (del ch L)) := (Rd.of_own HR.out).below b2
    have hs2 : w1.heap.size ≤ w2.heap.size := b2.size
    have he1 : w2.cell? ⟨br, 1, none⟩ = some (.slice A (del ch L).length c) := (b2.cell (p := ⟨br, 1, none⟩) hblt).trans hd1
    clear hwd hd0 hd1
    go_wp2_with (at_builtin; refine wpList_appR rfl (.tmp 67) (.tmp 71) 27 rfl w1.heap.size 39 _ 2 16 entryT (some ⟨w1.heap.size, 0, none⟩) 1 1 (evs [(p, ch)]) A (del ch L).length c (evs (del ch L)) rfl rfl own2 rd2 (evs_one _) b2 (by omega) (Nat.le_refl _) hs2 ?_; intro A3 c3 w3 own3 b3; have hf3 : w3.frozen? ⟨br, 1, none⟩ = false := (frozen_of_row _ _ _ _ _ ((b3.block br hblt).trans HB.out)); have he3 : w3.cell? ⟨br, 1, none⟩ = some (.slice A (del ch L).length c) := (b3.cell (p := ⟨br, 1, none⟩) hblt).trans (by rw [cell_of_row _ _ _ _ _ _ HB.out]; rfl))
    go_ret2
    refine ⟨rfl, ⟨A3, c3, ?_, ?_⟩, hk1.trans (Keep.setCell (S := fun k => k = br) (Keep.of_below b3) (a := ⟨br, 1, none⟩) (.inl rfl) _)⟩
    · have := heap_setCell_same w3 br 1 _ _ (.slice A3 (1 + (del ch L).length) c3) ((b3.block br hblt).trans HB.out)
      rw [show ((p, ch) :: del ch L).length = 1 + (del ch L).length by simp; omega]
      exact this
    · have e1 : evs [(p, ch)] ++ evs (del ch L) = evs ((p, ch) :: del ch L) := rfl
      rw [e1] at own3
      rw [show ((p, ch) :: del ch L).length = 1 + (del ch L).length by simp; omega]
      refine own_keep (S := fun k => k = br) (own_base own3 (Nat.zero_le _)) (Keep.setCell (S := fun k => k = br) (Keep.refl _ w3) (a := ⟨br, 1, none⟩) (.inl rfl) _) fun a ha q => ?_
      have := own_block_lt own3 a ha
      omega
  | false =>
    have ht' := ht rfl
    clear ht
    go_wp2_with fail
    go_quiet (fail)
    generalize hwd : (w1.alloc (.cells #[.int .u32 p, .int .i64 ch] 39)).drewN nq = w2
    have b2 : Below w1.heap.size w1 w2 := by rw [← hwd]; exact below_drewN ((Below.refl _ _).alloc (Nat.le_refl _) _) _
    have own2 : w2.ownsRow w1.heap.size 39 2 (.slice (some ⟨w1.heap.size, 0, none⟩) 1 1) 1 (evs [(p, ch)]) := by rw [← hwd]; exact own_drewN (own_lit w1 (ev (p, ch)) _ 2 _ (Nat.le_refl _) rfl) _
    have rd2 : Rd w2 w1.heap.size 2 A (del ch L).length (evs (del ch L)) := (Rd.of_own HR.out).below b2
    have hs2 : w1.heap.size ≤ w2.heap.size := b2.size
    have he1 : w2.cell? ⟨br, 1, none⟩ = some (.slice A (del ch L).length c) := (b2.cell (p := ⟨br, 1, none⟩) hblt).trans hd1
    clear hwd hd0 hd1 ht'
    go_wp2_with (at_builtin; refine wpList_appR rfl (.tmp 67) (.tmp 71) 27 rfl w1.heap.size 39 _ 2 16 entryT (some ⟨w1.heap.size, 0, none⟩) 1 1 (evs [(p, ch)]) A (del ch L).length c (evs (del ch L)) rfl rfl own2 rd2 (evs_one _) b2 (by omega) (Nat.le_refl _) hs2 ?_; intro A3 c3 w3 own3 b3; have hf3 : w3.frozen? ⟨br, 1, none⟩ = false := (frozen_of_row _ _ _ _ _ ((b3.block br hblt).trans HB.out)); have he3 : w3.cell? ⟨br, 1, none⟩ = some (.slice A (del ch L).length c) := (b3.cell (p := ⟨br, 1, none⟩) hblt).trans (by rw [cell_of_row _ _ _ _ _ _ HB.out]; rfl))
    go_ret2
    refine ⟨rfl, ⟨A3, c3, ?_, ?_⟩, hk1.trans (Keep.setCell (S := fun k => k = br) (Keep.of_below b3) (a := ⟨br, 1, none⟩) (.inl rfl) _)⟩
    · have := heap_setCell_same w3 br 1 _ _ (.slice A3 (1 + (del ch L).length) c3) ((b3.block br hblt).trans HB.out)
      rw [show ((p, ch) :: del ch L).length = 1 + (del ch L).length by simp; omega]
      exact this
    · have e1 : evs [(p, ch)] ++ evs (del ch L) = evs ((p, ch) :: del ch L) := rfl
      rw [e1] at own3
      rw [show ((p, ch) :: del ch L).length = 1 + (del ch L).length by simp; omega]
      refine own_keep (S := fun k => k = br) (own_base own3 (Nat.zero_le _)) (Keep.setCell (S := fun k => k = br) (Keep.refl _ w3) (a := ⟨br, 1, none⟩) (.inl rfl) _) fun a ha q => ?_
      have := own_block_lt own3 a ha
      omega
/-- what 's[:hi]' comes to -/
theorem run_cutTo {P : Program} (w : World) {t e : TypeId} {z : Value} {size bytes : Nat} (E : ElemT P t e z size bytes) (b off : Nat) (n c h : Nat) (kh : IntKind) (hh : h ≤ c) (hc : 0 < c) :
    (Instr.sliceAt t (.slice (some ⟨b, off, none⟩) n c) none (some (.int kh h)) none).run P w = .ok (.slice (some ⟨b, off, none⟩) h c) w := by
  obtain ⟨i, hi, hz, hsize, hby⟩ := info_parts E.info
  have hc0 : c ≠ 0 := by omega
  simp [Instr.sliceAt, run_underlying E.sl, Instr.slice, Instr.sliceBounds, run_sliceBound, hh, sizeOf, typeInfo, hi, hsize, Addr.add, hc0]

set_option maxHeartbeats 800000 in
/-- Put of a new chunk, where the index is full -/
theorem refPut_full (p ch : Int) (hc1 : 1 ≤ ch) (hc2 : ch ≤ 65536) (br : Nat) (cap : Int) (L : List (Int × Int)) (hlen : L.length ≤ 1099511627776) (hcap : 1 ≤ cap) (hm : ch ∉ L.map (·.2)) (hfull : (L.length : Int) = cap) (w : World) (h : RefAt w br cap L) :
    Calls Try.prog 23 #[.pointer (some ⟨br, 0, none⟩), .int .u32 p, .int .i64 ch] w fun e W' => e = .returned (.tuple #[.int .i64 (lst 0 L), .int .i64 0]) ∧ RefAt W' br cap ((p, ch) :: L.dropLast) ∧ Keep (fun k => k = br) w W' := by
  have HDEL := Lib.hid (refDrop_any ch br cap L hlen)
  rw [decide_eq_false hm, del_none hm] at HDEL
  clear hm
  obtain ⟨n, rfl⟩ : ∃ n : Nat, cap = (n : Int) + 1 := ⟨L.length - 1, by omega⟩
  have hn : L.length = n + 1 := by omega
  clear hfull hcap
  obtain ⟨lv, hlv⟩ : ∃ lv, lst 0 L = lv := ⟨_, rfl⟩
  obtain ⟨xp, HLV⟩ : ∃ xp, Hid (L[n]? = some (xp, lv)) := by
    refine ⟨(L[n]'(by omega)).1, ?_⟩
    show _ = _
    rw [← hlv]
    have h2 : ∀ (p : Int) (L : List (Int × Int)) (n : Nat) (h : L.length = n + 1), lst p L = (L[n]'(by omega)).2 := by
      intro p L
      induction L generalizing p with
      | nil => intro n h; simp at h
      | cons e L ih =>
        intro n h
        cases n with
        | zero =>
          have : L = [] := List.eq_nil_of_length_eq_zero (by simpa using h)
          subst this; rfl
        | succ n => exact ih e.2 n (by simpa using h)
    rw [h2 0 L n hn, List.getElem?_eq_getElem (by omega)]
  rw [hlv]
  clear hlv
  have hdl : L.dropLast.length = n := by rw [List.length_dropLast]; omega
  have HN := Lib.hid hn
  have HDL := Lib.hid hdl
  clear hdl
  rw [hn] at hlen
  go_enter Try.func23, Try.ntmps23
  clear hn
  go_wp2_with fail
  refine (HDEL.out _ h).mono ?_
  rintro e w1 ⟨rfl, h1, hk1⟩
  clear h
  have hblt := h1.lt
  obtain ⟨A, c, hb, hr⟩ := h1
  have rd := Rd.of_own hr
  have HR := Lib.hid hr
  clear hr
  obtain ⟨b, off, hA, hbl, hcp, hcc⟩ := ev_cells rd (k := n) (by rw [HN.out]; omega) (by rw [HN.out]; omega)
  rw [(List.getElem?_eq_some_iff.1 HLV.out).2] at hcp hcc
  have hnc := (own_cap HR.out).1
  rw [HN.out] at hb hnc
  obtain ⟨hd0, hd1⟩ := refCells hb
  have HB := Lib.hid hb
  clear hb
  subst hA
  go_wp2_with fail
  go_quiet (fail)
  generalize hwd : (w1.alloc (.cells #[.int .u32 p, .int .i64 ch] 39)).drewN nq = w2
  have b2 : Below w1.heap.size w1 w2 := by rw [← hwd]; exact below_drewN ((Below.refl _ _).alloc (Nat.le_refl _) _) _
  have own2 : w2.ownsRow w1.heap.size 39 2 (.slice (some ⟨w1.heap.size, 0, none⟩) 1 1) 1 (evs [(p, ch)]) := by rw [← hwd]; exact own_drewN (own_lit w1 (ev (p, ch)) _ 2 _ (Nat.le_refl _) rfl) _
  have he0 : w2.cell? ⟨br, 0, none⟩ = some (.int .i64 ((n : Int) + 1)) := (b2.cell (p := ⟨br, 0, none⟩) hblt).trans hd0
  have he1 : w2.cell? ⟨br, 1, none⟩ = some (.slice (some ⟨b, off, none⟩) (n + 1) c) := (b2.cell (p := ⟨br, 1, none⟩) hblt).trans hd1
  have hcc2 : w2.cell? ⟨b, off + n * 2 + 1, none⟩ = some (.int .i64 lv) := (b2.cell (p := ⟨b, off + n * 2 + 1, none⟩) hbl).trans hcc
  clear hwd hd0 hd1 hcc hcp
  have hw1 : IntKind.i64.wrap ((n : Int) + 1 - 1) = n := by rw [show (n : Int) + 1 - 1 = n by omega]; exact IntWalk.i64_in _ (by omega)
  have hi0 : (0 : Int) ≤ n := by omega
  have hi1 : (n : Int) < (n : Int) + 1 := by omega
  have hsl : ∀ w, (Instr.sliceAt 27 (.slice (some ⟨b, off, none⟩) (n + 1) c) none (some (.int .i64 (n : Int))) none).run Try.prog w = .ok (.slice (some ⟨b, off, none⟩) n c) w := fun w => run_cutTo w entryT b off (n + 1) c n .i64 (by omega) (by omega)
  go_wp2_with fail
  go_quiet (fail)
  generalize hwd : w2.drewN nq = w4
  have b4 : Below w1.heap.size w1 w4 := by rw [← hwd]; exact below_drewN b2 _
  have own4 : w4.ownsRow w1.heap.size 39 2 (.slice (some ⟨w1.heap.size, 0, none⟩) 1 1) 1 (evs [(p, ch)]) := by rw [← hwd]; exact own_drewN own2 _
  have hf0 : w4.cell? ⟨br, 0, none⟩ = some (.int .i64 ((n : Int) + 1)) := by rw [← hwd]; exact he0
  have hf1 : w4.cell? ⟨br, 1, none⟩ = some (.slice (some ⟨b, off, none⟩) (n + 1) c) := by rw [← hwd]; exact he1
  clear hwd he0 he1 b2 own2 hcc2 hsl hw1
  have hw2 : IntKind.i64.wrap (n : Int) = n := IntWalk.i64_in _ (by omega)
  have hi2 : (n : Int) ≤ (c : Int) := by omega
  have hc0 : (c = 0) = False := by simp; omega
  go_wp2_with fail
  go_still_tail 11, (by kernel_rfl)
  have hxl : w4.drew = w4.drew := rfl
  change wpList _ _ _ _ _ w4.drew
  generalize hwd : w4.drew = w5
  have b5 : Below w1.heap.size w1 w5 := by rw [← hwd]; exact b4.drew
  have own5 : w5.ownsRow w1.heap.size 39 2 (.slice (some ⟨w1.heap.size, 0, none⟩) 1 1) 1 (evs [(p, ch)]) := by rw [← hwd]; exact own4
  have rd5 : Rd w5 w1.heap.size 2 (some ⟨b, off, none⟩) n (evs L.dropLast) := by
    have h1 := (rd.below b5).take (k := n) (by rw [HN.out]; omega)
    have h2 : (evs L).take (n * 2) = evs L.dropLast := by rw [List.dropLast_eq_take, HN.out, evs_take]; rfl
    rw [h2] at h1
    exact h1
  have hs5 : w1.heap.size ≤ w5.heap.size := b5.size
  clear hwd hf0 hf1 b4 own4 rd hxl
  go_wp2_with (at_builtin; refine wpList_appR rfl (.tmp 50) (.tmp 60) 27 rfl w1.heap.size 39 _ 2 16 entryT (some ⟨w1.heap.size, 0, none⟩) 1 1 (evs [(p, ch)]) (some ⟨b, off, none⟩) n c (evs L.dropLast) rfl rfl own5 rd5 (evs_one _) b5 (by omega) (Nat.le_refl _) hs5 ?_; intro A6 c6 w6 own6 b6; have hf3 : w6.frozen? ⟨br, 1, none⟩ = false := (frozen_of_row _ _ _ _ _ ((b6.block br hblt).trans HB.out)); have he3 : w6.cell? ⟨br, 1, none⟩ = some (.slice (some ⟨b, off, none⟩) (n + 1) c) := (b6.cell (p := ⟨br, 1, none⟩) hblt).trans (by rw [cell_of_row _ _ _ _ _ _ HB.out]; rfl))
  go_ret2
  refine ⟨rfl, ⟨A6, c6, ?_, ?_⟩, hk1.trans (Keep.setCell (S := fun k => k = br) (Keep.of_below b6) (a := ⟨br, 1, none⟩) (.inl rfl) _)⟩
  · have := heap_setCell_same w6 br 1 _ _ (.slice A6 (1 + n) c6) ((b6.block br hblt).trans HB.out)
    rw [show ((p, ch) :: L.dropLast).length = 1 + n by rw [List.length_cons, HDL.out]; omega]
    exact this
  · have e1 : evs [(p, ch)] ++ evs L.dropLast = evs ((p, ch) :: L.dropLast) := rfl
    rw [e1] at own6
    rw [show ((p, ch) :: L.dropLast).length = 1 + n by rw [List.length_cons, HDL.out]; omega]
    refine own_keep (S := fun k => k = br) (own_base own6 (Nat.zero_le _)) (Keep.setCell (S := fun k => k = br) (Keep.refl _ w6) (a := ⟨br, 1, none⟩) (.inl rfl) _) fun a ha q => ?_
    have := own_block_lt own6 a ha
    omega
end Go.Proofs.Ytnehbcopbioenaa
