/- The walk of the statement IndexEvictsTheOldest: it returns true. Conditions: none beyond what the arguments are. -/
import Derived.Test.YtnehbcopbioenaaILawInc
namespace Go.Proofs.Ytnehbcopbioenaa
set_option linter.unusedVariables false
set_option linter.unusedSimpArgs false
open Go.RowKit Go.ChangeMaps

theorem entry_eql (a b c d : Int) (w : World) : (binOp .eql 39 (.agg #[.int .u32 a, .int .i64 b]) (.agg #[.int .u32 c, .int .i64 d])).run Try.prog w = .ok (.bool (a == c && b == d)) w := by
  have p1 : ∀ w : World, (part 32 #[Value.int .u32 a, .int .i64 b] 0).run Try.prog w = .ok (.int .u32 a) w := fun _ => by kernel_rfl
  have p2 : ∀ w : World, (part 32 #[Value.int .u32 c, .int .i64 d] 0).run Try.prog w = .ok (.int .u32 c) w := fun _ => by kernel_rfl
  have p3 : ∀ w : World, (part 3 #[Value.int .u32 a, .int .i64 b] 1).run Try.prog w = .ok (.int .i64 b) w := fun _ => by kernel_rfl
  have p4 : ∀ w : World, (part 3 #[Value.int .u32 c, .int .i64 d] 1).run Try.prog w = .ok (.int .i64 d) w := fun _ => by kernel_rfl
  rw [run_eql_struct, run_equalIn_agg w 9999 39 _ _ (by kernel_rfl) (by kernel_rfl), fieldsEntry]
  simp [Op.eqFields, p1, p2, p3, p4, run_equalIn_int _ _ 32 _ _ _ _ Try.underlying32, run_equalIn_int _ _ 3 _ _ _ _ Try.underlying3]
  by_cases h : a = c <;> by_cases h2 : b = d <;> simp [h, h2]

theorem evs_tail {w : World} {B n : Nat} {A : Option Addr} {e : Int × Int} {L : List (Int × Int)} (h : Rd w B 2 A (n + 1) (evs (e :: L))) {c : Nat} (hc : n + 1 ≤ c) (P : Program) {t el : TypeId} {z : Value} {bytes : Nat} (E : ElemT P t el z 2 bytes) :
    ∃ A', Rd w B 2 A' n (evs L) ∧ ∀ w', (Instr.sliceAt t (.slice A (n + 1) c) (some (.int .i64 1)) none none).run P w' = .ok (.slice A' n (c - 1)) w' :=
  ⟨_, h.cut (k := 1) (by omega) hc, fun w' => run_cutFrom w' E A (n + 1) c 1 .i64 (by omega)⟩

theorem lst_get (p : Int) (L : List (Int × Int)) (n : Nat) (h : L.length = n + 1) : ∃ q, L[n]? = some (q, lst p L) := by
  induction L generalizing p n with
  | nil => simp at h
  | cons e L ih =>
    cases n with
    | zero =>
      have : L = [] := List.eq_nil_of_length_eq_zero (by simpa using h)
      subst this
      exact ⟨e.1, rfl⟩
    | succ n =>
      obtain ⟨q, hq⟩ := ih e.2 n (by simpa using h)
      exact ⟨q, by rw [List.getElem?_cons_succ]; exact hq⟩

set_option maxHeartbeats 3200000 in
/-- the last region: all that is asked holds -/
theorem lawEvict (cap : Int) (A : Option Addr) (n c : Nat) (os : List IOp) (hn : os.length = n) (hnc : n ≤ c) (hc : c ≤ 140737488355328) (hok : OpsOk os) (o : IOp) (ho : 0 ≤ o.2.1 ∧ o.2.1 ≤ 4294967295 ∧ -9223372036854775808 ≤ o.2.2 ∧ o.2.2 ≤ 9223372036854775807) (w : World) (hr : Rd w w.heap.size 3 A n (ovs os)) :
    Calls Try.prog 5 #[.int .i64 cap, .slice A n c, .agg #[.bool o.1, .int .u32 o.2.1, .int .i64 o.2.2]] w fun e w' => e = .returned (.bool true) ∧ Below w.heap.size w w' := by
  obtain ⟨d, p, ch⟩ := o
  simp only at ho ⊢
  have hal : Below w.heap.size w (w.alloc (.cells #[.bool d, .int .u32 p, .int .i64 ch] 34)) := (Below.refl _ w).alloc (Nat.le_refl _) _
  have hbx : ∀ k u, #[Value.bool d, .int .u32 p, .int .i64 ch][k]? = some u → (w.alloc (.cells #[.bool d, .int .u32 p, .int .i64 ch] 34)).cell? ⟨w.heap.size, k, none⟩ = some u := fun k u hu => by
    rw [cell_of_row _ _ _ _ _ _ (heap_alloc_new w _)]; exact hu
  have hc1 := hbx 1 _ rfl
  have hc2 := hbx 2 _ rfl
  clear hbx
  by_cases hv1 : (cap < 1 ∨ 4096 < cap) ∨ 80 < n
  · go_enter Try.func5, Try.ntmps5
    go_wp2_with fail
    refine (sanity_any _).mono ?_
    rintro e w1 ⟨rfl, b1⟩
    have b1' := hal.trans (b1.mono hal.size)
    go_wp2_with fail
    refine (play_bad cap A n c _ hv1).mono ?_
    rintro e w2 ⟨rfl, b2⟩
    have b2' := b1'.trans (b2.mono b1'.size)
    go_wp2_with fail
    go_ret
    exact ⟨rfl, b2'⟩
  have hI := Inv.play (cap := cap) (by omega) hok
  obtain ⟨L, hL⟩ : ∃ L, playL cap os = L := ⟨_, rfl⟩
  rw [hL] at hI
  have HL := Lib.hid hL
  have HN := Lib.hid hn
  have HOK := Lib.hid hok
  have HI := Lib.hid hI
  clear hn hok hL hI
  go_enter Try.func5, Try.ntmps5
  go_wp2_with fail
  refine (sanity_any _).mono ?_
  rintro e w1 ⟨rfl, b1⟩
  have b1' := hal.trans (b1.mono hal.size)
  go_wp2_with fail
  refine (play_any cap (by omega) (by omega) A n c os HN.out (by omega) HOK.out _ _ b1'.size (hr.below b1')).mono ?_
  rintro e w2 ⟨bx, rfl, bm, hx2, hbx1, hbm1, b2⟩
  have b2' := b1'.trans (b2.mono b1'.size)
  have b12 := b1.trans (b2.mono b1.size)
  have hd1 : w2.cell? ⟨w.heap.size, 1, none⟩ = some (.int .u32 p) := (b12.cell (p := ⟨w.heap.size, 1, none⟩) (by simp)).trans hc1
  have hd2 : w2.cell? ⟨w.heap.size, 2, none⟩ = some (.int .i64 ch) := (b12.cell (p := ⟨w.heap.size, 2, none⟩) (by simp)).trans hc2
  have hws : w.heap.size < w1.heap.size := by have := b1.size; simp at this; omega
  rw [HL.out] at hx2
  clear b1 b2 hc1 hc2 hal b1' b12
  by_cases hlo : ch < 1
  · go_wp2_with fail
    go_ret
    exact ⟨rfl, b2'⟩
  by_cases hhi : 65536 < ch
  · go_wp2_with fail
    go_ret
    exact ⟨rfl, b2'⟩
  go_wp2_with fail
  refine (drop_holds bx bm cap L ch _ hx2).mono ?_
  rintro e w3 ⟨rfl, hx3, k3⟩
  have b3' := Below.then_keep b2' k3 (fun k hk => by rcases hk with hk | hk <;> omega) (Nat.le_refl _)
  have he1 : w3.cell? ⟨w.heap.size, 1, none⟩ = some (.int .u32 p) := (k3.cell (p := ⟨w.heap.size, 1, none⟩) (by have := b2'.size; show w.heap.size < _; have := hx2.lt; omega) (by show ¬ (w.heap.size = bx ∨ w.heap.size = bm); omega)).trans hd1
  have he2 : w3.cell? ⟨w.heap.size, 2, none⟩ = some (.int .i64 ch) := (k3.cell (p := ⟨w.heap.size, 2, none⟩) (by have := b2'.size; show w.heap.size < _; have := hx2.lt; omega) (by show ¬ (w.heap.size = bx ∨ w.heap.size = bm); omega)).trans hd2
  have hI0 := HI.out.del ch
  have HM := Lib.hid (not_mem_del ch L)
  clear hx2 k3 b2' hd1 hd2
  obtain ⟨L0, hL0⟩ : ∃ L0, del ch L = L0 := ⟨_, rfl⟩
  rw [hL0] at hx3 hI0 HM
  clear hL0
  obtain ⟨m, hm⟩ : ∃ m, L0.length = m := ⟨_, rfl⟩
  have hil := hI0.len
  rw [hm] at hil
  have HI0 := Lib.hid hI0
  have HLEN := Lib.hid hm
  clear hI0 hm
  have hA1 := all_holds bx bm _ L0 (by rw [HLEN.out]; omega) _ hx3
  rw [HLEN.out] at hA1
  have hlx := hx3.lt
  have hws3 : w.heap.size < w3.heap.size := by omega
  go_wp2_with fail
  refine hA1.mono ?_
  rintro e w4 ⟨A4, c4, rfl, own4, b4⟩
  have hx4 := hx3.below b4 hlx.1 hlx.2
  have b4' := b3'.trans (b4.mono b3'.size)
  have rd4 := Rd.of_own own4
  have hcap4 := (own_cap own4)
  have hbl4 := own_block_lt own4
  have hf1 : w4.cell? ⟨w.heap.size, 1, none⟩ = some (.int .u32 p) := (b4.cell (p := ⟨w.heap.size, 1, none⟩) hws3).trans he1
  have hf2 : w4.cell? ⟨w.heap.size, 2, none⟩ = some (.int .i64 ch) := (b4.cell (p := ⟨w.heap.size, 2, none⟩) hws3).trans he2
  clear hx3 b4 b3' own4 hA1 he1 he2
  go_wp2_with fail
  refine (put_holds bx bm cap L0 p ch (by omega) (by omega) (by omega) _ hx4).mono ?_
  rintro e w5 ⟨rfl, hx5, k5⟩
  have b5' := Below.then_keep b4' k5 (fun k hk => by rcases hk with hk | hk <;> omega) (Nat.le_refl _)
  have hlx4 := hx4.lt
  have hg1 : w5.cell? ⟨w.heap.size, 1, none⟩ = some (.int .u32 p) := (k5.cell (p := ⟨w.heap.size, 1, none⟩) (by show w.heap.size < _; omega) (by show ¬ (w.heap.size = bx ∨ w.heap.size = bm); omega)).trans hf1
  have hg2 : w5.cell? ⟨w.heap.size, 2, none⟩ = some (.int .i64 ch) := (k5.cell (p := ⟨w.heap.size, 2, none⟩) (by show w.heap.size < _; omega) (by show ¬ (w.heap.size = bx ∨ w.heap.size = bm); omega)).trans hf2
  have rd5 := rd4.keepS k5 (Nat.le_refl _) (fun a ha q => by have := (hbl4 a ha).1; rcases q with q | q <;> omega)
  have hs45 := k5.size
  clear hx4 k5 b4' hf1 hf2 rd4
  by_cases hfull : (m : Int) = cap
  · have hput : Hid (lput cap L0 p ch = ((p, ch) :: L0.dropLast, lst 0 L0)) := by show _ = _; unfold lput; rw [if_pos ⟨HM.out, by rw [HLEN.out]; exact hfull⟩]
    rw [hput.out] at hx5 ⊢
    obtain ⟨m, rfl⟩ : ∃ mm, m = mm + 1 := ⟨m - 1, by omega⟩
    obtain ⟨xp, hlv⟩ := lst_get 0 L0 m HLEN.out
    obtain ⟨lv, hl⟩ : ∃ lv, lst 0 L0 = lv := ⟨_, rfl⟩
    rw [hl] at hlv ⊢
    have HLV := Lib.hid hlv
    clear hl hlv
    have HDL : Hid (L0.dropLast.length = m) := by show _ = _; rw [List.length_dropLast, HLEN.out]; omega
    have hff : (((m : Int) + 1) == cap) = true := by simp only [beq_iff_eq]; omega
    have hmc : (m : Int) + 1 ≤ 4096 := by omega
    clear hfull
    have hA5 := all_holds bx bm _ ((p, ch) :: L0.dropLast) (by rw [List.length_cons, HDL.out]; omega) _ hx5
    rw [List.length_cons, HDL.out] at hA5
    go_wp2_with fail
    refine hA5.mono ?_
    rintro e w6 ⟨A6, c6, rfl, own6, b6⟩
    have b6' := b5'.trans (b6.mono b5'.size)
    have hlx5 := hx5.lt
    have hw56 : w.heap.size < w5.heap.size := by omega
    have hh1 : w6.cell? ⟨w.heap.size, 1, none⟩ = some (.int .u32 p) := (b6.cell (p := ⟨w.heap.size, 1, none⟩) hw56).trans hg1
    have hh2 : w6.cell? ⟨w.heap.size, 2, none⟩ = some (.int .i64 ch) := (b6.cell (p := ⟨w.heap.size, 2, none⟩) hw56).trans hg2
    have rd6 := Rd.of_own own6
    have rd6' := (rd5.more hs45).below b6
    have hcap6 := own_cap own6
    obtain ⟨A7, rd7, hsl⟩ := evs_tail rd6 hcap6.1 Try.prog entryT
    obtain ⟨b6b, o6, rfl, _, hn0, hn1⟩ := ev_cells (k := 0) rd6 (by simp) (by omega)
    simp only [List.getElem_cons_zero, Nat.zero_mul, Nat.add_zero] at hn0 hn1
    obtain ⟨b4b, o4, hA4, _, hm0, hm1⟩ := ev_cells (k := m) rd6' (by rw [HLEN.out]; omega) (by omega)
    rw [(List.getElem?_eq_some_iff.1 HLV.out).2] at hm0 hm1
    simp only at hm0 hm1
    have rd8 : Rd w6 w5.heap.size 2 A4 m (evs L0.dropLast) := by
      have h1 := evs_prefix rd6' (k := m) (by omega)
      rw [List.dropLast_eq_take, HLEN.out]
      exact h1
    have hsl2 : ∀ w, (Instr.sliceAt 27 (.slice A4 (m + 1) c4) none (some (.int .i64 (m : Int))) none).run Try.prog w = .ok (.slice A4 m c4) w := fun w => by
      rw [hA4]; exact run_cutTo w entryT b4b o4 (m + 1) c4 m .i64 (by omega) (by omega)
    subst hA4
    have hq : ∀ w, (binOp .eql 39 (.agg #[.int .u32 p, .int .i64 ch]) (.agg #[.int .u32 p, .int .i64 ch])).run Try.prog w = .ok (.bool true) w := fun w => by rw [entry_eql]; simp
    have hwr : IntKind.i64.wrap ((m : Int) + 1) = (m : Int) + 1 := IntWalk.i64_in _ (by omega)
    have hi0 : (0 : Int) ≤ m := by omega
    have hi1 : (m : Int) < (m : Int) + 1 := by omega
    have hi2 : (m : Int) ≤ c4 := by omega
    have HSM := Lib.hid (fun k => refSame_len A7 (some ⟨b4b, o4, none⟩) (c6 - 1) c4 m m L0.dropLast L0.dropLast (w6.drewN k) HDL.out HDL.out (by unfold maxLen; omega) _ _ (rd7.drewN k) (rd8.drewN k) true (by simp))
    clear rd6 rd6' rd7 rd8 own6 hA5 hx5 b6 hg1 hg2 rd5
    go_wp2_with fail
    go_quiet ((go_at_call 12; refine Calls.quiet_of (HSM.out _)))
    go_wp2_with fail
    go_ret
    exact ⟨rfl, below_drewN b6' _⟩
  · have hput : Hid (lput cap L0 p ch = ((p, ch) :: L0, 0)) := by show _ = _; unfold lput; rw [if_neg (fun h => hfull (by rw [← h.2, HLEN.out])), del_none HM.out]
    rw [hput.out] at hx5 ⊢
    have hA5 := all_holds bx bm _ ((p, ch) :: L0) (by rw [List.length_cons, HLEN.out]; omega) _ hx5
    rw [List.length_cons, HLEN.out] at hA5
    go_wp2_with fail
    refine hA5.mono ?_
    rintro e w6 ⟨A6, c6, rfl, own6, b6⟩
    have b6' := b5'.trans (b6.mono b5'.size)
    have hlx5 := hx5.lt
    have hw56 : w.heap.size < w5.heap.size := by omega
    have hh1 : w6.cell? ⟨w.heap.size, 1, none⟩ = some (.int .u32 p) := (b6.cell (p := ⟨w.heap.size, 1, none⟩) hw56).trans hg1
    have hh2 : w6.cell? ⟨w.heap.size, 2, none⟩ = some (.int .i64 ch) := (b6.cell (p := ⟨w.heap.size, 2, none⟩) hw56).trans hg2
    have rd6 := Rd.of_own own6
    have rd6' := (rd5.more hs45).below b6
    have hcap6 := own_cap own6
    obtain ⟨A7, rd7, hsl⟩ := evs_tail rd6 hcap6.1 Try.prog entryT
    obtain ⟨b6b, o6, rfl, _, hn0, hn1⟩ := ev_cells (k := 0) rd6 (by simp) (by omega)
    simp only [List.getElem_cons_zero, Nat.zero_mul, Nat.add_zero] at hn0 hn1
    have hq : ∀ w, (binOp .eql 39 (.agg #[.int .u32 p, .int .i64 ch]) (.agg #[.int .u32 p, .int .i64 ch])).run Try.prog w = .ok (.bool true) w := fun w => by rw [entry_eql]; simp
    have hff : ((m : Int) == cap) = false := by simpa using hfull
    have hwr : IntKind.i64.wrap ((m : Int) + 1) = (m : Int) + 1 := IntWalk.i64_in _ (by omega)
    have HSM := Lib.hid (fun k => refSame_len A7 A4 (c6 - 1) c4 m m L0 L0 (w6.drewN k) HLEN.out HLEN.out (by unfold maxLen; omega) _ _ (rd7.drewN k) (rd6'.drewN k) true (by simp))
    clear rd6 rd6' rd7 own6 hA5 hx5 b6 hg1 hg2 rd5
    go_wp2_with fail
    go_quiet ((go_at_call 12; refine Calls.quiet_of (HSM.out _)))
    go_wp2_with fail
    go_ret
    exact ⟨rfl, below_drewN b6' _⟩
end Go.Proofs.Ytnehbcopbioenaa
