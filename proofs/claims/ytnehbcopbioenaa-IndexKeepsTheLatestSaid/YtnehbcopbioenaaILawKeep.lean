/- The walk of the statement IndexKeepsTheLatest: it returns true. Conditions: none beyond what the arguments are. -/
import Derived.Test.YtnehbcopbioenaaILawInc
namespace Go.Proofs.Ytnehbcopbioenaa
set_option linter.unusedVariables false
set_option linter.unusedSimpArgs false
open Go.RowKit Go.ChangeMaps

set_option maxHeartbeats 400000 in
theorem has_any (A : Option Addr) (c n : Nat) (l : List Int) (hn : l.length = n) (hL : n ≤ 1099511627776) (x : Int) (w : World) (B : Nat) (hr : Rd w B 1 A n (ivs l)) (S : Bool) (hS : l.contains x = S) :
    Calls Try.prog 15 #[.slice A n c, .int .i64 x] w fun e w' => e = .returned (.bool S) ∧ w = w' := by
  have HN := Lib.hid hn
  have HS := Lib.hid hS
  clear hn hS
  go_enter Try.func15, Try.ntmps15
  go_wp2
  go_loop [5] (fun u => ∃ k : Nat, k ≤ n ∧ u = .int .i64 k ∧ Hid ((l.take k).contains x = false)) (fun u => n - (intOf u).toNat)
  case atStart => exact ⟨0, by omega, rfl, by simp [Hid]⟩
  case round =>
    obtain ⟨k, hk, rfl, HF⟩ := hrel
    by_cases hlt : k < n
    · have hk' : k < l.length := by rw [HN.out]; exact hlt
      obtain ⟨b, off, rfl, _, hc⟩ := hr.get hk'
      have HT := Lib.hid (List.take_succ_eq_append_getElem hk')
      have HM := Lib.hid (List.getElem_mem hk')
      obtain ⟨y, hy⟩ : ∃ y, l[k] = y := ⟨_, rfl⟩
      rw [hy] at hc HT HM
      clear hy
      have hk0 : (0 : Int) ≤ k := by omega
      have hk1 : (k : Int) < n := by omega
      go_wp2
      · have ht : (y == x) = true := by assumption
        go_ret
        have e1 : y = x := by simpa using ht
        exact ⟨ret_bool (by rw [← HS.out]; exact (List.contains_iff_mem.2 (e1 ▸ HM.out)).symm), rfl⟩
      · have ht : (y == x) = false := by assumption
        go_round
        case rel => exact ⟨k + 1, by omega, by go_num, by show _ = _; rw [HT.out]; have h1 := HF.out; have h2 : ¬ x = y := fun e => by subst e; simp at ht
                                                          simp at h1; simp [h1, h2]⟩
        case measure => simp [intOf]; omega
    · have HK : Hid (l.take k = l) := List.take_of_length_le (by rw [HN.out]; omega)
      have hk1 : ¬ (k : Int) < n := by omega
      go_wp2
      go_ret
      exact ⟨ret_bool (by rw [← HS.out, ← HK.out]; exact HF.out.symm), rfl⟩

theorem own_ne_block {w : World} {base e size n : Nat} {v : Value} {xs : List Value} (h : w.ownsRow base e size v n xs) {b t : Nat} {cs : Array Value} {m : Nat × Nat} (hb : w.heap[b]? = some (.cells cs t m)) (ht : t ≠ e) : some b ≠ v.ownBlock := by
  intro he
  rcases h.2 with ⟨rfl, _⟩ | ⟨g, cap, cur, rfl, _, hg, _⟩
  · simp [Value.ownBlock] at he
  · have e1 : b = g := by simpa [Value.ownBlock] using he
    subst e1
    rw [hg] at hb
    injection hb with hb
    injection hb with _ h2 _
    exact ht h2.symm
theorem own_other {w w' : World} {base base' e e' size size' n n' : Nat} {v v' : Value} {xs xs' : List Value} (h : w.ownsRow base e size v n xs) (h' : w.ownsRow base' e' size' v' n' xs') (he : e ≠ e') (hg : w.grownBy w' v'.ownBlock) : w'.ownsRow base e size v n xs := by
  refine ⟨h.1, ?_⟩
  rcases h.2 with h0 | ⟨g, cap, cur, rfl, hb, hh, r⟩
  · exact .inl h0
  · exact .inr ⟨g, cap, cur, rfl, hb, (hg.block g (Array.getElem?_eq_some_iff.1 hh).1 (own_ne_block h' hh he)).trans hh, r⟩
theorem take_rev {os : List IOp} {m : Nat} (h : m < os.length) : (os.take (m + 1)).reverse = os[m] :: (os.take m).reverse := by
  rw [List.take_succ_eq_append_getElem h]; simp
theorem any_drop {os : List IOp} {m : Nat} (h : m < os.length) : (os.drop m).any (·.1) = (os[m].1 || (os.drop (m + 1)).any (·.1)) := by
  rw [List.drop_eq_getElem_cons h]; rfl
theorem want_le {os : List IOp} {W : List (Int × Int)} {s : List Int} {r : List IOp} {n : Nat} (h : W ++ unseen s (wantR r) = wantR os.reverse) (hn : os.length = n) : W.length ≤ n := by
  have h1 := congrArg List.length h
  have h2 := wantR_len os.reverse
  rw [List.length_append] at h1
  rw [List.length_reverse] at h2
  omega
theorem want_skip' {os : List IOp} {W : List (Int × Int)} {s : List Int} {r : List IOp} {o : IOp} (h : W ++ unseen s (wantR (o :: r)) = wantR os.reverse) (hb : (s.contains o.2.2 || bad o.2.2) = true) : W ++ unseen s (wantR r) = wantR os.reverse := by
  rw [← want_skip hb]; exact h
theorem want_drop' {os : List IOp} {W : List (Int × Int)} {s : List Int} {r : List IOp} {p c : Int} (h : W ++ unseen s (wantR ((true, p, c) :: r)) = wantR os.reverse) (hb : (s.contains c || bad c) = false) : W ++ unseen (s ++ [c]) (wantR r) = wantR os.reverse := by
  rw [want_take hb] at h; exact h
theorem want_put' {os : List IOp} {W : List (Int × Int)} {s : List Int} {r : List IOp} {p c : Int} (h : W ++ unseen s (wantR ((false, p, c) :: r)) = wantR os.reverse) (hb : (s.contains c || bad c) = false) : (W ++ [(p, c)]) ++ unseen (s ++ [c]) (wantR r) = wantR os.reverse := by
  rw [want_take hb] at h; rw [List.append_assoc]; exact h

set_option maxHeartbeats 6400000 in
theorem lawKeeps (cap : Int) (A : Option Addr) (n c : Nat) (os : List IOp) (hn : os.length = n) (hnc : n ≤ c) (hc : c ≤ 140737488355328) (hok : OpsOk os) (w : World) (hr : Rd w w.heap.size 3 A n (ovs os)) :
    Calls Try.prog 4 #[.int .i64 cap, .slice A n c] w fun e w' => e = .returned (.bool true) ∧ Below w.heap.size w w' := by
  by_cases hv1 : (cap < 1 ∨ 4096 < cap) ∨ 80 < n
  · go_enter Try.func4, Try.ntmps4
    go_wp2_with (go_at_call 9; refine (sanity_any _).mono ?_; rintro e w1 ⟨rfl, b1⟩)
    refine (play_bad cap A n c _ hv1).mono ?_
    rintro e w2 ⟨rfl, b2⟩
    have b2' := b1.trans (b2.mono b1.size)
    go_wp2_with fail
    go_ret
    exact ⟨rfl, b2'⟩
  have hrev : OpsOk os.reverse := fun o ho => hok o (List.mem_reverse.1 ho)
  have HW := Lib.hid (play_want (cap := cap) (by omega) os.reverse hrev)
  rw [List.reverse_reverse] at HW
  have hIl := (Inv.play (cap := cap) (by omega) hok).len
  obtain ⟨L, hL⟩ : ∃ L, playL cap os = L := ⟨_, rfl⟩
  rw [hL] at HW hIl
  have HL := Lib.hid hL
  have HN := Lib.hid hn
  have HOK := Lib.hid hok
  clear hn hok hL hrev
  go_enter Try.func4, Try.ntmps4
  go_wp2_with (go_at_call 9; refine (sanity_any _).mono ?_; rintro e w1 ⟨rfl, b1⟩)
  refine (play_any cap (by omega) (by omega) A n c os HN.out (by omega) HOK.out _ _ b1.size (hr.below b1)).mono ?_
  rintro e w2 ⟨bx, rfl, bm, hx2, _, _, b2⟩
  have b2' := b1.trans (b2.mono b1.size)
  rw [HL.out] at hx2
  clear b1 b2
  go_wp2_with fail
  go_loopw [8, 9, 10, 11] (fun u8 u9 u10 u11 wr => ∃ (m : Nat) (D : Bool) (A8 A9 : Option Addr) (c8 c9 n8 n9 : Nat) (W : List (Int × Int)) (sn : List Int), m ≤ n ∧ u11 = .int .i64 ((m : Int) - 1) ∧ u10 = .bool D ∧ u8 = .slice A8 n8 c8 ∧ u9 = .slice A9 n9 c9 ∧
      n8 + m ≤ n ∧ n9 + m ≤ n ∧ wr.ownsRow w2.heap.size 39 2 (.slice A8 n8 c8) n8 (evs W) ∧ wr.ownsRow w2.heap.size 3 1 (.slice A9 n9 c9) n9 (ivs sn) ∧ Below w2.heap.size w2 wr ∧
      Hid (W.length = n8 ∧ sn.length = n9 ∧ W ++ unseen sn (wantR (os.take m).reverse) = wantR os.reverse ∧ D = (os.drop m).any (·.1))) (fun _ _ _ u _ => (intOf u + 1).toNat)
  case atStart => exact ⟨n, false, none, none, 0, 0, 0, 0, [], [], by omega, rfl, rfl, rfl, rfl, by omega, by omega, World.ownsRow_nil _ _ _ _, World.ownsRow_nil _ _ _ _, Below.refl _ _, rfl, rfl, by rw [← HN.out]; simp [unseen], by rw [← HN.out]; simp⟩
  case round =>
    obtain ⟨m, D, A8, A9, c8, c9, n8, n9, W, sn, hm, rfl, rfl, rfl, rfl, h8, h9, own8, own9, hbel, HE⟩ := hrel
    cases m with
    | zero =>
      have hx := hx2.below hbel hx2.lt.1 hx2.lt.2
      clear hx2 own9
      obtain ⟨hE1, _, hE3, hE4⟩ := HE.out
      have hWW : W = wantR os.reverse := by simpa [unseen, wantR] using hE3
      have hDD : D = os.any (·.1) := by simpa using hE4
      rw [← hWW] at HW
      have hp := HW.out.1
      have hd : D = false → (L.length : Int) = min (W.length : Int) cap := fun h => HW.out.2 fun o ho => by
        rw [h] at hDD
        have := List.any_eq_false.1 hDD.symm o (List.mem_reverse.1 ho)
        simpa using this
      have hll := hp.length_le
      have hp2 := prefix_take hp
      obtain ⟨l1, e1⟩ : ∃ l1, L.length = l1 := ⟨_, rfl⟩
      rw [e1] at hd hll hIl hp2
      rw [hE1] at hd hll
      have H1 := Lib.hid e1
      have H8 := Lib.hid hE1
      have HP2 := Lib.hid hp2
      clear e1 hE1 hE3 hE4 hWW hDD hp hp2 HW HE
      have hDl : D = false → ((l1 : Int) != min (n8 : Int) cap) = false := fun h => by rw [bne_eq_false_iff_eq]; exact hd h
      clear hd
      have hA1 := all_holds bx bm _ L (by rw [H1.out]; omega) _ hx
      rw [H1.out] at hA1
      have hlx := hx.lt
      have rd8 := Rd.of_own own8
      have hcap8 := (own_cap own8).1
      clear own8
      have hm0 : ¬ (0 : Int) ≤ ((0 : Nat) : Int) - 1 := by omega
      go_wp2_with fail
      refine hA1.mono ?_
      rintro e w4 ⟨A4, c4, rfl, own4, b4⟩
      have b4' := (b2'.trans (hbel.mono b2'.size)).trans (b4.mono (by have := hbel.size; have := b2'.size; omega))
      have rd4 := Rd.of_own own4
      have rd8' := rd8.below b4
      have hsl := fun w => run_cutTo' (P := Try.prog) w entryT A8 n8 c8 l1 .i64 (by omega)
      obtain ⟨A6, hA6⟩ : ∃ A6, (if c8 = 0 then A8 else A8.map (·.add 0)) = A6 := ⟨_, rfl⟩
      have hAA : A6 = A8 := by
        rw [← hA6]
        split
        · rfl
        · cases A8 with
          | none => rfl
          | some x => obtain ⟨bb, oo, tt⟩ := x; cases tt <;> simp [Addr.add]
      rw [hA6, hAA] at hsl
      clear hA6 hAA
      have hl0 : (0 : Int) ≤ l1 := by omega
      have hl1c : (l1 : Int) ≤ c8 := by omega
      have HS1 := Lib.hid (refSame_len A4 A8 c4 c8 l1 l1 L (W.take l1) w4 H1.out (by rw [HP2.out]; exact H1.out) (by unfold maxLen; omega) _ _ rd4 (evs_prefix rd8' (by omega)) true (by rw [HP2.out]; simp))
      clear rd4 rd8 rd8' own4 hA1 b4
      have hg1 : decide (l1 ≤ n8) = true := by simpa using hll
      rcases Int.lt_or_le (n8 : Int) cap with hmn | hmn
      · have hmin : min (n8 : Int) cap = n8 := by omega
        rw [hmin] at hDl
        have hlt : decide (n8 < l1) = false := by simp; omega
        cases D with
        | true =>
          clear hDl
          go_wp2_with (go_at_call 12; refine HS1.out.mono ?_; rintro e w6 ⟨rfl, n6, hw6⟩; have HW6 := Lib.hid hw6; clear hw6)
          go_ret
          exact ⟨rfl, by rw [HW6.out]; exact below_drewN b4' _⟩
        | false =>
          have hDl' := hDl rfl
          clear hDl
          go_wp2_with (go_at_call 12; refine HS1.out.mono ?_; rintro e w6 ⟨rfl, n6, hw6⟩; have HW6 := Lib.hid hw6; clear hw6)
          go_ret
          exact ⟨rfl, by rw [HW6.out]; exact below_drewN b4' _⟩
      · have hmin : min (n8 : Int) cap = cap := by omega
        rw [hmin] at hDl
        have hlt : decide (cap < (l1 : Int)) = false := by simp; omega
        rcases Int.lt_or_eq_of_le hmn with hmn | hmn
        · cases D with
          | true =>
            clear hDl
            go_wp2_with (go_at_call 12; refine HS1.out.mono ?_; rintro e w6 ⟨rfl, n6, hw6⟩; have HW6 := Lib.hid hw6; clear hw6)
            go_ret
            exact ⟨rfl, by rw [HW6.out]; exact below_drewN b4' _⟩
          | false =>
            have hDl' := hDl rfl
            clear hDl
            go_wp2_with (go_at_call 12; refine HS1.out.mono ?_; rintro e w6 ⟨rfl, n6, hw6⟩; have HW6 := Lib.hid hw6; clear hw6)
            go_ret
            exact ⟨rfl, by rw [HW6.out]; exact below_drewN b4' _⟩
        · subst hmn
          have hlt : decide (n8 < l1) = false := by simp; omega
          cases D with
          | true =>
            clear hDl
            go_wp2_with (go_at_call 12; refine HS1.out.mono ?_; rintro e w6 ⟨rfl, n6, hw6⟩; have HW6 := Lib.hid hw6; clear hw6)
            go_ret
            exact ⟨rfl, by rw [HW6.out]; exact below_drewN b4' _⟩
          | false =>
            have hDl' := hDl rfl
            clear hDl
            go_wp2_with (go_at_call 12; refine HS1.out.mono ?_; rintro e w6 ⟨rfl, n6, hw6⟩; have HW6 := Lib.hid hw6; clear hw6)
            go_ret
            exact ⟨rfl, by rw [HW6.out]; exact below_drewN b4' _⟩
    | succ m =>
      obtain ⟨bb, off, rfl, hb, hc0, hc1, hc2⟩ := ov_cells (hr.below (b2'.trans (hbel.mono b2'.size))) (k := m) (by rw [HN.out]; omega) (by omega)
      have hms : m < os.length := by rw [HN.out]; omega
      have hrv := take_rev hms
      have hany := any_drop hms
      obtain ⟨o, ho⟩ : ∃ o, os[m] = o := ⟨_, rfl⟩
      rw [ho] at hc0 hc1 hc2 hrv hany
      obtain ⟨hE1, hE2, hE3, hE4⟩ := HE.out
      rw [hrv] at hE3
      clear ho hrv HE
      obtain ⟨d, p, ch⟩ := o
      simp only at hc0 hc1 hc2 hany
      have HE1 := Lib.hid hE1
      have HE2 := Lib.hid hE2
      have HE3 := Lib.hid hE3
      have HE4 : Hid ((D || d) = (os.drop m).any (·.1)) := by show _ = _; rw [hany, hE4, Bool.or_comm]
      clear hE1 hE2 hE3 hE4 hany hms
      have e1 : ((m + 1 : Nat) : Int) - 1 = m := by omega
      rw [e1]
      clear e1
      have hk0 : (0 : Int) ≤ m := by omega
      have hk1 : (m : Int) < n := by omega
      have hbw : bb < wr.heap.size := by have := hbel.size; have := b2'.size; omega
      obtain ⟨S, hS⟩ : ∃ S, sn.contains ch = S := ⟨_, rfl⟩
      have HS := Lib.hid hS
      clear hS
      have own8' := own8.alloc (.cells #[.bool d, .int .u32 p, .int .i64 ch] 34)
      have own9' := own9.alloc (.cells #[.bool d, .int .u32 p, .int .i64 ch] 34)
      have hbel' := hbel.alloc hbel.size (.cells #[.bool d, .int .u32 p, .int .i64 ch] 34)
      have rd9 := Rd.of_own own9'
      have HB1 : Hid (S = false → 1 ≤ ch → ch ≤ 65536 → (sn.contains ch || bad ch) = false) := fun h h1 h2 => by rw [HS.out, h]; simp [bad]; omega
      have HB2 : Hid (S = true → (sn.contains ch || bad ch) = true) := fun h => by rw [HS.out, h]; rfl
      have HB3 : Hid ((ch < 1 ∨ 65536 < ch) → (sn.contains ch || bad ch) = true) := fun h => by simp [bad]; right; omega
      cases S with
      | true =>
        cases D
        all_goals cases d
        all_goals
          go_wp2_with (go_at_call 15; refine (has_any A9 c9 n9 sn HE2.out (by omega) ch _ _ rd9 true HS.out).mono ?_; rintro e w4 ⟨rfl, rfl⟩)
          go_roundw
          case rel => exact ⟨m, _, A8, A9, c8, c9, n8, n9, W, sn, by omega, by go_num, rfl, rfl, rfl, by omega, by omega, own8', own9', hbel', HE1.out, HE2.out, want_skip' HE3.out (HB2.out (by simp)), HE4.out⟩
          case measure => simp [intOf] <;> omega
      | false =>
        have hbl := hbel'
        by_cases hlo : ch < 1
        · cases D
          all_goals cases d
          all_goals
            go_wp2_with (go_at_call 15; refine (has_any A9 c9 n9 sn HE2.out (by omega) ch _ _ rd9 false HS.out).mono ?_; rintro e w4 ⟨rfl, rfl⟩)
            go_roundw
            case rel => exact ⟨m, _, A8, A9, c8, c9, n8, n9, W, sn, by omega, by go_num, rfl, rfl, rfl, by omega, by omega, own8', own9', hbel', HE1.out, HE2.out, want_skip' HE3.out (HB3.out (by omega)), HE4.out⟩
            case measure => simp [intOf] <;> omega
        by_cases hhi : 65536 < ch
        · cases D
          all_goals cases d
          all_goals
            go_wp2_with (go_at_call 15; refine (has_any A9 c9 n9 sn HE2.out (by omega) ch _ _ rd9 false HS.out).mono ?_; rintro e w4 ⟨rfl, rfl⟩)
            go_roundw
            case rel => exact ⟨m, _, A8, A9, c8, c9, n8, n9, W, sn, by omega, by go_num, rfl, rfl, rfl, by omega, by omega, own8', own9', hbel', HE1.out, HE2.out, want_skip' HE3.out (HB3.out (by omega)), HE4.out⟩
            case measure => simp [intOf] <;> omega
        have HT : Hid ((sn.contains ch || bad ch) = false) := HB1.out rfl (by omega) (by omega)
        clear HB1 HB2 HB3 own8 own9
        cases D
        all_goals
          go_wp2_with fail
          refine (has_any A9 c9 n9 sn HE2.out (by omega) ch _ _ rd9 false HS.out).mono ?_
          rintro e w4 ⟨rfl, hw4⟩
          have hblk : (wr.alloc (.cells #[.bool d, .int .u32 p, .int .i64 ch] 34)).heap[wr.heap.size]? = some (.cells #[.bool d, .int .u32 p, .int .i64 ch] 34) := heap_alloc_new wr _
          have hzs : wr.heap.size < (wr.alloc (.cells #[.bool d, .int .u32 p, .int .i64 ch] 34)).heap.size := by simp
          rw [hw4] at hblk hzs own8' own9' hbel'
          clear hw4 rd9 hbl
          have hz0 : w4.cell? ⟨wr.heap.size, 0, none⟩ = some (.bool d) := by rw [cell_of_row _ _ _ _ _ _ hblk]; rfl
          have hz1 : w4.cell? ⟨wr.heap.size, 1, none⟩ = some (.int .u32 p) := by rw [cell_of_row _ _ _ _ _ _ hblk]; rfl
          have hz2 : w4.cell? ⟨wr.heap.size, 2, none⟩ = some (.int .i64 ch) := by rw [cell_of_row _ _ _ _ _ _ hblk]; rfl
          have HBK := Lib.hid hblk
          clear hblk
          cases d
          all_goals
            go_wp2_with (first
              | (at_builtin; refine wpList_app1 rfl (.tmp 59) (.tmp 62) 30 rfl w2.heap.size 3 _ 8 intT A9 n9 c9 _ _ rfl rfl own9' hbel' rfl (by omega) (Nat.le_refl _) hbel'.size ?_; intro g5 c5 w5 own5 hbel5 hgr5; have hbk5 := (hgr5.1.block _ hzs (own_ne_block own9' HBK.out (by decide))).trans HBK.out; have hy0 : w5.cell? ⟨wr.heap.size, 0, none⟩ = _ := cell_of_row _ _ _ _ _ _ hbk5; have hy1 : w5.cell? ⟨wr.heap.size, 1, none⟩ = some (.int .u32 p) := (by rw [cell_of_row _ _ _ _ _ _ hbk5]; rfl); have hy2 : w5.cell? ⟨wr.heap.size, 2, none⟩ = some (.int .i64 ch) := (by rw [cell_of_row _ _ _ _ _ _ hbk5]; rfl); have own85 := own_other own8' own9' (by decide) hgr5.1; have HY := Lib.hid hbk5; clear hbk5)
              | (at_builtin; refine wpList_appN rfl (.tmp 67) (.tmp 73) 27 rfl w2.heap.size 39 _ 2 16 entryT A8 n8 c8 _ (ev (p, ch)) _ rfl rfl rfl own85 hbel5 rfl (ev_one (p, ch)) (by omega) (Nat.le_refl _) hbel5.size ?_; intro g6 c6 w6 own6 hbel6 hgr6; have own56 := own_other own5 own85 (by decide) hgr6.1))
            go_roundw
            case rel =>
              first
              | exact ⟨m, _, A8, some ⟨g5, 0, none⟩, c8, c5, n8, n9 + 1, W, sn ++ [ch], by omega, rfl, rfl, rfl, rfl, by omega, by omega, own85, by rw [← ivs_snoc _ _ rfl]; exact own5, hbel5, HE1.out, by simp [HE2.out], want_drop' HE3.out HT.out, HE4.out⟩
              | exact ⟨m, _, some ⟨g6, 0, none⟩, some ⟨g5, 0, none⟩, c6, c5, n8 + 1, n9 + 1, W ++ [(p, ch)], sn ++ [ch], by omega, rfl, rfl, rfl, rfl, by omega, by omega, by rw [← evs_snoc]; exact own6, by rw [← ivs_snoc _ _ rfl]; exact own56, hbel6, by simp [HE1.out], by simp [HE2.out], want_put' HE3.out HT.out, HE4.out⟩
            case measure => simp [intOf] <;> omega
end Go.Proofs.Ytnehbcopbioenaa
