/- The walk of the statement IndexEncodes: it returns true. Conditions: none beyond what the arguments are. -/
import Derived.Test.YtnehbcopbioenaaIRDec
import Derived.Test.YtnehbcopbioenaaIPlay
namespace Go.Proofs.Ytnehbcopbioenaa
set_option linter.unusedVariables false
set_option linter.unusedSimpArgs false
open Go.RowKit Go.ChangeMaps

theorem encode_holds (bx bm : Nat) (cap : Int) (L : List (Int × Int)) (hI : Inv cap L) (hcap1 : 1 ≤ cap) (hcap2 : cap ≤ 4096) (w : World) (h : HoldsIx w bx bm cap L) (E : List UInt8) (hE : encX cap L = E) (k : Nat) (hk : E.length = k) :
    Calls Try.prog 30 #[.pointer (some ⟨bx, 0, none⟩)] w fun e W' => ∃ A c, e = .returned (.slice A k c) ∧ W'.ownsRow w.heap.size 5 1 (.slice A k c) k (bvs E) ∧ Below w.heap.size w W' := by
  subst hE hk
  obtain ⟨s, hIx, hR, rfl, hG⟩ := h
  exact encode_any bx bm s L hR hI hcap1 hcap2 w hIx
theorem refEncode_holds (br : Nat) (cap : Int) (L : List (Int × Int)) (hI : Inv cap L) (hcap1 : 1 ≤ cap) (hcap2 : cap ≤ 4096) (w : World) (h : RefAt w br cap L) (E : List UInt8) (hE : encX cap L = E) (k : Nat) (hk : E.length = k) :
    Calls Try.prog 32 #[.pointer (some ⟨br, 0, none⟩)] w fun e W' => ∃ A c, e = .returned (.slice A k c) ∧ W'.ownsRow w.heap.size 5 1 (.slice A k c) k (bvs E) ∧ Below w.heap.size w W' := by
  subst hE hk
  exact refEncode_any br cap L hcap1 hcap2 hI w h

set_option maxHeartbeats 3200000 in
theorem lawEncodes (cap : Int) (A : Option Addr) (n c : Nat) (os : List IOp) (hn : os.length = n) (hnc : n ≤ c) (hc : c ≤ 140737488355328) (hok : OpsOk os) (w : World) (hr : Rd w w.heap.size 3 A n (ovs os)) :
    Calls Try.prog 7 #[.int .i64 cap, .slice A n c] w fun e w' => e = .returned (.bool true) ∧ Below w.heap.size w w' := by
  by_cases hv1 : (cap < 1 ∨ 4096 < cap) ∨ 80 < n
  · go_enter Try.func7, Try.ntmps7
    go_wp2_with (go_at_call 9; refine (sanity_any _).mono ?_; rintro e w1 ⟨rfl, b1⟩)
    refine (play_bad cap A n c _ hv1).mono ?_
    rintro e w2 ⟨rfl, b2⟩
    have b2' := b1.trans (b2.mono b1.size)
    go_wp2_with fail
    go_ret
    exact ⟨rfl, b2'⟩
  have hI := Inv.play (cap := cap) (by omega) hok
  obtain ⟨L, hL⟩ : ∃ L, playL cap os = L := ⟨_, rfl⟩
  rw [hL] at hI
  have hlen := hI.len
  have hel := encX_len (cap := cap) (L := L)
  have hdec := decX_enc (cap := cap) (L := L) (by omega) (by omega) hI
  obtain ⟨E, hE⟩ : ∃ E, encX cap L = E := ⟨_, rfl⟩
  rw [hE] at hel hdec
  obtain ⟨k, hk⟩ : ∃ k, E.length = k := ⟨_, rfl⟩
  obtain ⟨l, hl⟩ : ∃ l, L.length = l := ⟨_, rfl⟩
  rw [hk, hl] at hel
  rw [hl] at hlen
  have HL := Lib.hid hL
  have HN := Lib.hid hn
  have HOK := Lib.hid hok
  have HI := Lib.hid hI
  have HE := Lib.hid hE
  have HK := Lib.hid hk
  have HLL := Lib.hid hl
  have HDEC := Lib.hid hdec
  clear hn hok hL hI hE hk hl hdec
  go_enter Try.func7, Try.ntmps7
  go_wp2_with (go_at_call 9; refine (sanity_any _).mono ?_; rintro e w1 ⟨rfl, b1⟩)
  refine (play_any cap (by omega) (by omega) A n c os HN.out (by omega) HOK.out _ _ b1.size (hr.below b1)).mono ?_
  rintro e w2 ⟨bx, rfl, bm, hx2, _, _, b2⟩
  have b2' := b1.trans (b2.mono b1.size)
  rw [HL.out] at hx2
  clear b1 b2
  have hA1 := all_holds bx bm _ L (by rw [HLL.out]; omega) _ hx2
  rw [HLL.out] at hA1
  have hlx := hx2.lt
  go_wp2_with fail
  refine hA1.mono ?_
  rintro e w4 ⟨A4, c4, rfl, own4, b4⟩
  have hx4 := hx2.below b4 hlx.1 hlx.2
  have b4' := b2'.trans (b4.mono b2'.size)
  have hy5 : RefAt (w4.alloc (.cells #[.int .i64 cap, .slice A4 l c4] 56)) w4.heap.size cap L := ⟨A4, c4, by rw [HLL.out]; exact heap_alloc_new w4 _, by rw [HLL.out]; exact own_base (own4.alloc _) (Nat.zero_le _)⟩
  have b5 : Below w4.heap.size w4 (w4.alloc (.cells #[.int .i64 cap, .slice A4 l c4] 56)) := (Below.refl _ w4).alloc (Nat.le_refl _) _
  have hx5 := hx4.below b5 hx4.lt.1 hx4.lt.2
  have b5' := b4'.trans (b5.mono b4'.size)
  have hys := hy5.lt
  have rdA := (Rd.of_own own4).below b5
  clear hA1 hx2 b4 own4 hx4 b5 b2' b4'
  have hEN := encode_holds bx bm cap L HI.out (by omega) (by omega) _ hx5 E HE.out k HK.out
  go_wp2_with fail
  refine hEN.mono ?_
  rintro e w6 ⟨A6, c6, rfl, own6, b6⟩
  have hy6 := hy5.below b6
  have rdA6 := rdA.below (b6.mono (Nat.le_of_lt hys))
  have hyc6 : w6.cell? ⟨w4.heap.size, 1, none⟩ = some (.slice A4 l c4) := (b6.cell (p := ⟨w4.heap.size, 1, none⟩) hys).trans (by rw [cell_of_row _ _ _ _ _ _ (heap_alloc_new w4 _)]; rfl)
  have hys6 : w4.heap.size < w6.heap.size := Nat.lt_of_lt_of_le hys b6.size
  have b6' := b5'.trans (b6.mono b5'.size)
  have rd6 := Rd.of_own own6
  have hcap6 := own_cap own6
  clear hEN hx5 hy5 own6 b5'
  have hDE := decode_any A6 k c6 E HK.out hcap6.1 hcap6.2 (by omega) w6 rd6
  rw [HDEC.out] at hDE
  go_wp2_with fail
  refine hDE.mono ?_
  rintro e w7 ⟨b7, hd⟩
  have hd2 := hd.resolve_left (fun h => h.1 rfl)
  obtain ⟨_, bz, bn, rfl, hz7, hbz, hbn⟩ := hd2
  simp only at hz7
  have hy7 := hy6.below b7
  have b7' := b6'.trans (b7.mono b6'.size)
  have rd7 := rd6.below b7
  have rdA7 := rdA6.below (b7.mono (by omega))
  have hyc7 : w7.cell? ⟨w4.heap.size, 1, none⟩ = some (.slice A4 l c4) := (b7.cell (p := ⟨w4.heap.size, 1, none⟩) hys6).trans hyc6
  have hs67 := b7.size
  clear hDE hy6 b6' hd rd6 rdA rdA6 hyc6 b6 b7
  have HSS : Hid (∀ w', Below w7.heap.size w7 w' → (convert 57 9 (.slice A6 k c6)).run Try.prog w' = .ok (.string ⟨E.toArray⟩) w' ∧ w'.cell? ⟨w4.heap.size, 1, none⟩ = some (.slice A4 l c4)) := fun w' hb =>
    ⟨run_toS w' _ _ 5 Try.underlying57 Try.underlying5 Try.underlying9 A6 k c6 w6.heap.size E (rd7.below (hb.mono (by omega))), (hb.cell (p := ⟨w4.heap.size, 1, none⟩) (Nat.lt_of_lt_of_le hys6 hs67)).trans hyc7⟩
  have hv7 : Below w7.heap.size w7 w7.drew := (Below.refl _ _).drew
  have HRE := Lib.hid (fun w h => refEncode_holds w4.heap.size cap L HI.out (by omega) (by omega) w h E HE.out k HK.out)
  have HAL := Lib.hid (fun w h => all_holds bz bn cap L (by rw [HLL.out]; omega) w h)
  rw [HLL.out] at HAL
  have hyd : RefAt w7.drew w4.heap.size cap L := hy7.below (Below.refl _ _).drew
  have hzl := hz7.lt
  go_wp2_with fail
  refine wp_region_held_drew (S := fun w' => (convert 57 9 (.slice A6 k c6)).run Try.prog w' = .ok (.string ⟨E.toArray⟩) w' ∧ w'.cell? ⟨w4.heap.size, 1, none⟩ = some (.slice A4 l c4)) (by kernel_rfl) (HSS.out _ hv7) (fun hHeld => ?_)
  refine wpAnyH_take (i := 0) (oi := { dst := some 44, op := Op.move (Operand.tmp 9), type := 57, pos := "law.go:172", after := #[], guard := none }) (v := ?v0) rfl (by kernel_rfl) (by kernel_rfl) (by kernel_rfl) (fun _ _ _ h => h) (Or.inl ⟨by rfl, ?h0⟩) (by assumption) ?r0
  case h0 =>
    intro w hSw
    try dsimp only at hSw
    go_simp
    try with_reducible rfl
  try simp only [Act.put, List.setIfInBounds_toArray, List.set_cons_zero, List.set_cons_succ]
  refine wpAnyH_take (i := 1) (oi := { dst := some 45, op := Op.convert 57 9 (Operand.tmp 44), type := 9, pos := "law.go:172", after := #[{ on := 0, ground := Ground.data }], guard := none }) (v := ?v1) rfl (by kernel_rfl) (by kernel_rfl) (by kernel_rfl) (fun _ _ _ h => h) (Or.inl ⟨by rfl, ?h1⟩) (by assumption) ?r1
  case h1 =>
    intro w hSw
    try dsimp only at hSw
    go_simp
    try with_reducible rfl
  try simp only [Act.put, List.setIfInBounds_toArray, List.set_cons_zero, List.set_cons_succ]
  refine wpAnyH_take (i := 2) (oi := { dst := some 46, op := Op.move (Operand.tmp 8), type := 48, pos := "law.go:172", after := #[], guard := none }) (v := ?v2) rfl (by kernel_rfl) (by kernel_rfl) (by kernel_rfl) (fun _ _ _ h => h) (Or.inl ⟨by rfl, ?h2⟩) (by assumption) ?r2
  case h2 =>
    intro w hSw
    try dsimp only at hSw
    go_simp
    try with_reducible rfl
  try simp only [Act.put, List.setIfInBounds_toArray, List.set_cons_zero, List.set_cons_succ]
  refine wpAnyH_ready (rs := [3]) (by kernel_rfl) (by simp) ?_
  refine AllReadyH.cons (o := { dst := some 47, op := Op.call { callee := Callee.value (Operand.func 32), args := #[Operand.tmp 46], argTypes := #[48] }, type := 57, pos := "law.go:172", after := #[{ on := 2, ground := Ground.data }], guard := none }) rfl (fun K hK => ?_) AllReadyH.nil
  go_simp
  refine (HRE.out _ hyd).mono ?_
  rintro e w8 ⟨A8, c8, rfl, own8, b8⟩
  have hv8 : Below w7.heap.size w7 w8 := below_l_drew b8
  have hcv := run_toS (P := Try.prog) w8 _ _ 5 Try.underlying57 Try.underlying5 Try.underlying9 A8 k c8 _ E (Rd.of_own own8)
  have hz8 := hz7.below hv8 hzl.1 hzl.2
  go_wp2_with fail
  refine hK.out _ _ (HSS.out _ hv8) (fun hHeld => ?_)
  clear hK K
  try simp only [Act.put, List.setIfInBounds_toArray, List.set_cons_zero, List.set_cons_succ]
  refine wpAnyH_ready (rs := [4]) (by kernel_rfl) (by simp) ?_
  refine AllReadyH.cons (o := { dst := some 48, op := Op.convert 57 9 (Operand.tmp 47), type := 9, pos := "law.go:172", after := #[{ on := 3, ground := Ground.data }], guard := none }) rfl (fun K hK => ?_) AllReadyH.nil
  go_simp
  refine hK.out _ _ (HSS.out _ hv8) (fun hHeld => ?_)
  clear hK K
  try simp only [Act.put, List.setIfInBounds_toArray, List.set_cons_zero, List.set_cons_succ]
  refine wpAnyH_take (i := 5) (oi := { dst := some 49, op := Op.binOp BinOp.eql 9 (Operand.tmp 45) (Operand.tmp 48) 9, type := 4, pos := "law.go:172", after := #[{ on := 1, ground := Ground.data }, { on := 4, ground := Ground.data }], guard := none }) (v := ?v5) rfl (by kernel_rfl) (by kernel_rfl) (by kernel_rfl) (fun _ _ _ h => h) (Or.inl ⟨by rfl, ?h5⟩) (by assumption) ?r5
  case h5 =>
    intro w hSw
    try dsimp only at hSw
    go_simp
    try with_reducible rfl
  try simp only [Act.put, List.setIfInBounds_toArray, List.set_cons_zero, List.set_cons_succ]
  refine wpAnyH_take (i := 6) (oi := { dst := some 50, op := Op.move (Operand.tmp 49), type := 4, pos := "law.go:172", after := #[{ on := 5, ground := Ground.data }, { on := 3, ground := Ground.chain }], guard := none }) (v := ?v6) rfl (by kernel_rfl) (by kernel_rfl) (by kernel_rfl) (fun _ _ _ h => h) (Or.inl ⟨by rfl, ?h6⟩) (by assumption) ?r6
  case h6 =>
    intro w hSw
    try dsimp only at hSw
    go_simp
    try with_reducible rfl
  try simp only [Act.put, List.setIfInBounds_toArray, List.set_cons_zero, List.set_cons_succ]
  refine wpAnyH_take (i := 7) (oi := { dst := some 51, op := Op.move (Operand.tmp 10), type := 24, pos := "law.go:172", after := #[{ on := 6, ground := Ground.guard }], guard := some (6, true) }) (v := ?v7) rfl (by kernel_rfl) (by kernel_rfl) (by kernel_rfl) (fun _ _ _ h => h) (Or.inl ⟨by rfl, ?h7⟩) (by assumption) ?r7
  case h7 =>
    intro w hSw
    try dsimp only at hSw
    go_simp
    try with_reducible rfl
  try simp only [Act.put, List.setIfInBounds_toArray, List.set_cons_zero, List.set_cons_succ]
  refine wpAnyH_take (i := 9) (oi := { dst := some 53, op := Op.move (Operand.tmp 0), type := 3, pos := "law.go:172", after := #[{ on := 6, ground := Ground.guard }], guard := some (6, true) }) (v := ?v9) rfl (by kernel_rfl) (by kernel_rfl) (by kernel_rfl) (fun _ _ _ h => h) (Or.inl ⟨by rfl, ?h9⟩) (by assumption) ?r9
  case h9 =>
    intro w hSw
    try dsimp only at hSw
    go_simp
    try with_reducible rfl
  try simp only [Act.put, List.setIfInBounds_toArray, List.set_cons_zero, List.set_cons_succ]
  refine wpAnyH_ready (rs := [8]) (by kernel_rfl) (by simp) ?_
  refine AllReadyH.cons (o := { dst := some 52, op := Op.call { callee := Callee.value (Operand.func 28), args := #[Operand.tmp 51], argTypes := #[24] }, type := 3, pos := "law.go:172", after := #[{ on := 7, ground := Ground.data }, { on := 6, ground := Ground.chain }, { on := 6, ground := Ground.guard }], guard := some (6, true) }) rfl (fun K hK => ?_) AllReadyH.nil
  go_simp
  refine (cap_holds bz bn cap L w8 hz8).mono ?_
  rintro e w8' ⟨rfl, rfl⟩
  go_wp2_with fail
  refine hK.out _ _ (HSS.out _ hv8) (fun hHeld => ?_)
  clear hK K
  try simp only [Act.put, List.setIfInBounds_toArray, List.set_cons_zero, List.set_cons_succ]
  refine wpAnyH_take (i := 10) (oi := { dst := some 54, op := Op.binOp BinOp.eql 3 (Operand.tmp 52) (Operand.tmp 53) 3, type := 4, pos := "law.go:172", after := #[{ on := 8, ground := Ground.data }, { on := 9, ground := Ground.data }, { on := 6, ground := Ground.guard }], guard := some (6, true) }) (v := ?v10) rfl (by kernel_rfl) (by kernel_rfl) (by kernel_rfl) (fun _ _ _ h => h) (Or.inl ⟨by rfl, ?h10⟩) (by assumption) ?r10
  case h10 =>
    intro w hSw
    try dsimp only at hSw
    go_simp
    try with_reducible rfl
  try simp only [Act.put, List.setIfInBounds_toArray, List.set_cons_zero, List.set_cons_succ]
  refine wpAnyH_take (i := 11) (oi := { dst := some 55, op := Op.pick (Operand.tmp 50) (Operand.tmp 54) (Operand.const (Value.bool false)), type := 4, pos := "law.go:172", after := #[{ on := 6, ground := Ground.data }, { on := 10, ground := Ground.data }], guard := none }) (v := ?v11) rfl (by kernel_rfl) (by kernel_rfl) (by kernel_rfl) (fun _ _ _ h => h) (Or.inl ⟨by rfl, ?h11⟩) (by assumption) ?r11
  case h11 =>
    intro w hSw
    try dsimp only at hSw
    go_simp
    try with_reducible rfl
  try simp only [Act.put, List.setIfInBounds_toArray, List.set_cons_zero, List.set_cons_succ]
  refine wpAnyH_take (i := 12) (oi := { dst := some 56, op := Op.move (Operand.tmp 55), type := 4, pos := "law.go:172", after := #[{ on := 11, ground := Ground.data }, { on := 8, ground := Ground.chain }], guard := none }) (v := ?v12) rfl (by kernel_rfl) (by kernel_rfl) (by kernel_rfl) (fun _ _ _ h => h) (Or.inl ⟨by rfl, ?h12⟩) (by assumption) ?r12
  case h12 =>
    intro w hSw
    try dsimp only at hSw
    go_simp
    try with_reducible rfl
  try simp only [Act.put, List.setIfInBounds_toArray, List.set_cons_zero, List.set_cons_succ]
  refine wpAnyH_take (i := 13) (oi := { dst := some 57, op := Op.move (Operand.tmp 10), type := 24, pos := "law.go:172", after := #[{ on := 12, ground := Ground.guard }], guard := some (12, true) }) (v := ?v13) rfl (by kernel_rfl) (by kernel_rfl) (by kernel_rfl) (fun _ _ _ h => h) (Or.inl ⟨by rfl, ?h13⟩) (by assumption) ?r13
  case h13 =>
    intro w hSw
    try dsimp only at hSw
    go_simp
    try with_reducible rfl
  try simp only [Act.put, List.setIfInBounds_toArray, List.set_cons_zero, List.set_cons_succ]
  refine wpAnyH_take (i := 15) (oi := { dst := some 59, op := Op.move (Operand.tmp 8), type := 48, pos := "law.go:172", after := #[{ on := 12, ground := Ground.guard }], guard := some (12, true) }) (v := ?v15) rfl (by kernel_rfl) (by kernel_rfl) (by kernel_rfl) (fun _ _ _ h => h) (Or.inl ⟨by rfl, ?h15⟩) (by assumption) ?r15
  case h15 =>
    intro w hSw
    try dsimp only at hSw
    go_simp
    try with_reducible rfl
  try simp only [Act.put, List.setIfInBounds_toArray, List.set_cons_zero, List.set_cons_succ]
  refine wpAnyH_take (i := 16) (oi := { dst := some 60, op := Op.nilCheck (Operand.tmp 59), type := 0, pos := "law.go:172", after := #[{ on := 15, ground := Ground.data }, { on := 12, ground := Ground.guard }], guard := some (12, true) }) (v := ?v16) rfl (by kernel_rfl) (by kernel_rfl) (by kernel_rfl) (fun _ _ _ h => h) (Or.inl ⟨by rfl, ?h16⟩) (by assumption) ?r16
  case h16 =>
    intro w hSw
    try dsimp only at hSw
    go_simp
    try with_reducible rfl
  try simp only [Act.put, List.setIfInBounds_toArray, List.set_cons_zero, List.set_cons_succ]
  refine wpAnyH_take (i := 17) (oi := { dst := some 61, op := Op.fieldAddr 56 (Operand.tmp 60) 1, type := 0, pos := "law.go:172", after := #[{ on := 16, ground := Ground.data }, { on := 12, ground := Ground.guard }], guard := some (12, true) }) (v := ?v17) rfl (by kernel_rfl) (by kernel_rfl) (by kernel_rfl) (fun _ _ _ h => h) (Or.inl ⟨by rfl, ?h17⟩) (by assumption) ?r17
  case h17 =>
    intro w hSw
    try dsimp only at hSw
    go_simp
    try with_reducible rfl
  try simp only [Act.put, List.setIfInBounds_toArray, List.set_cons_zero, List.set_cons_succ]
  refine wpAnyH_take (i := 18) (oi := { dst := some 62, op := Op.load 27 (Operand.tmp 61), type := 27, pos := "law.go:172", after := #[{ on := 17, ground := Ground.data }, { on := 12, ground := Ground.guard }], guard := some (12, true) }) (v := ?v18) rfl (by kernel_rfl) (by kernel_rfl) (by kernel_rfl) (fun _ _ _ h => h) (Or.inl ⟨by rfl, ?h18⟩) (by assumption) ?r18
  case h18 =>
    intro w hSw
    try dsimp only at hSw
    go_simp
    try with_reducible rfl
  try simp only [Act.put, List.setIfInBounds_toArray, List.set_cons_zero, List.set_cons_succ]
  refine wpAnyH_ready (rs := [14]) (by kernel_rfl) (by simp) ?_
  refine AllReadyH.cons (o := { dst := some 58, op := Op.call { callee := Callee.value (Operand.func 11), args := #[Operand.tmp 57], argTypes := #[24] }, type := 27, pos := "law.go:172", after := #[{ on := 13, ground := Ground.data }, { on := 12, ground := Ground.chain }, { on := 12, ground := Ground.guard }], guard := some (12, true) }) rfl (fun K hK => ?_) AllReadyH.nil
  go_simp
  refine (HAL.out _ hz8).mono ?_
  rintro e w9 ⟨A9, c9, rfl, own9, b9⟩
  have hv9 : Below w7.heap.size w7 w9 := hv8.trans (b9.mono hv8.size)
  have rd9 := Rd.of_own own9
  go_wp2_with fail
  refine hK.out _ _ (HSS.out _ hv9) (fun hHeld => ?_)
  clear hK K
  try simp only [Act.put, List.setIfInBounds_toArray, List.set_cons_zero, List.set_cons_succ]
  refine wpAnyH_ready (rs := [19]) (by kernel_rfl) (by simp) ?_
  refine AllReadyH.cons (o := { dst := some 63, op := Op.call { callee := Callee.value (Operand.func 12), args := #[Operand.tmp 58, Operand.tmp 62], argTypes := #[27, 27] }, type := 4, pos := "law.go:172", after := #[{ on := 14, ground := Ground.data }, { on := 18, ground := Ground.data }, { on := 14, ground := Ground.chain }, { on := 12, ground := Ground.guard }], guard := some (12, true) }) rfl (fun K hK => ?_) AllReadyH.nil
  go_simp
  refine (refSame_len A9 A4 c9 c4 l l L L _ HLL.out HLL.out (by unfold maxLen; omega) _ _ rd9 (rdA7.below (hv9.mono (by omega))) true (by simp)).mono ?_
  rintro e w10 ⟨rfl, n10, hw10⟩
  have hv10 : Below w7.heap.size w7 w10 := by rw [hw10]; exact below_drewN hv9 _
  clear hw10
  go_wp2_with fail
  refine hK.out _ _ (HSS.out _ hv10) (fun hHeld => ?_)
  clear hK K
  try simp only [Act.put, List.setIfInBounds_toArray, List.set_cons_zero, List.set_cons_succ]
  refine wpAnyH_take (i := 20) (oi := { dst := some 64, op := Op.pick (Operand.tmp 56) (Operand.tmp 63) (Operand.const (Value.bool false)), type := 4, pos := "law.go:172", after := #[{ on := 12, ground := Ground.data }, { on := 19, ground := Ground.data }], guard := none }) (v := ?v20) rfl (by kernel_rfl) (by kernel_rfl) (by kernel_rfl) (fun _ _ _ h => h) (Or.inl ⟨by rfl, ?h20⟩) (by assumption) ?r20
  case h20 =>
    intro w hSw
    try dsimp only at hSw
    go_simp
    try with_reducible rfl
  try simp only [Act.put, List.setIfInBounds_toArray, List.set_cons_zero, List.set_cons_succ]
  refine wpAnyH_take (i := 21) (oi := { dst := some 4, op := Op.assign (Operand.tmp 64), type := 4, pos := "law.go:172", after := #[{ on := 20, ground := Ground.data }, { on := 19, ground := Ground.chain }, { on := 0, ground := Ground.phase }, { on := 1, ground := Ground.phase }, { on := 2, ground := Ground.phase }, { on := 3, ground := Ground.phase }, { on := 4, ground := Ground.phase }, { on := 5, ground := Ground.phase }, { on := 6, ground := Ground.phase }, { on := 7, ground := Ground.phase }, { on := 8, ground := Ground.phase }, { on := 9, ground := Ground.phase }, { on := 10, ground := Ground.phase }, { on := 11, ground := Ground.phase }, { on := 12, ground := Ground.phase }, { on := 13, ground := Ground.phase }, { on := 14, ground := Ground.phase }, { on := 15, ground := Ground.phase }, { on := 16, ground := Ground.phase }, { on := 17, ground := Ground.phase }, { on := 18, ground := Ground.phase }, { on := 19, ground := Ground.phase }, { on := 20, ground := Ground.phase }], guard := none }) (v := ?v21) rfl (by kernel_rfl) (by kernel_rfl) (by kernel_rfl) (fun _ _ _ h => h) (Or.inl ⟨by rfl, ?h21⟩) (by assumption) ?r21
  case h21 =>
    intro w hSw
    try dsimp only at hSw
    go_simp
    try with_reducible rfl
  try simp only [Act.put, List.setIfInBounds_toArray, List.set_cons_zero, List.set_cons_succ]
  refine wpAnyH_done (by kernel_rfl) ?_ _
  go_wp2_with fail
  go_ret
  exact ⟨rfl, b7'.trans (hv10.mono b7'.size)⟩
end Go.Proofs.Ytnehbcopbioenaa
