/- The walk of the statement IndexDecodeMatchesSpec: it returns true. Conditions: none beyond what the argument is. -/
import Derived.Test.YtnehbcopbioenaaILawEncs
namespace Go.Proofs.Ytnehbcopbioenaa
set_option linter.unusedVariables false
set_option linter.unusedSimpArgs false
open Go.RowKit Go.ChangeMaps

set_option maxHeartbeats 3200000 in
theorem lawDecodes (A : Option Addr) (n c : Nat) (b : List UInt8) (hn : b.length = n) (hnc : n ≤ c) (hc : c ≤ 140737488355328) (w : World) (hr : Rd w w.heap.size 1 A n (bvs b)) :
    Calls Try.prog 8 #[.slice A n c] w fun e w' => e = .returned (.bool true) ∧ Below w.heap.size w w' := by
  by_cases hbig : 400 < n
  · have hb' : (400 : Int) < n := by omega
    go_enter Try.func8, Try.ntmps8
    go_wp2_with (go_at_call 9; refine (sanity_any _).mono ?_; rintro e w1 ⟨rfl, b1⟩)
    go_ret
    exact ⟨rfl, b1⟩
  have hb' : ¬ (400 : Int) < n := by omega
  have HN := Lib.hid hn
  clear hn
  obtain ⟨d, hd⟩ : ∃ d, decX b = d := ⟨_, rfl⟩
  have HD := Lib.hid hd
  clear hd
  have hcm : c ≤ maxLen := by unfold maxLen; omega
  go_enter Try.func8, Try.ntmps8
  go_wp2_with (go_at_call 9; refine (sanity_any _).mono ?_; rintro e w1 ⟨rfl, b1⟩)
  have rd1 := (hr.below b1).more b1.size
  have hDE := decode_any A n c b HN.out hnc hcm (by omega) w1 rd1
  rw [HD.out] at hDE
  refine hDE.mono ?_
  rintro e w2 ⟨b2, hd⟩
  have rd2 := (rd1.below b2).more b2.size
  have b2' := b1.trans (b2.mono b1.size)
  have hRD := refDecode_any A n c b HN.out hnc hcm (by omega) w2 rd2
  rw [HD.out] at hRD
  clear hDE rd1 b1 b2
  by_cases hd0 : d.1 = 0
  case neg =>
    have hee : e = .returned (.tuple #[.pointer none, .int .i64 d.1]) := by
      rcases hd with h | h
      · exact h.2
      · exact absurd h.1 hd0
    rw [hee]
    clear hee hd
    have hne : (d.1 != 0) = true := by simpa using hd0
    go_wp2_with fail
    refine hRD.mono ?_
    rintro e w3 ⟨b3, hd'⟩
    have hee : e = .returned (.tuple #[.pointer none, .int .i64 d.1]) := by
      rcases hd' with h | h
      · exact h.2
      · exact absurd h.1 hd0
    rw [hee]
    clear hee hd'
    have b3' := b2'.trans (b3.mono b2'.size)
    clear hd0
    go_wp2_with fail
    go_ret
    exact ⟨rfl, b3'⟩
  obtain ⟨bx, bm, hee, hx2, _, _⟩ : ∃ bx bm, e = .returned (.tuple #[.pointer (some ⟨bx, 0, none⟩), .int .i64 0]) ∧ HoldsIx w2 bx bm d.2.1 d.2.2 ∧ w1.heap.size ≤ bx ∧ w1.heap.size ≤ bm := by
    rcases hd with ⟨h, _⟩ | ⟨_, h⟩
    · exact absurd hd0 h
    · exact h
  rw [hee]
  clear hd hee
  obtain ⟨d1, cap, L⟩ := d
  simp only at hd0 hx2
  subst hd0
  obtain ⟨hbE, hcap1, hcap2, hI⟩ := decX_ok HD.out
  have hlen := hI.len
  obtain ⟨l, hl⟩ : ∃ l, L.length = l := ⟨_, rfl⟩
  rw [hl] at hlen
  have HI := Lib.hid hI
  have HBE := Lib.hid hbE
  have HLL := Lib.hid hl
  clear hI hbE hl
  go_wp2_with fail
  refine hRD.mono ?_
  rintro e w3 ⟨b3, hd'⟩
  obtain ⟨br, hee, hy3, _⟩ : ∃ br, e = .returned (.tuple #[.pointer (some ⟨br, 0, none⟩), .int .i64 0]) ∧ RefAt w3 br cap L ∧ w2.heap.size ≤ br := by
    rcases hd' with ⟨h, _⟩ | ⟨_, h⟩
    · exact absurd rfl h
    · exact h
  rw [hee]
  have b3' := b2'.trans (b3.mono b2'.size)
  have hx3 := hx2.below b3 hx2.lt.1 hx2.lt.2
  have hxl := hx3.lt
  have rd3 := (rd2.below b3).more b3.size
  clear hd' hee hRD hx2 rd2 b2' b3
  have HSS : Hid (∀ w', Below w3.heap.size w3 w' → (convert 57 9 (.slice A n c)).run Try.prog w' = .ok (.string ⟨b.toArray⟩) w') := fun w' hb =>
    run_toS w' _ _ 5 Try.underlying57 Try.underlying5 Try.underlying9 A n c w3.heap.size b (rd3.below hb)
  have hv4 : Below w3.heap.size w3 w3.drew := (Below.refl _ _).drew
  have hx4 := hx3.below hv4 hxl.1 hxl.2
  have hy4 := hy3.below hv4
  have HEN := Lib.hid (fun w h => encode_holds bx bm cap L HI.out hcap1 hcap2 w h b HBE.out.symm n HN.out)
  have HA1 := Lib.hid (fun w h => all_holds bx bm cap L (by rw [HLL.out]; omega) w h)
  have HA2 := Lib.hid (fun w h => @refAll_any w br cap L (by rw [HLL.out]; omega) h)
  rw [HLL.out] at HA1 HA2
  go_wp2_with fail
  refine wp_region_held_drew (S := fun w' => (convert 57 9 (.slice A n c)).run Try.prog w' = .ok (.string ⟨b.toArray⟩) w') (by kernel_rfl) (HSS.out _ hv4) (fun hHeld => ?_)
  refine wpAnyH_take (i := 0) (oi := { dst := some 34, op := Op.move (Operand.tmp 4), type := 24, pos := "law.go:189", after := #[], guard := none }) (v := ?v0) rfl (by kernel_rfl) (by kernel_rfl) (by kernel_rfl) (fun _ _ _ h => h) (Or.inl ⟨by rfl, ?h0⟩) (by assumption) ?r0
  case h0 =>
    intro w hSw
    try dsimp only at hSw
    go_simp
    try with_reducible rfl
  try simp only [Act.put, List.setIfInBounds_toArray, List.set_cons_zero, List.set_cons_succ]
  refine wpAnyH_take (i := 2) (oi := { dst := some 36, op := Op.move (Operand.tmp 6), type := 48, pos := "law.go:189", after := #[], guard := none }) (v := ?v2) rfl (by kernel_rfl) (by kernel_rfl) (by kernel_rfl) (fun _ _ _ h => h) (Or.inl ⟨by rfl, ?h2⟩) (by assumption) ?r2
  case h2 =>
    intro w hSw
    try dsimp only at hSw
    go_simp
    try with_reducible rfl
  try simp only [Act.put, List.setIfInBounds_toArray, List.set_cons_zero, List.set_cons_succ]
  refine wpAnyH_ready (rs := [1]) (by kernel_rfl) (by simp) ?_
  refine AllReadyH.cons (o := { dst := some 35, op := Op.call { callee := Callee.value (Operand.func 28), args := #[Operand.tmp 34], argTypes := #[24] }, type := 3, pos := "law.go:189", after := #[{ on := 0, ground := Ground.data }], guard := none }) rfl (fun K hK => ?_) AllReadyH.nil
  go_simp
  refine (cap_holds bx bm cap L _ hx4).mono ?_
  rintro e w5' ⟨rfl, rfl⟩
  go_wp2_with fail
  refine hK.out _ _ (HSS.out _ hv4) (fun hHeld => ?_)
  clear hK K
  try simp only [Act.put, List.setIfInBounds_toArray, List.set_cons_zero, List.set_cons_succ]
  refine wpAnyH_ready (rs := [3]) (by kernel_rfl) (by simp) ?_
  refine AllReadyH.cons (o := { dst := some 37, op := Op.call { callee := Callee.value (Operand.func 29), args := #[Operand.tmp 36], argTypes := #[48] }, type := 3, pos := "law.go:189", after := #[{ on := 2, ground := Ground.data }, { on := 1, ground := Ground.chain }], guard := none }) rfl (fun K hK => ?_) AllReadyH.nil
  go_simp
  refine (refCap_any hy4).mono ?_
  rintro e w5' ⟨rfl, rfl⟩
  go_wp2_with fail
  refine hK.out _ _ (HSS.out _ hv4) (fun hHeld => ?_)
  clear hK K
  try simp only [Act.put, List.setIfInBounds_toArray, List.set_cons_zero, List.set_cons_succ]
  refine wpAnyH_take (i := 4) (oi := { dst := some 38, op := Op.binOp BinOp.eql 3 (Operand.tmp 35) (Operand.tmp 37) 3, type := 4, pos := "law.go:189", after := #[{ on := 1, ground := Ground.data }, { on := 3, ground := Ground.data }], guard := none }) (v := ?v4) rfl (by kernel_rfl) (by kernel_rfl) (by kernel_rfl) (fun _ _ _ h => h) (Or.inl ⟨by rfl, ?h4⟩) (by assumption) ?r4
  case h4 =>
    intro w hSw
    try dsimp only at hSw
    go_simp
    try with_reducible rfl
  try simp only [Act.put, List.setIfInBounds_toArray, List.set_cons_zero, List.set_cons_succ]
  refine wpAnyH_take (i := 5) (oi := { dst := some 39, op := Op.move (Operand.tmp 38), type := 4, pos := "law.go:189", after := #[{ on := 4, ground := Ground.data }, { on := 3, ground := Ground.chain }], guard := none }) (v := ?v5) rfl (by kernel_rfl) (by kernel_rfl) (by kernel_rfl) (fun _ _ _ h => h) (Or.inl ⟨by rfl, ?h5⟩) (by assumption) ?r5
  case h5 =>
    intro w hSw
    try dsimp only at hSw
    go_simp
    try with_reducible rfl
  try simp only [Act.put, List.setIfInBounds_toArray, List.set_cons_zero, List.set_cons_succ]
  refine wpAnyH_take (i := 6) (oi := { dst := some 40, op := Op.move (Operand.tmp 4), type := 24, pos := "law.go:189", after := #[{ on := 5, ground := Ground.guard }], guard := some (5, true) }) (v := ?v6) rfl (by kernel_rfl) (by kernel_rfl) (by kernel_rfl) (fun _ _ _ h => h) (Or.inl ⟨by rfl, ?h6⟩) (by assumption) ?r6
  case h6 =>
    intro w hSw
    try dsimp only at hSw
    go_simp
    try with_reducible rfl
  try simp only [Act.put, List.setIfInBounds_toArray, List.set_cons_zero, List.set_cons_succ]
  refine wpAnyH_take (i := 8) (oi := { dst := some 42, op := Op.move (Operand.tmp 6), type := 48, pos := "law.go:189", after := #[{ on := 5, ground := Ground.guard }], guard := some (5, true) }) (v := ?v8) rfl (by kernel_rfl) (by kernel_rfl) (by kernel_rfl) (fun _ _ _ h => h) (Or.inl ⟨by rfl, ?h8⟩) (by assumption) ?r8
  case h8 =>
    intro w hSw
    try dsimp only at hSw
    go_simp
    try with_reducible rfl
  try simp only [Act.put, List.setIfInBounds_toArray, List.set_cons_zero, List.set_cons_succ]
  refine wpAnyH_ready (rs := [7]) (by kernel_rfl) (by simp) ?_
  refine AllReadyH.cons (o := { dst := some 41, op := Op.call { callee := Callee.value (Operand.func 11), args := #[Operand.tmp 40], argTypes := #[24] }, type := 27, pos := "law.go:189", after := #[{ on := 6, ground := Ground.data }, { on := 5, ground := Ground.chain }, { on := 5, ground := Ground.guard }], guard := some (5, true) }) rfl (fun K hK => ?_) AllReadyH.nil
  go_simp
  refine (HA1.out _ hx4).mono ?_
  rintro e w9 ⟨A9, c9, rfl, own9, b9⟩
  have hv9 : Below w3.heap.size w3 w9 := hv4.trans (b9.mono hv4.size)
  have rd9 := Rd.of_own own9
  have hx9 := hx3.below hv9 hxl.1 hxl.2
  have hy9 := hy3.below hv9
  go_wp2_with fail
  refine hK.out _ _ (HSS.out _ hv9) (fun hHeld => ?_)
  clear hK K
  try simp only [Act.put, List.setIfInBounds_toArray, List.set_cons_zero, List.set_cons_succ]
  refine wpAnyH_ready (rs := [9]) (by kernel_rfl) (by simp) ?_
  refine AllReadyH.cons (o := { dst := some 43, op := Op.call { callee := Callee.value (Operand.func 25), args := #[Operand.tmp 42], argTypes := #[48] }, type := 27, pos := "law.go:189", after := #[{ on := 8, ground := Ground.data }, { on := 7, ground := Ground.chain }, { on := 5, ground := Ground.guard }], guard := some (5, true) }) rfl (fun K hK => ?_) AllReadyH.nil
  go_simp
  refine (HA2.out _ hy9).mono ?_
  rintro e w10 ⟨A10, c10, rfl, own10, b10⟩
  have hv10 : Below w3.heap.size w3 w10 := hv9.trans (b10.mono hv9.size)
  have rd10 := Rd.of_own own10
  have rd9' := rd9.below b10
  go_wp2_with fail
  refine hK.out _ _ (HSS.out _ hv10) (fun hHeld => ?_)
  clear hK K
  try simp only [Act.put, List.setIfInBounds_toArray, List.set_cons_zero, List.set_cons_succ]
  refine wpAnyH_ready (rs := [10]) (by kernel_rfl) (by simp) ?_
  refine AllReadyH.cons (o := { dst := some 44, op := Op.call { callee := Callee.value (Operand.func 12), args := #[Operand.tmp 41, Operand.tmp 43], argTypes := #[27, 27] }, type := 4, pos := "law.go:189", after := #[{ on := 7, ground := Ground.data }, { on := 9, ground := Ground.data }, { on := 9, ground := Ground.chain }, { on := 5, ground := Ground.guard }], guard := some (5, true) }) rfl (fun K hK => ?_) AllReadyH.nil
  go_simp
  refine (refSame_len A9 A10 c9 c10 l l L L _ HLL.out HLL.out (by unfold maxLen; omega) _ _ rd9' rd10 true (by simp)).mono ?_
  rintro e w11 ⟨rfl, n11, hw11⟩
  have hv11 : Below w3.heap.size w3 w11 := by rw [hw11]; exact below_drewN hv10 _
  have hx11 := hx3.below hv11 hxl.1 hxl.2
  clear hw11
  go_wp2_with fail
  refine hK.out _ _ (HSS.out _ hv11) (fun hHeld => ?_)
  clear hK K
  try simp only [Act.put, List.setIfInBounds_toArray, List.set_cons_zero, List.set_cons_succ]
  refine wpAnyH_take (i := 11) (oi := { dst := some 45, op := Op.pick (Operand.tmp 39) (Operand.tmp 44) (Operand.const (Value.bool false)), type := 4, pos := "law.go:189", after := #[{ on := 5, ground := Ground.data }, { on := 10, ground := Ground.data }], guard := none }) (v := ?v11) rfl (by kernel_rfl) (by kernel_rfl) (by kernel_rfl) (fun _ _ _ h => h) (Or.inl ⟨by rfl, ?h11⟩) (by assumption) ?r11
  case h11 =>
    intro w hSw
    try dsimp only at hSw
    go_simp
    try with_reducible rfl
  try simp only [Act.put, List.setIfInBounds_toArray, List.set_cons_zero, List.set_cons_succ]
  refine wpAnyH_take (i := 12) (oi := { dst := some 46, op := Op.move (Operand.tmp 45), type := 4, pos := "law.go:189", after := #[{ on := 11, ground := Ground.data }, { on := 10, ground := Ground.chain }], guard := none }) (v := ?v12) rfl (by kernel_rfl) (by kernel_rfl) (by kernel_rfl) (fun _ _ _ h => h) (Or.inl ⟨by rfl, ?h12⟩) (by assumption) ?r12
  case h12 =>
    intro w hSw
    try dsimp only at hSw
    go_simp
    try with_reducible rfl
  try simp only [Act.put, List.setIfInBounds_toArray, List.set_cons_zero, List.set_cons_succ]
  refine wpAnyH_take (i := 13) (oi := { dst := some 47, op := Op.move (Operand.tmp 4), type := 24, pos := "law.go:189", after := #[{ on := 12, ground := Ground.guard }], guard := some (12, true) }) (v := ?v13) rfl (by kernel_rfl) (by kernel_rfl) (by kernel_rfl) (fun _ _ _ h => h) (Or.inl ⟨by rfl, ?h13⟩) (by assumption) ?r13
  case h13 =>
    intro w hSw
    try dsimp only at hSw
    go_simp
    try with_reducible rfl
  try simp only [Act.put, List.setIfInBounds_toArray, List.set_cons_zero, List.set_cons_succ]
  refine wpAnyH_take (i := 16) (oi := { dst := some 50, op := Op.move (Operand.tmp 0), type := 57, pos := "law.go:189", after := #[{ on := 12, ground := Ground.guard }], guard := some (12, true) }) (v := ?v16) rfl (by kernel_rfl) (by kernel_rfl) (by kernel_rfl) (fun _ _ _ h => h) (Or.inl ⟨by rfl, ?h16⟩) (by assumption) ?r16
  case h16 =>
    intro w hSw
    try dsimp only at hSw
    go_simp
    try with_reducible rfl
  try simp only [Act.put, List.setIfInBounds_toArray, List.set_cons_zero, List.set_cons_succ]
  refine wpAnyH_take (i := 17) (oi := { dst := some 51, op := Op.convert 57 9 (Operand.tmp 50), type := 9, pos := "law.go:189", after := #[{ on := 16, ground := Ground.data }, { on := 12, ground := Ground.guard }], guard := some (12, true) }) (v := ?v17) rfl (by kernel_rfl) (by kernel_rfl) (by kernel_rfl) (fun _ _ _ h => h) (Or.inl ⟨by rfl, ?h17⟩) (by assumption) ?r17
  case h17 =>
    intro w hSw
    try dsimp only at hSw
    go_simp
    try with_reducible rfl
  try simp only [Act.put, List.setIfInBounds_toArray, List.set_cons_zero, List.set_cons_succ]
  refine wpAnyH_ready (rs := [14]) (by kernel_rfl) (by simp) ?_
  refine AllReadyH.cons (o := { dst := some 48, op := Op.call { callee := Callee.value (Operand.func 30), args := #[Operand.tmp 47], argTypes := #[24] }, type := 57, pos := "law.go:189", after := #[{ on := 13, ground := Ground.data }, { on := 12, ground := Ground.chain }, { on := 12, ground := Ground.guard }], guard := some (12, true) }) rfl (fun K hK => ?_) AllReadyH.nil
  go_simp
  refine (HEN.out _ hx11).mono ?_
  rintro e w12 ⟨A12, c12, rfl, own12, b12⟩
  have hv12 : Below w3.heap.size w3 w12 := hv11.trans (b12.mono hv11.size)
  have hcv := run_toS (P := Try.prog) w12 _ _ 5 Try.underlying57 Try.underlying5 Try.underlying9 A12 n c12 _ b (Rd.of_own own12)
  go_wp2_with fail
  refine hK.out _ _ (HSS.out _ hv12) (fun hHeld => ?_)
  clear hK K
  try simp only [Act.put, List.setIfInBounds_toArray, List.set_cons_zero, List.set_cons_succ]
  refine wpAnyH_ready (rs := [15]) (by kernel_rfl) (by simp) ?_
  refine AllReadyH.cons (o := { dst := some 49, op := Op.convert 57 9 (Operand.tmp 48), type := 9, pos := "law.go:189", after := #[{ on := 14, ground := Ground.data }, { on := 12, ground := Ground.guard }], guard := some (12, true) }) rfl (fun K hK => ?_) AllReadyH.nil
  go_simp
  refine hK.out _ _ (HSS.out _ hv12) (fun hHeld => ?_)
  clear hK K
  try simp only [Act.put, List.setIfInBounds_toArray, List.set_cons_zero, List.set_cons_succ]
  refine wpAnyH_take (i := 18) (oi := { dst := some 52, op := Op.binOp BinOp.eql 9 (Operand.tmp 49) (Operand.tmp 51) 9, type := 4, pos := "law.go:189", after := #[{ on := 15, ground := Ground.data }, { on := 17, ground := Ground.data }, { on := 12, ground := Ground.guard }], guard := some (12, true) }) (v := ?v18) rfl (by kernel_rfl) (by kernel_rfl) (by kernel_rfl) (fun _ _ _ h => h) (Or.inl ⟨by rfl, ?h18⟩) (by assumption) ?r18
  case h18 =>
    intro w hSw
    try dsimp only at hSw
    go_simp
    try with_reducible rfl
  try simp only [Act.put, List.setIfInBounds_toArray, List.set_cons_zero, List.set_cons_succ]
  refine wpAnyH_take (i := 19) (oi := { dst := some 53, op := Op.pick (Operand.tmp 46) (Operand.tmp 52) (Operand.const (Value.bool false)), type := 4, pos := "law.go:189", after := #[{ on := 12, ground := Ground.data }, { on := 18, ground := Ground.data }], guard := none }) (v := ?v19) rfl (by kernel_rfl) (by kernel_rfl) (by kernel_rfl) (fun _ _ _ h => h) (Or.inl ⟨by rfl, ?h19⟩) (by assumption) ?r19
  case h19 =>
    intro w hSw
    try dsimp only at hSw
    go_simp
    try with_reducible rfl
  try simp only [Act.put, List.setIfInBounds_toArray, List.set_cons_zero, List.set_cons_succ]
  refine wpAnyH_take (i := 20) (oi := { dst := some 2, op := Op.assign (Operand.tmp 53), type := 4, pos := "law.go:189", after := #[{ on := 19, ground := Ground.data }, { on := 14, ground := Ground.chain }, { on := 0, ground := Ground.phase }, { on := 1, ground := Ground.phase }, { on := 2, ground := Ground.phase }, { on := 3, ground := Ground.phase }, { on := 4, ground := Ground.phase }, { on := 5, ground := Ground.phase }, { on := 6, ground := Ground.phase }, { on := 7, ground := Ground.phase }, { on := 8, ground := Ground.phase }, { on := 9, ground := Ground.phase }, { on := 10, ground := Ground.phase }, { on := 11, ground := Ground.phase }, { on := 12, ground := Ground.phase }, { on := 13, ground := Ground.phase }, { on := 14, ground := Ground.phase }, { on := 15, ground := Ground.phase }, { on := 16, ground := Ground.phase }, { on := 17, ground := Ground.phase }, { on := 18, ground := Ground.phase }, { on := 19, ground := Ground.phase }], guard := none }) (v := ?v20) rfl (by kernel_rfl) (by kernel_rfl) (by kernel_rfl) (fun _ _ _ h => h) (Or.inl ⟨by rfl, ?h20⟩) (by assumption) ?r20
  case h20 =>
    intro w hSw
    try dsimp only at hSw
    go_simp
    try with_reducible rfl
  try simp only [Act.put, List.setIfInBounds_toArray, List.set_cons_zero, List.set_cons_succ]
  refine wpAnyH_done (by kernel_rfl) ?_ _
  go_wp2_with fail
  go_ret
  exact ⟨rfl, b3'.trans (hv12.mono b3'.size)⟩
end Go.Proofs.Ytnehbcopbioenaa
