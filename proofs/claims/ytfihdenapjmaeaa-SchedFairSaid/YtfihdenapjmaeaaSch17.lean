/- The examples that every law of layer 37 plays first. No condition. -/
import Derived.Test.YtfihdenapjmaeaaSch16
namespace Go.Proofs.Ytfihdenapjmaeaa
set_option linter.unusedVariables false
set_option linter.unusedSimpArgs false
open Go.RowKit
def exL : List Sc.Tk := [⟨5, 1, 0, 0, 0⟩, ⟨5, 0, 0, 0, 0⟩, ⟨3, 5, 0, 0, 0⟩]
def exM : List Sc.Tk := [⟨1, 0, 0, 1, 1⟩, ⟨1, 1, 0, 0, 2⟩, ⟨1, 0, 0, -1, 3⟩]
def exN : List Sc.Tk := [⟨1, 0, 0, -1, 3⟩]
theorem ex_run : Sc.run exL 10 [0, 0, 0, 0, 0] (List.range 3) = ([0, 0, -1, 0, 1], [2, 1, 0]) := by decide +kernel
theorem ex_next : Sc.next [0, 0, 0, 0, 0] exM (List.range 3) = ([0, 0, 0, 0, 0], 1) := by decide +kernel
theorem ex_none : Sc.next [0, 0, 0, 0, 0] exN (List.range 1) = ([0, 0, 0, 0, 0], -1) := by decide +kernel
theorem ex_urg : Sc.best exM (List.range 3) 1 Sc.urg = 1 := by decide +kernel
theorem ex_v0 : vldB [0, 0, 0, 0, 0] = true := by decide +kernel
theorem ex_v1 : vldB [0, 0, 0, 0, 1001] = false := by decide +kernel
theorem ex_vn : vldB [] = false := by decide +kernel
theorem infoS : (Try.prog.info? 26).map (fun i => (i.zero, i.size)) = some (some (.agg #[.slice none 0 0]), 1) := by kernel_rfl
theorem infoS1 : (Try.prog.info? 26).map (·.size) = some 1 := by kernel_rfl
theorem Cr5.rd {w : World} {g : Nat} {cr : List Int} (h : Cr5 w g cr) : Rd w w.heap.size 1 (some ⟨g, 0, none⟩) 5 (ivs cr) := by
  refine ⟨by simp [h.len], fun _ => ⟨g, 0, rfl, h.lt, fun j u hu => ?_⟩⟩
  have hj : j < cr.length := by have := (List.getElem?_eq_some_iff.1 hu).1; simpa using this
  rw [Nat.zero_add, h.cell j (by have := h.len; omega)]
  simp [hj] at hu
  rw [← hu]; simp [List.getD, hj]
theorem new_st {w w' : World} {v : Value} (h : w.alloc (.cells #[v] 26) = w') : w'.cell? ⟨w.heap.size, 0, none⟩ = some v ∧ w.heap.size < w'.heap.size ∧ Below w.heap.size w w' ∧ w'.heap.size = w.heap.size + 1 := by
  subst h
  refine ⟨by rw [cell_of_row _ _ _ _ _ _ (heap_alloc_new w _)]; rfl, by rw [alloc_size1]; omega, (Below.refl _ _).alloc (Nat.le_refl _) _, alloc_size1 _ _⟩
theorem new_tk {w w' : World} {us : List Sc.Tk} {ua : Array Value} {n : Nat} (h : w.alloc (.cells ua 58) = w') (hua : ua = (us.flatMap tcs).toArray) (hn : us.length = n) : Rd w' w'.heap.size 5 (some ⟨w.heap.size, 0, none⟩) n (us.flatMap tcs) ∧ Below w.heap.size w w' := by
  subst h hua hn
  exact ⟨by rw [alloc_size1]; exact Rd.new w (us.flatMap tcs) 58 us.length (flatMap_len (fun _ _ => rfl)), (Below.refl _ _).alloc (Nat.le_refl _) _⟩
theorem bcell {W W' : World} {p : Addr} {v : Value} (h : W.cell? p = some v) (hb : Below W.heap.size W W') (hp : p.block < W.heap.size) : W'.cell? p = some v := (hb.cell hp).trans h
theorem valid_v (A : Option Addr) (n c : Nat) (l : List Int) (hl : l.length = n) (B : Nat) (w : World) (hr : Rd w B 1 A n (ivs l)) (hB : B ≤ w.heap.size) (v : Bool) (hv : vldB l = v) :
    Calls Try.prog 14 #[.agg #[.slice A n c]] w fun e w' => e = .returned (.bool v) ∧ Below w.heap.size w w' := by subst hv; exact valid_any A n c l hl B w hr hB
theorem weight_v (k v : Int) (hv : Sc.wt k = v) (w : World) : Calls Try.prog 16 #[.int .i64 k] w fun e w' => e = .returned (.int .i64 v) ∧ Below w.heap.size w w' := by subst hv; exact weight_any k w
theorem Urgent_v (A : Option Addr) (n c : Nat) (L : List Sc.Tk) (hL : L.length = n) (hn : n ≤ 1000) (B : Nat) (w : World) (hr : Rd w B 5 A n (L.flatMap tcs)) (hB : B ≤ w.heap.size) (v : Int) (hv : Sc.best L (List.range n) 1 Sc.urg = v) : Calls Try.prog 18 #[.slice A n c] w fun e w' => e = .returned (.int .i64 v) ∧ Below w.heap.size w w' := by subst hv; exact Urgent_any A n c L hL hn B w hr hB
set_option maxRecDepth 100000 in
set_option maxHeartbeats 8000000 in
theorem sanity_any (w : World) : Calls Try.prog 10 #[] w fun e w' => e = .returned (.bool true) ∧ Below w.heap.size w w' := by
  go_enter Try.func10, Try.ntmps10
  go_wp2_with fail
  obtain ⟨w1, hw1⟩ : ∃ x, w.alloc (.cells #[.int .i64 5, .int .i64 1, .int .i64 0, .int .i64 0, .int .i64 0, .int .i64 5, .int .i64 0, .int .i64 0, .int .i64 0, .int .i64 0, .int .i64 3, .int .i64 5, .int .i64 0, .int .i64 0, .int .i64 0] 58) = x := ⟨_, rfl⟩
  rw [hw1]
  obtain ⟨rL, hb1⟩ := new_tk (us := exL) hw1 rfl (n := 3) rfl
  clear hw1
  obtain ⟨bL, hbL⟩ : ∃ x, w.heap.size = x := ⟨_, rfl⟩
  have HBL := Lib.hid hbL
  rw [hbL] at rL
  rw [hbL]
  clear hbL
  refine (new_any _).mono ?_
  rintro e w2 ⟨g2, rfl, C2, hg2, b2⟩
  have hb2 := hb1.trans (b2.mono hb1.size)
  have rL := rL.below b2
  go_wp2_with fail
  have hrun := Run_ok (some ⟨g2, 0, none⟩) 5 [0, 0, 0, 0, 0] rfl w2.heap.size 10 (by omega) (some ⟨bL, 0, none⟩) 3 3 exL rfl (by omega) w1.heap.size w2 rL b2.size C2.rd (Nat.le_refl _) ex_v0
  rw [ex_run] at hrun
  refine hrun.mono ?_
  rintro e w3 ⟨g3, c3, P3, np3, cp3, rfl, C3, hg3, hnp, rP, hcp, b3⟩
  obtain rfl : 3 = np3 := hnp
  have hb3 := hb2.trans (b3.mono hb2.size)
  have rL := rL.below (b3.mono b2.size)
  clear hrun C2
  go_wp2_with fail
  obtain ⟨w4, hw4⟩ : ∃ x, w3.alloc (.cells #[.slice (some ⟨g3, 0, none⟩) 5 c3] 26) = x := ⟨_, rfl⟩
  rw [hw4]
  obtain ⟨X2, z2, b4, e4⟩ := new_st hw4
  clear hw4
  obtain ⟨p2, hp2⟩ : ∃ x, w3.heap.size = x := ⟨_, rfl⟩
  rw [hp2] at X2 z2 e4
  rw [hp2]
  clear hp2
  obtain ⟨w5, hw5⟩ : ∃ x, w4.alloc (.cells #[.int .i64 1, .int .i64 0, .int .i64 0, .int .i64 1, .int .i64 1, .int .i64 1, .int .i64 1, .int .i64 0, .int .i64 0, .int .i64 2, .int .i64 1, .int .i64 0, .int .i64 0, .int .i64 (-1), .int .i64 3] 58) = x := ⟨_, rfl⟩
  rw [hw5]
  obtain ⟨rM, b5⟩ := new_tk (us := exM) hw5 rfl (n := 3) rfl
  clear hw5
  rw [e4] at rM
  have z5 := b5.size
  clear e4
  have hb5 := hb3.trans ((b4.mono hb3.size).trans (b5.mono (Nat.le_trans hb3.size b4.size)))
  refine (new_any _).mono ?_
  rintro e w6 ⟨g6, rfl, C6, hg6, b6⟩
  have rM := rM.below b6
  have hb6 := hb5.trans (b6.mono hb5.size)
  go_wp2_with fail
  have hnx := Next_ok (some ⟨g6, 0, none⟩) 5 [0, 0, 0, 0, 0] rfl w6.heap.size (some ⟨p2 + 1, 0, none⟩) 3 3 exM rfl (by omega) w5.heap.size w6 rM b6.size C6.rd (Nat.le_refl _) ex_v0
  unfold NextOk at hnx
  rw [ex_next] at hnx
  refine hnx.mono ?_
  rintro e w7 ⟨g7, c7, rfl, C7, hg7, b7⟩
  have hb7 := hb6.trans (b7.mono hb6.size)
  have rM := rM.below (b7.mono b6.size)
  clear hnx C6
  go_wp2_with fail
  obtain ⟨w8, hw8⟩ : ∃ x, w7.alloc (.cells #[.slice (some ⟨g7, 0, none⟩) 5 c7] 26) = x := ⟨_, rfl⟩
  rw [hw8]
  obtain ⟨X6, z6, b8, _⟩ := new_st hw8
  clear hw8
  obtain ⟨p6, hp6⟩ : ∃ x, w7.heap.size = x := ⟨_, rfl⟩
  rw [hp6] at X6 z6
  rw [hp6]
  clear hp6
  have hb8 := hb7.trans (b8.mono hb7.size)
  have rM := rM.below (b8.mono (Nat.le_trans b6.size b7.size))
  have q38 : Below w3.heap.size w3 w8 := b4.trans ((b5.mono b4.size).trans ((b6.mono (Nat.le_trans b4.size b5.size)).trans ((b7.mono (Nat.le_trans b4.size (Nat.le_trans b5.size b6.size))).trans (b8.mono (Nat.le_trans b4.size (Nat.le_trans b5.size (Nat.le_trans b6.size b7.size)))))))
  have X2 : w8.cell? ⟨p2, 0, none⟩ = some (.slice (some ⟨g3, 0, none⟩) 5 c3) := bcell X2 ((b5.trans ((b6.mono b5.size).trans ((b7.mono (Nat.le_trans b5.size b6.size)).trans (b8.mono (Nat.le_trans b5.size (Nat.le_trans b6.size b7.size))))))) z2
  have C3 := C3.below q38
  have C7 := C7.below b8
  have rP := rP.below q38
  have rL := rL.below (q38.mono (Nat.le_trans b2.size b3.size))
  have z2 : p2 < w8.heap.size := Nat.lt_of_lt_of_le z2 (Nat.le_trans b5.size (Nat.le_trans b6.size (Nat.le_trans b7.size b8.size)))
  have hzL : w1.heap.size ≤ w8.heap.size := Nat.le_trans b2.size (Nat.le_trans b3.size q38.size)
  have hzM : w5.heap.size ≤ w8.heap.size := Nat.le_trans b6.size (Nat.le_trans b7.size b8.size)
  have hz3 := q38.size
  clear b2 b3 b4 b5 b6 b7 b8 hb1 hb2 hb3 hb5 hb6 hb7 q38 hg2 hg3 hg6 hg7
  have HX2 := Lib.hid X2
  have HX6 := Lib.hid X6
  have HB8 := Lib.hid hb8
  clear X2 X6 hb8
  go_upto_region 5 with fail
  go_cut [10, 11] (fun u10 u11 wx => ∃ wv, wv = wx ∧ u10 = .int .i64 (-1) ∧ u11 = .int .i64 0 ∧ Below w8.heap.size w8 wv)
  case first =>
    go_wp2_with fail
    have hv0 : Below w8.heap.size w8 w8.drew := (Below.refl _ _).drew
    refine wp_region_held_drew (S := fun W => Below w8.heap.size w8 W) (by kernel_rfl) (hv0) (fun hHeld => ?_)
    refine wpAnyH_take (i := 1) (oi := { dst := some 45, op := Op.move (Operand.tmp 5), type := 30, pos := "law.go:28", after := #[], guard := none }) (v := ?v1_1) rfl (by kernel_rfl) (by kernel_rfl) (by kernel_rfl) (fun _ _ _ h => h) (Or.inl ⟨by rfl, ?h1_1⟩) (by assumption) ?r1_1
    case h1_1 =>
      intro W hSW
      try dsimp only at hSW
      go_simp
      try with_reducible rfl
    try simp only [Act.put, List.setIfInBounds_toArray, List.set_cons_zero, List.set_cons_succ]
    refine wpAnyH_take (i := 2) (oi := { dst := some 46, op := Op.slice 30 (Operand.tmp 45) (some (Operand.const (Value.int IntKind.i64 2))) none none, type := 30, pos := "law.go:28", after := #[{ on := 1, ground := Ground.data }], guard := none }) (v := ?v2_2) rfl (by kernel_rfl) (by kernel_rfl) (by kernel_rfl) (fun _ _ _ h => h) (Or.inl ⟨by rfl, ?h2_2⟩) (by assumption) ?r2_2
    case h2_2 =>
      intro W hSW
      try dsimp only at hSW
      go_simp
      try with_reducible rfl
    try simp only [Act.put, List.setIfInBounds_toArray, List.set_cons_zero, List.set_cons_succ]
    refine wpAnyH_ready (rs := [0, 8]) (by kernel_rfl) (by simp) ?_
    refine AllReadyH.cons (o := { dst := some 44, op := Op.call { callee := Callee.value (Operand.func 23), args := #[], argTypes := #[] }, type := 26, pos := "law.go:28", after := #[], guard := none }) rfl (fun K hK => ?_) ?_
    · skip
      go_simp
      refine (new_any _).mono ?_
      rintro e w20 ⟨gX, rfl, CX, hgX, b20⟩
      have hv20 : Below w8.heap.size w8 w20 := hv0.trans (b20.mono hv0.size)
      try (have r9 := r9.below' b20)
      go_wp2_with fail
      refine hK.out _ _ (hv20) (fun hHeld => ?_)
      clear hK K
      try simp only [Act.put, List.setIfInBounds_toArray, List.set_cons_zero, List.set_cons_succ]
      refine wpAnyH_ready (rs := [3, 8]) (by kernel_rfl) (by simp) ?_
      refine AllReadyH.cons (o := { dst := some 47, op := Op.call { callee := Callee.value (Operand.func 11), args := #[Operand.tmp 44, Operand.tmp 46], argTypes := #[26, 30] }, type := 28, pos := "law.go:28", after := #[{ on := 0, ground := Ground.data }, { on := 2, ground := Ground.data }, { on := 0, ground := Ground.chain }], guard := none }) rfl (fun K hK => ?_) ?_
      · skip
        go_simp
        have hnx := Next_ok (some ⟨gX, 0, none⟩) 5 [0, 0, 0, 0, 0] rfl w20.heap.size (some ⟨p2 + 1, 10, none⟩) 1 1 exN rfl (by omega) w5.heap.size w20 ((rM.cut (k := 2) (cap := 3) (by omega) (by omega)).below (hv20.mono hzM)) (Nat.le_trans hzM hv20.size) CX.rd (Nat.le_refl _) ex_v0
        unfold NextOk at hnx
        rw [ex_none] at hnx
        refine hnx.mono ?_
        rintro e w21 ⟨gY, cY, rfl, CY, hgY, b21⟩
        have hv21 : Below w8.heap.size w8 w21 := hv20.trans (b21.mono hv20.size)
        try (have r9 := r9.below' b21)
        clear hnx CY hgY
        go_wp2_with fail
        refine hK.out _ _ (hv21) (fun hHeld => ?_)
        clear hK K
        try simp only [Act.put, List.setIfInBounds_toArray, List.set_cons_zero, List.set_cons_succ]
        refine wpAnyH_take (i := 4) (oi := { dst := some 43, op := Op.move (Operand.tmp 47), type := 28, pos := "law.go:28", after := #[{ on := 3, ground := Ground.data }], guard := none }) (v := ?v4_3) rfl (by kernel_rfl) (by kernel_rfl) (by kernel_rfl) (fun _ _ _ h => h) (Or.inl ⟨by rfl, ?h4_3⟩) (by assumption) ?r4_3
        case h4_3 =>
          intro W hSW
          try dsimp only at hSW
          go_simp
          try with_reducible rfl
        try simp only [Act.put, List.setIfInBounds_toArray, List.set_cons_zero, List.set_cons_succ]
        refine wpAnyH_take (i := 5) (oi := { dst := some 48, op := Op.extract (Operand.tmp 43) 0, type := 26, pos := "law.go:28", after := #[{ on := 4, ground := Ground.data }], guard := none }) (v := ?v5_4) rfl (by kernel_rfl) (by kernel_rfl) (by kernel_rfl) (fun _ _ _ h => h) (Or.inl ⟨by rfl, ?h5_4⟩) (by assumption) ?r5_4
        case h5_4 =>
          intro W hSW
          try dsimp only at hSW
          go_simp
          try with_reducible rfl
        try simp only [Act.put, List.setIfInBounds_toArray, List.set_cons_zero, List.set_cons_succ]
        refine wpAnyH_take (i := 6) (oi := { dst := some 49, op := Op.extract (Operand.tmp 43) 1, type := 3, pos := "law.go:28", after := #[{ on := 4, ground := Ground.data }, { on := 9, ground := Ground.gcOnly Departure.lateStores }], guard := none }) (v := ?v6_5) rfl (by kernel_rfl) (by kernel_rfl) (by kernel_rfl) (fun _ _ _ h => h) (Or.inl ⟨by rfl, ?h6_5⟩) (by assumption) ?r6_5
        case h6_5 =>
          intro W hSW
          try dsimp only at hSW
          go_simp
          try with_reducible rfl
        try simp only [Act.put, List.setIfInBounds_toArray, List.set_cons_zero, List.set_cons_succ]
        refine wpAnyH_take (i := 7) (oi := { dst := some 50, op := Op.extract (Operand.tmp 43) 2, type := 27, pos := "law.go:28", after := #[{ on := 4, ground := Ground.data }, { on := 10, ground := Ground.gcOnly Departure.lateStores }], guard := none }) (v := ?v7_6) rfl (by kernel_rfl) (by kernel_rfl) (by kernel_rfl) (fun _ _ _ h => h) (Or.inl ⟨by rfl, ?h7_6⟩) (by assumption) ?r7_6
        case h7_6 =>
          intro W hSW
          try dsimp only at hSW
          go_simp
          try with_reducible rfl
        try simp only [Act.put, List.setIfInBounds_toArray, List.set_cons_zero, List.set_cons_succ]
        refine wpAnyH_ready (rs := [8]) (by kernel_rfl) (by simp) ?_
        refine AllReadyH.cons (o := { dst := some 9, op := Op.alloc 26, type := 0, pos := "law.go:28", after := #[], guard := none }) rfl (fun K hK => ?_) AllReadyH.nil
        rw [if_pos (by rfl)]
        refine wp_allocRow 26 rfl [.slice none 0 0] infoS ?_
        intro w22 r9 b22 z22
        have hv22 : Below w8.heap.size w8 w22 := hv21.trans (b22.mono hv21.size)
        try (have CX := CX.below b22)
        have l9 : w8.heap.size ≤ w21.heap.size := hv21.size
        obtain ⟨p9, hp9⟩ : ∃ p, w21.heap.size = p := ⟨_, rfl⟩
        rw [hp9] at r9 l9
        rw [hp9]
        clear hp9 z22
        refine hK.out _ _ (hv22) (fun hHeld => ?_)
        clear hK K
        try simp only [Act.put, List.setIfInBounds_toArray, List.set_cons_zero, List.set_cons_succ]
        refine wpAnyH_ready (rs := [9]) (by kernel_rfl) (by simp) ?_
        refine AllReadyH.cons (o := { dst := none, op := Op.store 26 (Operand.tmp 9) (Operand.tmp 48), type := 0, pos := "law.go:28", after := #[{ on := 8, ground := Ground.data }, { on := 5, ground := Ground.data }, { on := 3, ground := Ground.chain }, { on := 0, ground := Ground.phase }, { on := 1, ground := Ground.phase }, { on := 2, ground := Ground.phase }, { on := 3, ground := Ground.phase }, { on := 4, ground := Ground.phase }, { on := 5, ground := Ground.phase }, { on := 6, ground := Ground.textOnly Departure.lateStores }, { on := 7, ground := Ground.textOnly Departure.lateStores }, { on := 8, ground := Ground.phase }], guard := none }) rfl (fun K hK => ?_) AllReadyH.nil
        rw [if_pos (by rfl)]
        refine wp_storeRow 26 (.tmp 9) (.tmp 48) rfl r9 rfl (l' := [.slice (some ⟨gY, 0, none⟩) 5 cY]) rfl infoS1 rfl rfl ?_
        intro w23 s9 g23 z23
        have hv23 : Below w8.heap.size w8 w23 := hv22.grown g23 hv22.size (fun k hk => by have := Option.some.inj hk; omega)
        clear z23
        refine hK.out _ _ (hv23) (fun hHeld => ?_)
        clear hK K
        try simp only [Act.put, List.setIfInBounds_toArray, List.set_cons_zero, List.set_cons_succ]
        refine wpAnyH_take (i := 10) (oi := { dst := some 10, op := Op.assign (Operand.tmp 49), type := 3, pos := "law.go:28", after := #[{ on := 6, ground := Ground.data }, { on := 9, ground := Ground.chain }, { on := 0, ground := Ground.phase }, { on := 1, ground := Ground.phase }, { on := 2, ground := Ground.phase }, { on := 3, ground := Ground.phase }, { on := 4, ground := Ground.phase }, { on := 5, ground := Ground.phase }, { on := 6, ground := Ground.phase }, { on := 7, ground := Ground.textOnly Departure.lateStores }, { on := 8, ground := Ground.phase }, { on := 9, ground := Ground.phase }], guard := none }) (v := ?v10_7) rfl (by kernel_rfl) (by kernel_rfl) (by kernel_rfl) (fun _ _ _ h => h) (Or.inl ⟨by rfl, ?h10_7⟩) (by assumption) ?r10_7
        case h10_7 =>
          intro W hSW
          try dsimp only at hSW
          go_simp
          try with_reducible rfl
        try simp only [Act.put, List.setIfInBounds_toArray, List.set_cons_zero, List.set_cons_succ]
        refine wpAnyH_take (i := 11) (oi := { dst := some 11, op := Op.assign (Operand.tmp 50), type := 27, pos := "law.go:28", after := #[{ on := 7, ground := Ground.data }, { on := 10, ground := Ground.chain }, { on := 0, ground := Ground.phase }, { on := 1, ground := Ground.phase }, { on := 2, ground := Ground.phase }, { on := 3, ground := Ground.phase }, { on := 4, ground := Ground.phase }, { on := 5, ground := Ground.phase }, { on := 6, ground := Ground.phase }, { on := 7, ground := Ground.phase }, { on := 8, ground := Ground.phase }, { on := 9, ground := Ground.phase }, { on := 10, ground := Ground.phase }], guard := none }) (v := ?v11_8) rfl (by kernel_rfl) (by kernel_rfl) (by kernel_rfl) (fun _ _ _ h => h) (Or.inl ⟨by rfl, ?h11_8⟩) (by assumption) ?r11_8
        case h11_8 =>
          intro W hSW
          try dsimp only at hSW
          go_simp
          try with_reducible rfl
        try simp only [Act.put, List.setIfInBounds_toArray, List.set_cons_zero, List.set_cons_succ]
        refine wpAnyH_done (by kernel_rfl) ?_ _
        go_wp2_with fail
        go_meet
        exact ⟨_, rfl, rfl, rfl, hv23⟩
      · skip
        refine AllReadyH.cons (o := { dst := some 9, op := Op.alloc 26, type := 0, pos := "law.go:28", after := #[], guard := none }) rfl (fun K hK => ?_) AllReadyH.nil
        rw [if_pos (by rfl)]
        refine wp_allocRow 26 rfl [.slice none 0 0] infoS ?_
        intro w21 r9 b21 z21
        have hv21 : Below w8.heap.size w8 w21 := hv20.trans (b21.mono hv20.size)
        try (have CX := CX.below b21)
        have l9 : w8.heap.size ≤ w20.heap.size := hv20.size
        obtain ⟨p9, hp9⟩ : ∃ p, w20.heap.size = p := ⟨_, rfl⟩
        rw [hp9] at r9 l9
        rw [hp9]
        clear hp9 z21
        refine hK.out _ _ (hv21) (fun hHeld => ?_)
        clear hK K
        try simp only [Act.put, List.setIfInBounds_toArray, List.set_cons_zero, List.set_cons_succ]
        refine wpAnyH_ready (rs := [3]) (by kernel_rfl) (by simp) ?_
        refine AllReadyH.cons (o := { dst := some 47, op := Op.call { callee := Callee.value (Operand.func 11), args := #[Operand.tmp 44, Operand.tmp 46], argTypes := #[26, 30] }, type := 28, pos := "law.go:28", after := #[{ on := 0, ground := Ground.data }, { on := 2, ground := Ground.data }, { on := 0, ground := Ground.chain }], guard := none }) rfl (fun K hK => ?_) AllReadyH.nil
        go_simp
        have hnx := Next_ok (some ⟨gX, 0, none⟩) 5 [0, 0, 0, 0, 0] rfl w21.heap.size (some ⟨p2 + 1, 10, none⟩) 1 1 exN rfl (by omega) w5.heap.size w21 ((rM.cut (k := 2) (cap := 3) (by omega) (by omega)).below (hv21.mono hzM)) (Nat.le_trans hzM hv21.size) CX.rd (Nat.le_refl _) ex_v0
        unfold NextOk at hnx
        rw [ex_none] at hnx
        refine hnx.mono ?_
        rintro e w22 ⟨gY, cY, rfl, CY, hgY, b22⟩
        have hv22 : Below w8.heap.size w8 w22 := hv21.trans (b22.mono hv21.size)
        try (have r9 := r9.below' b22)
        clear hnx CY hgY
        go_wp2_with fail
        refine hK.out _ _ (hv22) (fun hHeld => ?_)
        clear hK K
        try simp only [Act.put, List.setIfInBounds_toArray, List.set_cons_zero, List.set_cons_succ]
        refine wpAnyH_take (i := 4) (oi := { dst := some 43, op := Op.move (Operand.tmp 47), type := 28, pos := "law.go:28", after := #[{ on := 3, ground := Ground.data }], guard := none }) (v := ?v4_9) rfl (by kernel_rfl) (by kernel_rfl) (by kernel_rfl) (fun _ _ _ h => h) (Or.inl ⟨by rfl, ?h4_9⟩) (by assumption) ?r4_9
        case h4_9 =>
          intro W hSW
          try dsimp only at hSW
          go_simp
          try with_reducible rfl
        try simp only [Act.put, List.setIfInBounds_toArray, List.set_cons_zero, List.set_cons_succ]
        refine wpAnyH_take (i := 5) (oi := { dst := some 48, op := Op.extract (Operand.tmp 43) 0, type := 26, pos := "law.go:28", after := #[{ on := 4, ground := Ground.data }], guard := none }) (v := ?v5_10) rfl (by kernel_rfl) (by kernel_rfl) (by kernel_rfl) (fun _ _ _ h => h) (Or.inl ⟨by rfl, ?h5_10⟩) (by assumption) ?r5_10
        case h5_10 =>
          intro W hSW
          try dsimp only at hSW
          go_simp
          try with_reducible rfl
        try simp only [Act.put, List.setIfInBounds_toArray, List.set_cons_zero, List.set_cons_succ]
        refine wpAnyH_take (i := 6) (oi := { dst := some 49, op := Op.extract (Operand.tmp 43) 1, type := 3, pos := "law.go:28", after := #[{ on := 4, ground := Ground.data }, { on := 9, ground := Ground.gcOnly Departure.lateStores }], guard := none }) (v := ?v6_11) rfl (by kernel_rfl) (by kernel_rfl) (by kernel_rfl) (fun _ _ _ h => h) (Or.inl ⟨by rfl, ?h6_11⟩) (by assumption) ?r6_11
        case h6_11 =>
          intro W hSW
          try dsimp only at hSW
          go_simp
          try with_reducible rfl
        try simp only [Act.put, List.setIfInBounds_toArray, List.set_cons_zero, List.set_cons_succ]
        refine wpAnyH_take (i := 7) (oi := { dst := some 50, op := Op.extract (Operand.tmp 43) 2, type := 27, pos := "law.go:28", after := #[{ on := 4, ground := Ground.data }, { on := 10, ground := Ground.gcOnly Departure.lateStores }], guard := none }) (v := ?v7_12) rfl (by kernel_rfl) (by kernel_rfl) (by kernel_rfl) (fun _ _ _ h => h) (Or.inl ⟨by rfl, ?h7_12⟩) (by assumption) ?r7_12
        case h7_12 =>
          intro W hSW
          try dsimp only at hSW
          go_simp
          try with_reducible rfl
        try simp only [Act.put, List.setIfInBounds_toArray, List.set_cons_zero, List.set_cons_succ]
        refine wpAnyH_ready (rs := [9]) (by kernel_rfl) (by simp) ?_
        refine AllReadyH.cons (o := { dst := none, op := Op.store 26 (Operand.tmp 9) (Operand.tmp 48), type := 0, pos := "law.go:28", after := #[{ on := 8, ground := Ground.data }, { on := 5, ground := Ground.data }, { on := 3, ground := Ground.chain }, { on := 0, ground := Ground.phase }, { on := 1, ground := Ground.phase }, { on := 2, ground := Ground.phase }, { on := 3, ground := Ground.phase }, { on := 4, ground := Ground.phase }, { on := 5, ground := Ground.phase }, { on := 6, ground := Ground.textOnly Departure.lateStores }, { on := 7, ground := Ground.textOnly Departure.lateStores }, { on := 8, ground := Ground.phase }], guard := none }) rfl (fun K hK => ?_) AllReadyH.nil
        rw [if_pos (by rfl)]
        refine wp_storeRow 26 (.tmp 9) (.tmp 48) rfl r9 rfl (l' := [.slice (some ⟨gY, 0, none⟩) 5 cY]) rfl infoS1 rfl rfl ?_
        intro w23 s9 g23 z23
        have hv23 : Below w8.heap.size w8 w23 := hv22.grown g23 hv22.size (fun k hk => by have := Option.some.inj hk; omega)
        clear z23
        refine hK.out _ _ (hv23) (fun hHeld => ?_)
        clear hK K
        try simp only [Act.put, List.setIfInBounds_toArray, List.set_cons_zero, List.set_cons_succ]
        refine wpAnyH_take (i := 10) (oi := { dst := some 10, op := Op.assign (Operand.tmp 49), type := 3, pos := "law.go:28", after := #[{ on := 6, ground := Ground.data }, { on := 9, ground := Ground.chain }, { on := 0, ground := Ground.phase }, { on := 1, ground := Ground.phase }, { on := 2, ground := Ground.phase }, { on := 3, ground := Ground.phase }, { on := 4, ground := Ground.phase }, { on := 5, ground := Ground.phase }, { on := 6, ground := Ground.phase }, { on := 7, ground := Ground.textOnly Departure.lateStores }, { on := 8, ground := Ground.phase }, { on := 9, ground := Ground.phase }], guard := none }) (v := ?v10_13) rfl (by kernel_rfl) (by kernel_rfl) (by kernel_rfl) (fun _ _ _ h => h) (Or.inl ⟨by rfl, ?h10_13⟩) (by assumption) ?r10_13
        case h10_13 =>
          intro W hSW
          try dsimp only at hSW
          go_simp
          try with_reducible rfl
        try simp only [Act.put, List.setIfInBounds_toArray, List.set_cons_zero, List.set_cons_succ]
        refine wpAnyH_take (i := 11) (oi := { dst := some 11, op := Op.assign (Operand.tmp 50), type := 27, pos := "law.go:28", after := #[{ on := 7, ground := Ground.data }, { on := 10, ground := Ground.chain }, { on := 0, ground := Ground.phase }, { on := 1, ground := Ground.phase }, { on := 2, ground := Ground.phase }, { on := 3, ground := Ground.phase }, { on := 4, ground := Ground.phase }, { on := 5, ground := Ground.phase }, { on := 6, ground := Ground.phase }, { on := 7, ground := Ground.phase }, { on := 8, ground := Ground.phase }, { on := 9, ground := Ground.phase }, { on := 10, ground := Ground.phase }], guard := none }) (v := ?v11_14) rfl (by kernel_rfl) (by kernel_rfl) (by kernel_rfl) (fun _ _ _ h => h) (Or.inl ⟨by rfl, ?h11_14⟩) (by assumption) ?r11_14
        case h11_14 =>
          intro W hSW
          try dsimp only at hSW
          go_simp
          try with_reducible rfl
        try simp only [Act.put, List.setIfInBounds_toArray, List.set_cons_zero, List.set_cons_succ]
        refine wpAnyH_done (by kernel_rfl) ?_ _
        go_wp2_with fail
        go_meet
        exact ⟨_, rfl, rfl, rfl, hv23⟩
    · skip
      refine AllReadyH.cons (o := { dst := some 9, op := Op.alloc 26, type := 0, pos := "law.go:28", after := #[], guard := none }) rfl (fun K hK => ?_) AllReadyH.nil
      rw [if_pos (by rfl)]
      refine wp_allocRow 26 rfl [.slice none 0 0] infoS ?_
      intro w20 r9 b20 z20
      have hv20 : Below w8.heap.size w8 w20 := hv0.trans (b20.mono hv0.size)
      try (have CX := CX.below b20)
      have l9 : w8.heap.size ≤ w8.drew.heap.size := hv0.size
      obtain ⟨p9, hp9⟩ : ∃ p, w8.drew.heap.size = p := ⟨_, rfl⟩
      rw [hp9] at r9 l9
      rw [hp9]
      clear hp9 z20
      refine hK.out _ _ (hv20) (fun hHeld => ?_)
      clear hK K
      try simp only [Act.put, List.setIfInBounds_toArray, List.set_cons_zero, List.set_cons_succ]
      refine wpAnyH_ready (rs := [0]) (by kernel_rfl) (by simp) ?_
      refine AllReadyH.cons (o := { dst := some 44, op := Op.call { callee := Callee.value (Operand.func 23), args := #[], argTypes := #[] }, type := 26, pos := "law.go:28", after := #[], guard := none }) rfl (fun K hK => ?_) AllReadyH.nil
      go_simp
      refine (new_any _).mono ?_
      rintro e w21 ⟨gX, rfl, CX, hgX, b21⟩
      have hv21 : Below w8.heap.size w8 w21 := hv20.trans (b21.mono hv20.size)
      try (have r9 := r9.below' b21)
      go_wp2_with fail
      refine hK.out _ _ (hv21) (fun hHeld => ?_)
      clear hK K
      try simp only [Act.put, List.setIfInBounds_toArray, List.set_cons_zero, List.set_cons_succ]
      refine wpAnyH_ready (rs := [3]) (by kernel_rfl) (by simp) ?_
      refine AllReadyH.cons (o := { dst := some 47, op := Op.call { callee := Callee.value (Operand.func 11), args := #[Operand.tmp 44, Operand.tmp 46], argTypes := #[26, 30] }, type := 28, pos := "law.go:28", after := #[{ on := 0, ground := Ground.data }, { on := 2, ground := Ground.data }, { on := 0, ground := Ground.chain }], guard := none }) rfl (fun K hK => ?_) AllReadyH.nil
      go_simp
      have hnx := Next_ok (some ⟨gX, 0, none⟩) 5 [0, 0, 0, 0, 0] rfl w21.heap.size (some ⟨p2 + 1, 10, none⟩) 1 1 exN rfl (by omega) w5.heap.size w21 ((rM.cut (k := 2) (cap := 3) (by omega) (by omega)).below (hv21.mono hzM)) (Nat.le_trans hzM hv21.size) CX.rd (Nat.le_refl _) ex_v0
      unfold NextOk at hnx
      rw [ex_none] at hnx
      refine hnx.mono ?_
      rintro e w22 ⟨gY, cY, rfl, CY, hgY, b22⟩
      have hv22 : Below w8.heap.size w8 w22 := hv21.trans (b22.mono hv21.size)
      try (have r9 := r9.below' b22)
      clear hnx CY hgY
      go_wp2_with fail
      refine hK.out _ _ (hv22) (fun hHeld => ?_)
      clear hK K
      try simp only [Act.put, List.setIfInBounds_toArray, List.set_cons_zero, List.set_cons_succ]
      refine wpAnyH_take (i := 4) (oi := { dst := some 43, op := Op.move (Operand.tmp 47), type := 28, pos := "law.go:28", after := #[{ on := 3, ground := Ground.data }], guard := none }) (v := ?v4_15) rfl (by kernel_rfl) (by kernel_rfl) (by kernel_rfl) (fun _ _ _ h => h) (Or.inl ⟨by rfl, ?h4_15⟩) (by assumption) ?r4_15
      case h4_15 =>
        intro W hSW
        try dsimp only at hSW
        go_simp
        try with_reducible rfl
      try simp only [Act.put, List.setIfInBounds_toArray, List.set_cons_zero, List.set_cons_succ]
      refine wpAnyH_take (i := 5) (oi := { dst := some 48, op := Op.extract (Operand.tmp 43) 0, type := 26, pos := "law.go:28", after := #[{ on := 4, ground := Ground.data }], guard := none }) (v := ?v5_16) rfl (by kernel_rfl) (by kernel_rfl) (by kernel_rfl) (fun _ _ _ h => h) (Or.inl ⟨by rfl, ?h5_16⟩) (by assumption) ?r5_16
      case h5_16 =>
        intro W hSW
        try dsimp only at hSW
        go_simp
        try with_reducible rfl
      try simp only [Act.put, List.setIfInBounds_toArray, List.set_cons_zero, List.set_cons_succ]
      refine wpAnyH_take (i := 6) (oi := { dst := some 49, op := Op.extract (Operand.tmp 43) 1, type := 3, pos := "law.go:28", after := #[{ on := 4, ground := Ground.data }, { on := 9, ground := Ground.gcOnly Departure.lateStores }], guard := none }) (v := ?v6_17) rfl (by kernel_rfl) (by kernel_rfl) (by kernel_rfl) (fun _ _ _ h => h) (Or.inl ⟨by rfl, ?h6_17⟩) (by assumption) ?r6_17
      case h6_17 =>
        intro W hSW
        try dsimp only at hSW
        go_simp
        try with_reducible rfl
      try simp only [Act.put, List.setIfInBounds_toArray, List.set_cons_zero, List.set_cons_succ]
      refine wpAnyH_take (i := 7) (oi := { dst := some 50, op := Op.extract (Operand.tmp 43) 2, type := 27, pos := "law.go:28", after := #[{ on := 4, ground := Ground.data }, { on := 10, ground := Ground.gcOnly Departure.lateStores }], guard := none }) (v := ?v7_18) rfl (by kernel_rfl) (by kernel_rfl) (by kernel_rfl) (fun _ _ _ h => h) (Or.inl ⟨by rfl, ?h7_18⟩) (by assumption) ?r7_18
      case h7_18 =>
        intro W hSW
        try dsimp only at hSW
        go_simp
        try with_reducible rfl
      try simp only [Act.put, List.setIfInBounds_toArray, List.set_cons_zero, List.set_cons_succ]
      refine wpAnyH_ready (rs := [9]) (by kernel_rfl) (by simp) ?_
      refine AllReadyH.cons (o := { dst := none, op := Op.store 26 (Operand.tmp 9) (Operand.tmp 48), type := 0, pos := "law.go:28", after := #[{ on := 8, ground := Ground.data }, { on := 5, ground := Ground.data }, { on := 3, ground := Ground.chain }, { on := 0, ground := Ground.phase }, { on := 1, ground := Ground.phase }, { on := 2, ground := Ground.phase }, { on := 3, ground := Ground.phase }, { on := 4, ground := Ground.phase }, { on := 5, ground := Ground.phase }, { on := 6, ground := Ground.textOnly Departure.lateStores }, { on := 7, ground := Ground.textOnly Departure.lateStores }, { on := 8, ground := Ground.phase }], guard := none }) rfl (fun K hK => ?_) AllReadyH.nil
      rw [if_pos (by rfl)]
      refine wp_storeRow 26 (.tmp 9) (.tmp 48) rfl r9 rfl (l' := [.slice (some ⟨gY, 0, none⟩) 5 cY]) rfl infoS1 rfl rfl ?_
      intro w23 s9 g23 z23
      have hv23 : Below w8.heap.size w8 w23 := hv22.grown g23 hv22.size (fun k hk => by have := Option.some.inj hk; omega)
      clear z23
      refine hK.out _ _ (hv23) (fun hHeld => ?_)
      clear hK K
      try simp only [Act.put, List.setIfInBounds_toArray, List.set_cons_zero, List.set_cons_succ]
      refine wpAnyH_take (i := 10) (oi := { dst := some 10, op := Op.assign (Operand.tmp 49), type := 3, pos := "law.go:28", after := #[{ on := 6, ground := Ground.data }, { on := 9, ground := Ground.chain }, { on := 0, ground := Ground.phase }, { on := 1, ground := Ground.phase }, { on := 2, ground := Ground.phase }, { on := 3, ground := Ground.phase }, { on := 4, ground := Ground.phase }, { on := 5, ground := Ground.phase }, { on := 6, ground := Ground.phase }, { on := 7, ground := Ground.textOnly Departure.lateStores }, { on := 8, ground := Ground.phase }, { on := 9, ground := Ground.phase }], guard := none }) (v := ?v10_19) rfl (by kernel_rfl) (by kernel_rfl) (by kernel_rfl) (fun _ _ _ h => h) (Or.inl ⟨by rfl, ?h10_19⟩) (by assumption) ?r10_19
      case h10_19 =>
        intro W hSW
        try dsimp only at hSW
        go_simp
        try with_reducible rfl
      try simp only [Act.put, List.setIfInBounds_toArray, List.set_cons_zero, List.set_cons_succ]
      refine wpAnyH_take (i := 11) (oi := { dst := some 11, op := Op.assign (Operand.tmp 50), type := 27, pos := "law.go:28", after := #[{ on := 7, ground := Ground.data }, { on := 10, ground := Ground.chain }, { on := 0, ground := Ground.phase }, { on := 1, ground := Ground.phase }, { on := 2, ground := Ground.phase }, { on := 3, ground := Ground.phase }, { on := 4, ground := Ground.phase }, { on := 5, ground := Ground.phase }, { on := 6, ground := Ground.phase }, { on := 7, ground := Ground.phase }, { on := 8, ground := Ground.phase }, { on := 9, ground := Ground.phase }, { on := 10, ground := Ground.phase }], guard := none }) (v := ?v11_20) rfl (by kernel_rfl) (by kernel_rfl) (by kernel_rfl) (fun _ _ _ h => h) (Or.inl ⟨by rfl, ?h11_20⟩) (by assumption) ?r11_20
      case h11_20 =>
        intro W hSW
        try dsimp only at hSW
        go_simp
        try with_reducible rfl
      try simp only [Act.put, List.setIfInBounds_toArray, List.set_cons_zero, List.set_cons_succ]
      refine wpAnyH_done (by kernel_rfl) ?_ _
      go_wp2_with fail
      go_meet
      exact ⟨_, rfl, rfl, rfl, hv23⟩
  case rest =>
    obtain ⟨w9, rfl, rfl, rfl, b9⟩ := hcut
    have X2 := bcell HX2.out b9 z2
    have X6 := bcell HX6.out b9 z6
    have C3 := C3.below b9
    have C7 := C7.below b9
    have rP := (rP.below (b9.mono hz3)).more (Nat.le_trans hz3 b9.size)
    have rM := (rM.below (b9.mono hzM)).more (Nat.le_trans hzM b9.size)
    have z2 := Nat.lt_of_lt_of_le z2 b9.size
    have z6 := Nat.lt_of_lt_of_le z6 b9.size
    have hb := HB8.out.trans (b9.mono HB8.out.size)
    clear rL b9
    have hmk : ∀ W : World, (Instr.makeSlice 22 (.int .i64 5) (.int .i64 5)).run Try.prog W = .ok (.slice (some ⟨W.heap.size, 0, none⟩) 5 5) (W.alloc (.cells #[.int .i64 0, .int .i64 0, .int .i64 0, .int .i64 0, .int .i64 0] 3)) := fun W => by kernel_rfl
    go_wp2_with fail
    refine (Next_bad none 0 0 [] rfl 0 _ _ (Rd.nil_ _ _ _ _) (Nat.zero_le _) ex_vn).mono ?_
    rintro e w10 ⟨rfl, b10⟩
    have X2 := bcell X2 b10 z2
    have z2 := Nat.lt_of_lt_of_le z2 b10.size
    have X6 := bcell X6 b10 z6
    have z6 := Nat.lt_of_lt_of_le z6 b10.size
    have C3 := C3.below b10
    have C7 := C7.below b10
    have rP := (rP.below b10).more b10.size
    have rM := (rM.below b10).more b10.size
    have hb := hb.trans (b10.mono hb.size)
    go_wp2_with fail
    obtain ⟨w11, hw11⟩ : ∃ x, w10.alloc (.cells #[.slice none 0 0] 26) = x := ⟨_, rfl⟩
    rw [hw11]
    have b11 : Below w10.heap.size w10 w11 := by rw [← hw11]; exact (Below.refl _ _).alloc (Nat.le_refl _) _
    clear hw11
    have X2 := bcell X2 b11 z2
    have z2 := Nat.lt_of_lt_of_le z2 b11.size
    have X6 := bcell X6 b11 z6
    have z6 := Nat.lt_of_lt_of_le z6 b11.size
    have C3 := C3.below b11
    have C7 := C7.below b11
    have rP := (rP.below b11).more b11.size
    have rM := (rM.below b11).more b11.size
    have hb := hb.trans (b11.mono hb.size)
    refine (new_any _).mono ?_
    rintro e w12 ⟨gA, rfl, CA, _, b12⟩
    have X2 := bcell X2 b12 z2
    have z2 := Nat.lt_of_lt_of_le z2 b12.size
    have X6 := bcell X6 b12 z6
    have z6 := Nat.lt_of_lt_of_le z6 b12.size
    have C3 := C3.below b12
    have C7 := C7.below b12
    have rP := (rP.below b12).more b12.size
    have rM := (rM.below b12).more b12.size
    have hb := hb.trans (b12.mono hb.size)
    go_wp2_with fail
    refine (Run_bad (some ⟨gA, 0, none⟩) 5 5 [0, 0, 0, 0, 0] rfl w12.heap.size _ (-1) w12 CA.rd (Nat.le_refl _) (Or.inr (by omega))).mono ?_
    rintro e w13 ⟨rfl, b13⟩
    have X2 := bcell X2 b13 z2
    have z2 := Nat.lt_of_lt_of_le z2 b13.size
    have X6 := bcell X6 b13 z6
    have z6 := Nat.lt_of_lt_of_le z6 b13.size
    have C3 := C3.below b13
    have C7 := C7.below b13
    have rP := (rP.below b13).more b13.size
    have rM := (rM.below b13).more b13.size
    have hb := hb.trans (b13.mono hb.size)
    go_wp2_with fail
    obtain ⟨w14, hw14⟩ : ∃ x, w13.alloc (.cells #[.slice none 0 0] 26) = x := ⟨_, rfl⟩
    rw [hw14]
    have b14 : Below w13.heap.size w13 w14 := by rw [← hw14]; exact (Below.refl _ _).alloc (Nat.le_refl _) _
    clear hw14
    have X2 := bcell X2 b14 z2
    have z2 := Nat.lt_of_lt_of_le z2 b14.size
    have X6 := bcell X6 b14 z6
    have z6 := Nat.lt_of_lt_of_le z6 b14.size
    have C3 := C3.below b14
    have C7 := C7.below b14
    have rP := (rP.below b14).more b14.size
    have rM := (rM.below b14).more b14.size
    have hb := hb.trans (b14.mono hb.size)
    simp only [List.append]
    have rP' : Rd w14 w14.heap.size 1 P3 3 (ivs [2, 1, 0]) := rP
    have HX2 := Lib.hid X2
    have HX6 := Lib.hid X6
    clear X2 X6 rP
    have hv0 : Below w14.heap.size w14 w14.drew := (Below.refl _ _).drew
    refine wp_region_held_drew (S := fun W => Below w14.heap.size w14 W) (by kernel_rfl) (hv0) (fun hHeld => ?_)
    refine wpAnyH_take (i := 0) (oi := { dst := some 65, op := Op.move (Operand.tmp 3), type := 22, pos := "law.go:31", after := #[], guard := none }) (v := ?v0_5001) rfl (by kernel_rfl) (by kernel_rfl) (by kernel_rfl) (fun _ _ _ h => h) (Or.inl ⟨by rfl, ?h0_5001⟩) (by assumption) ?r0_5001
    case h0_5001 =>
      intro W hSW
      try dsimp only at hSW
      go_simp
      try with_reducible rfl
    try simp only [Act.put, List.setIfInBounds_toArray, List.set_cons_zero, List.set_cons_succ]
    refine wpAnyH_ready (rs := [1]) (by kernel_rfl) (by simp) ?_
    refine AllReadyH.cons (o := { dst := some 66, op := Op.buildSlice 22 3 #[(0, Operand.const (Value.int IntKind.i64 2)), (1, Operand.const (Value.int IntKind.i64 1)), (2, Operand.const (Value.int IntKind.i64 0))], type := 22, pos := "law.go:31", after := #[], guard := none }) rfl (fun K hK => ?_) AllReadyH.nil
    go_simp
    obtain ⟨w30, hw30⟩ : ∃ w', (w14.alloc (.cells #[.int .i64 2, .int .i64 1, .int .i64 0] 3)).drew = w' := ⟨_, rfl⟩
    rw [hw30]
    have rN1 : Rd w30 w30.heap.size 1 (some ⟨w14.heap.size, 0, none⟩) 3 (ivs [2, 1, 0]) := by rw [← hw30]; exact (Rd.new w14 (ivs [2, 1, 0]) 3 3 (size := 1) rfl).drew.more (by rw [← alloc_size1 w14 (.cells (ivs [2, 1, 0]).toArray 3)]; exact Nat.le_refl _)
    have hv30 : Below w14.heap.size w14 w30 := by rw [← hw30]; exact ((Below.refl _ _).alloc (Nat.le_refl _) _).drew
    clear hw30
    refine hK.out _ _ (hv30) (fun hHeld => ?_)
    clear hK K
    try simp only [Act.put, List.setIfInBounds_toArray, List.set_cons_zero, List.set_cons_succ]
    refine wpAnyH_ready (rs := [2]) (by kernel_rfl) (by simp) ?_
    refine AllReadyH.cons (o := { dst := some 67, op := Op.call { callee := Callee.value (Operand.func 20), args := #[Operand.tmp 65, Operand.tmp 66], argTypes := #[22, 22] }, type := 4, pos := "law.go:31", after := #[{ on := 0, ground := Ground.data }, { on := 1, ground := Ground.data }], guard := none }) rfl (fun K hK => ?_) AllReadyH.nil
    go_simp
    refine (same37_b P3 _ cp3 3 3 3 [2, 1, 0] [2, 1, 0] _ rfl rfl (by unfold maxLen; omega) _ _ (rP'.below hv30) rN1 true (by decide)).mono ?_
    rintro e w31 ⟨rfl, b31⟩
    have hv31 : Below w14.heap.size w14 w31 := hv30.trans (b31.mono hv30.size)
    go_wp2_with fail
    refine hK.out _ _ (hv31) (fun hHeld => ?_)
    clear hK K
    try simp only [Act.put, List.setIfInBounds_toArray, List.set_cons_zero, List.set_cons_succ]
    refine wpAnyH_take (i := 3) (oi := { dst := some 68, op := Op.move (Operand.tmp 67), type := 4, pos := "law.go:31", after := #[{ on := 2, ground := Ground.data }, { on := 2, ground := Ground.chain }], guard := none }) (v := ?v3_5002) rfl (by kernel_rfl) (by kernel_rfl) (by kernel_rfl) (fun _ _ _ h => h) (Or.inl ⟨by rfl, ?h3_5002⟩) (by assumption) ?r3_5002
    case h3_5002 =>
      intro W hSW
      try dsimp only at hSW
      go_simp
      try with_reducible rfl
    try simp only [Act.put, List.setIfInBounds_toArray, List.set_cons_zero, List.set_cons_succ]
    refine wpAnyH_take (i := 4) (oi := { dst := some 69, op := Op.move (Operand.tmp 4), type := 27, pos := "law.go:31", after := #[{ on := 3, ground := Ground.guard }], guard := some (3, true) }) (v := ?v4_5003) rfl (by kernel_rfl) (by kernel_rfl) (by kernel_rfl) (fun _ _ _ h => h) (Or.inl ⟨by rfl, ?h4_5003⟩) (by assumption) ?r4_5003
    case h4_5003 =>
      intro W hSW
      try dsimp only at hSW
      go_simp
      try with_reducible rfl
    try simp only [Act.put, List.setIfInBounds_toArray, List.set_cons_zero, List.set_cons_succ]
    refine wpAnyH_take (i := 5) (oi := { dst := some 70, op := Op.binOp BinOp.eql 27 (Operand.tmp 69) (Operand.const (Value.int IntKind.i64 0)) 27, type := 4, pos := "law.go:31", after := #[{ on := 4, ground := Ground.data }, { on := 3, ground := Ground.guard }], guard := some (3, true) }) (v := ?v5_5004) rfl (by kernel_rfl) (by kernel_rfl) (by kernel_rfl) (fun _ _ _ h => h) (Or.inl ⟨by rfl, ?h5_5004⟩) (by assumption) ?r5_5004
    case h5_5004 =>
      intro W hSW
      try dsimp only at hSW
      go_simp
      try with_reducible rfl
    try simp only [Act.put, List.setIfInBounds_toArray, List.set_cons_zero, List.set_cons_succ]
    refine wpAnyH_take (i := 6) (oi := { dst := some 71, op := Op.pick (Operand.tmp 68) (Operand.tmp 70) (Operand.const (Value.bool false)), type := 4, pos := "law.go:31", after := #[{ on := 3, ground := Ground.data }, { on := 5, ground := Ground.data }], guard := none }) (v := ?v6_5005) rfl (by kernel_rfl) (by kernel_rfl) (by kernel_rfl) (fun _ _ _ h => h) (Or.inl ⟨by rfl, ?h6_5005⟩) (by assumption) ?r6_5005
    case h6_5005 =>
      intro W hSW
      try dsimp only at hSW
      go_simp
      try with_reducible rfl
    try simp only [Act.put, List.setIfInBounds_toArray, List.set_cons_zero, List.set_cons_succ]
    refine wpAnyH_take (i := 7) (oi := { dst := some 72, op := Op.move (Operand.tmp 71), type := 4, pos := "law.go:31", after := #[{ on := 6, ground := Ground.data }, { on := 3, ground := Ground.chain }], guard := none }) (v := ?v7_5006) rfl (by kernel_rfl) (by kernel_rfl) (by kernel_rfl) (fun _ _ _ h => h) (Or.inl ⟨by rfl, ?h7_5006⟩) (by assumption) ?r7_5006
    case h7_5006 =>
      intro W hSW
      try dsimp only at hSW
      go_simp
      try with_reducible rfl
    try simp only [Act.put, List.setIfInBounds_toArray, List.set_cons_zero, List.set_cons_succ]
    refine wpAnyH_take (i := 8) (oi := { dst := some 73, op := Op.fieldAddr 26 (Operand.tmp 2) 0, type := 0, pos := "law.go:31", after := #[{ on := 7, ground := Ground.guard }], guard := some (7, true) }) (v := ?v8_5007) rfl (by kernel_rfl) (by kernel_rfl) (by kernel_rfl) (fun _ _ _ h => h) (Or.inl ⟨by rfl, ?h8_5007⟩) (by assumption) ?r8_5007
    case h8_5007 =>
      intro W hSW
      try dsimp only at hSW
      go_simp
      try with_reducible rfl
    try simp only [Act.put, List.setIfInBounds_toArray, List.set_cons_zero, List.set_cons_succ]
    refine wpAnyH_take (i := 9) (oi := { dst := some 74, op := Op.load 22 (Operand.tmp 73), type := 22, pos := "law.go:31", after := #[{ on := 8, ground := Ground.data }, { on := 7, ground := Ground.guard }], guard := some (7, true) }) (v := ?v9_5008) rfl (by kernel_rfl) (by kernel_rfl) (by kernel_rfl) (fun _ _ _ h => h) (Or.inl ⟨by rfl, ?h9_5008⟩) (by assumption) ?r9_5008
    case h9_5008 =>
      intro W hSW
      try dsimp only at hSW
      have hcc := (hSW.cell (p := ⟨p2, 0, none⟩) z2).trans HX2.out
      go_simp
      try with_reducible rfl
    try simp only [Act.put, List.setIfInBounds_toArray, List.set_cons_zero, List.set_cons_succ]
    refine wpAnyH_ready (rs := [10]) (by kernel_rfl) (by simp) ?_
    refine AllReadyH.cons (o := { dst := some 75, op := Op.buildSlice 22 5 #[(0, Operand.const (Value.int IntKind.i64 0)), (1, Operand.const (Value.int IntKind.i64 0)), (2, Operand.const (Value.int IntKind.i64 (-1))), (3, Operand.const (Value.int IntKind.i64 0)), (4, Operand.const (Value.int IntKind.i64 1))], type := 22, pos := "law.go:31", after := #[{ on := 7, ground := Ground.guard }], guard := some (7, true) }) rfl (fun K hK => ?_) AllReadyH.nil
    go_simp
    obtain ⟨w32, hw32⟩ : ∃ w', w31.alloc (.cells #[.int .i64 0, .int .i64 0, .int .i64 (-1), .int .i64 0, .int .i64 1] 3) = w' := ⟨_, rfl⟩
    rw [hw32]
    have rN2 : Rd w32 w32.heap.size 1 (some ⟨w31.heap.size, 0, none⟩) 5 (ivs [0, 0, -1, 0, 1]) := by rw [← hw32, alloc_size1]; exact Rd.new w31 (ivs [0, 0, -1, 0, 1]) 3 5 (size := 1) rfl
    have bb32 : Below w31.heap.size w31 w32 := by rw [← hw32]; exact (Below.refl _ _).alloc (Nat.le_refl _) _
    have hv32 : Below w14.heap.size w14 w32 := hv31.trans (bb32.mono hv31.size)
    clear hw32
    refine hK.out _ _ (hv32) (fun hHeld => ?_)
    clear hK K
    try simp only [Act.put, List.setIfInBounds_toArray, List.set_cons_zero, List.set_cons_succ]
    refine wpAnyH_ready (rs := [11]) (by kernel_rfl) (by simp) ?_
    refine AllReadyH.cons (o := { dst := some 76, op := Op.call { callee := Callee.value (Operand.func 20), args := #[Operand.tmp 74, Operand.tmp 75], argTypes := #[22, 22] }, type := 4, pos := "law.go:31", after := #[{ on := 9, ground := Ground.data }, { on := 10, ground := Ground.data }, { on := 7, ground := Ground.chain }, { on := 7, ground := Ground.guard }], guard := some (7, true) }) rfl (fun K hK => ?_) AllReadyH.nil
    go_simp
    refine (same37_b (some ⟨g3, 0, none⟩) _ c3 5 5 5 [0, 0, -1, 0, 1] [0, 0, -1, 0, 1] _ rfl rfl (by unfold maxLen; omega) _ _ (C3.below hv32).rd rN2 true (by decide)).mono ?_
    rintro e w33 ⟨rfl, b33⟩
    have hv33 : Below w14.heap.size w14 w33 := hv32.trans (b33.mono hv32.size)
    go_wp2_with fail
    refine hK.out _ _ (hv33) (fun hHeld => ?_)
    clear hK K
    try simp only [Act.put, List.setIfInBounds_toArray, List.set_cons_zero, List.set_cons_succ]
    refine wpAnyH_take (i := 12) (oi := { dst := some 77, op := Op.pick (Operand.tmp 72) (Operand.tmp 76) (Operand.const (Value.bool false)), type := 4, pos := "law.go:31", after := #[{ on := 7, ground := Ground.data }, { on := 11, ground := Ground.data }], guard := none }) (v := ?v12_5009) rfl (by kernel_rfl) (by kernel_rfl) (by kernel_rfl) (fun _ _ _ h => h) (Or.inl ⟨by rfl, ?h12_5009⟩) (by assumption) ?r12_5009
    case h12_5009 =>
      intro W hSW
      try dsimp only at hSW
      go_simp
      try with_reducible rfl
    try simp only [Act.put, List.setIfInBounds_toArray, List.set_cons_zero, List.set_cons_succ]
    refine wpAnyH_take (i := 13) (oi := { dst := some 78, op := Op.move (Operand.tmp 77), type := 4, pos := "law.go:31", after := #[{ on := 12, ground := Ground.data }, { on := 11, ground := Ground.chain }], guard := none }) (v := ?v13_5010) rfl (by kernel_rfl) (by kernel_rfl) (by kernel_rfl) (fun _ _ _ h => h) (Or.inl ⟨by rfl, ?h13_5010⟩) (by assumption) ?r13_5010
    case h13_5010 =>
      intro W hSW
      try dsimp only at hSW
      go_simp
      try with_reducible rfl
    try simp only [Act.put, List.setIfInBounds_toArray, List.set_cons_zero, List.set_cons_succ]
    refine wpAnyH_take (i := 14) (oi := { dst := some 79, op := Op.move (Operand.tmp 7), type := 3, pos := "law.go:31", after := #[{ on := 13, ground := Ground.guard }], guard := some (13, true) }) (v := ?v14_5011) rfl (by kernel_rfl) (by kernel_rfl) (by kernel_rfl) (fun _ _ _ h => h) (Or.inl ⟨by rfl, ?h14_5011⟩) (by assumption) ?r14_5011
    case h14_5011 =>
      intro W hSW
      try dsimp only at hSW
      go_simp
      try with_reducible rfl
    try simp only [Act.put, List.setIfInBounds_toArray, List.set_cons_zero, List.set_cons_succ]
    refine wpAnyH_take (i := 15) (oi := { dst := some 80, op := Op.binOp BinOp.eql 3 (Operand.tmp 79) (Operand.const (Value.int IntKind.i64 1)) 3, type := 4, pos := "law.go:31", after := #[{ on := 14, ground := Ground.data }, { on := 13, ground := Ground.guard }], guard := some (13, true) }) (v := ?v15_5012) rfl (by kernel_rfl) (by kernel_rfl) (by kernel_rfl) (fun _ _ _ h => h) (Or.inl ⟨by rfl, ?h15_5012⟩) (by assumption) ?r15_5012
    case h15_5012 =>
      intro W hSW
      try dsimp only at hSW
      go_simp
      try with_reducible rfl
    try simp only [Act.put, List.setIfInBounds_toArray, List.set_cons_zero, List.set_cons_succ]
    refine wpAnyH_take (i := 16) (oi := { dst := some 81, op := Op.pick (Operand.tmp 78) (Operand.tmp 80) (Operand.const (Value.bool false)), type := 4, pos := "law.go:31", after := #[{ on := 13, ground := Ground.data }, { on := 15, ground := Ground.data }], guard := none }) (v := ?v16_5013) rfl (by kernel_rfl) (by kernel_rfl) (by kernel_rfl) (fun _ _ _ h => h) (Or.inl ⟨by rfl, ?h16_5013⟩) (by assumption) ?r16_5013
    case h16_5013 =>
      intro W hSW
      try dsimp only at hSW
      go_simp
      try with_reducible rfl
    try simp only [Act.put, List.setIfInBounds_toArray, List.set_cons_zero, List.set_cons_succ]
    refine wpAnyH_take (i := 17) (oi := { dst := some 82, op := Op.move (Operand.tmp 81), type := 4, pos := "law.go:31", after := #[{ on := 16, ground := Ground.data }, { on := 13, ground := Ground.chain }], guard := none }) (v := ?v17_5014) rfl (by kernel_rfl) (by kernel_rfl) (by kernel_rfl) (fun _ _ _ h => h) (Or.inl ⟨by rfl, ?h17_5014⟩) (by assumption) ?r17_5014
    case h17_5014 =>
      intro W hSW
      try dsimp only at hSW
      go_simp
      try with_reducible rfl
    try simp only [Act.put, List.setIfInBounds_toArray, List.set_cons_zero, List.set_cons_succ]
    refine wpAnyH_take (i := 18) (oi := { dst := some 83, op := Op.move (Operand.tmp 8), type := 27, pos := "law.go:31", after := #[{ on := 17, ground := Ground.guard }], guard := some (17, true) }) (v := ?v18_5015) rfl (by kernel_rfl) (by kernel_rfl) (by kernel_rfl) (fun _ _ _ h => h) (Or.inl ⟨by rfl, ?h18_5015⟩) (by assumption) ?r18_5015
    case h18_5015 =>
      intro W hSW
      try dsimp only at hSW
      go_simp
      try with_reducible rfl
    try simp only [Act.put, List.setIfInBounds_toArray, List.set_cons_zero, List.set_cons_succ]
    refine wpAnyH_take (i := 19) (oi := { dst := some 84, op := Op.binOp BinOp.eql 27 (Operand.tmp 83) (Operand.const (Value.int IntKind.i64 0)) 27, type := 4, pos := "law.go:31", after := #[{ on := 18, ground := Ground.data }, { on := 17, ground := Ground.guard }], guard := some (17, true) }) (v := ?v19_5016) rfl (by kernel_rfl) (by kernel_rfl) (by kernel_rfl) (fun _ _ _ h => h) (Or.inl ⟨by rfl, ?h19_5016⟩) (by assumption) ?r19_5016
    case h19_5016 =>
      intro W hSW
      try dsimp only at hSW
      go_simp
      try with_reducible rfl
    try simp only [Act.put, List.setIfInBounds_toArray, List.set_cons_zero, List.set_cons_succ]
    refine wpAnyH_take (i := 20) (oi := { dst := some 85, op := Op.pick (Operand.tmp 82) (Operand.tmp 84) (Operand.const (Value.bool false)), type := 4, pos := "law.go:31", after := #[{ on := 17, ground := Ground.data }, { on := 19, ground := Ground.data }], guard := none }) (v := ?v20_5017) rfl (by kernel_rfl) (by kernel_rfl) (by kernel_rfl) (fun _ _ _ h => h) (Or.inl ⟨by rfl, ?h20_5017⟩) (by assumption) ?r20_5017
    case h20_5017 =>
      intro W hSW
      try dsimp only at hSW
      go_simp
      try with_reducible rfl
    try simp only [Act.put, List.setIfInBounds_toArray, List.set_cons_zero, List.set_cons_succ]
    refine wpAnyH_take (i := 21) (oi := { dst := some 86, op := Op.move (Operand.tmp 85), type := 4, pos := "law.go:31", after := #[{ on := 20, ground := Ground.data }, { on := 17, ground := Ground.chain }], guard := none }) (v := ?v21_5018) rfl (by kernel_rfl) (by kernel_rfl) (by kernel_rfl) (fun _ _ _ h => h) (Or.inl ⟨by rfl, ?h21_5018⟩) (by assumption) ?r21_5018
    case h21_5018 =>
      intro W hSW
      try dsimp only at hSW
      go_simp
      try with_reducible rfl
    try simp only [Act.put, List.setIfInBounds_toArray, List.set_cons_zero, List.set_cons_succ]
    refine wpAnyH_take (i := 22) (oi := { dst := some 87, op := Op.fieldAddr 26 (Operand.tmp 6) 0, type := 0, pos := "law.go:31", after := #[{ on := 21, ground := Ground.guard }], guard := some (21, true) }) (v := ?v22_5019) rfl (by kernel_rfl) (by kernel_rfl) (by kernel_rfl) (fun _ _ _ h => h) (Or.inl ⟨by rfl, ?h22_5019⟩) (by assumption) ?r22_5019
    case h22_5019 =>
      intro W hSW
      try dsimp only at hSW
      go_simp
      try with_reducible rfl
    try simp only [Act.put, List.setIfInBounds_toArray, List.set_cons_zero, List.set_cons_succ]
    refine wpAnyH_take (i := 23) (oi := { dst := some 88, op := Op.load 22 (Operand.tmp 87), type := 22, pos := "law.go:31", after := #[{ on := 22, ground := Ground.data }, { on := 21, ground := Ground.guard }], guard := some (21, true) }) (v := ?v23_5020) rfl (by kernel_rfl) (by kernel_rfl) (by kernel_rfl) (fun _ _ _ h => h) (Or.inl ⟨by rfl, ?h23_5020⟩) (by assumption) ?r23_5020
    case h23_5020 =>
      intro W hSW
      try dsimp only at hSW
      have hcc := (hSW.cell (p := ⟨p6, 0, none⟩) z6).trans HX6.out
      go_simp
      try with_reducible rfl
    try simp only [Act.put, List.setIfInBounds_toArray, List.set_cons_zero, List.set_cons_succ]
    refine wpAnyH_ready (rs := [24]) (by kernel_rfl) (by simp) ?_
    refine AllReadyH.cons (o := { dst := some 89, op := Op.makeSlice 22 (Operand.const (Value.int IntKind.i64 5)) (Operand.const (Value.int IntKind.i64 5)), type := 22, pos := "law.go:31", after := #[{ on := 21, ground := Ground.guard }], guard := some (21, true) }) rfl (fun K hK => ?_) AllReadyH.nil
    go_simp
    obtain ⟨w34, hw34⟩ : ∃ w', w33.alloc (.cells #[.int .i64 0, .int .i64 0, .int .i64 0, .int .i64 0, .int .i64 0] 3) = w' := ⟨_, rfl⟩
    rw [hw34]
    have rN3 : Rd w34 w34.heap.size 1 (some ⟨w33.heap.size, 0, none⟩) 5 (ivs [0, 0, 0, 0, 0]) := by rw [← hw34, alloc_size1]; exact Rd.new w33 (ivs [0, 0, 0, 0, 0]) 3 5 (size := 1) rfl
    have bb34 : Below w33.heap.size w33 w34 := by rw [← hw34]; exact (Below.refl _ _).alloc (Nat.le_refl _) _
    have hv34 : Below w14.heap.size w14 w34 := hv33.trans (bb34.mono hv33.size)
    clear hw34
    refine hK.out _ _ (hv34) (fun hHeld => ?_)
    clear hK K
    try simp only [Act.put, List.setIfInBounds_toArray, List.set_cons_zero, List.set_cons_succ]
    refine wpAnyH_ready (rs := [25]) (by kernel_rfl) (by simp) ?_
    refine AllReadyH.cons (o := { dst := some 90, op := Op.call { callee := Callee.value (Operand.func 20), args := #[Operand.tmp 88, Operand.tmp 89], argTypes := #[22, 22] }, type := 4, pos := "law.go:31", after := #[{ on := 23, ground := Ground.data }, { on := 24, ground := Ground.data }, { on := 21, ground := Ground.chain }, { on := 21, ground := Ground.guard }], guard := some (21, true) }) rfl (fun K hK => ?_) AllReadyH.nil
    go_simp
    refine (same37_b (some ⟨g7, 0, none⟩) _ c7 5 5 5 [0, 0, 0, 0, 0] [0, 0, 0, 0, 0] _ rfl rfl (by unfold maxLen; omega) _ _ (C7.below hv34).rd rN3 true (by decide)).mono ?_
    rintro e w35 ⟨rfl, b35⟩
    have hv35 : Below w14.heap.size w14 w35 := hv34.trans (b35.mono hv34.size)
    go_wp2_with fail
    refine hK.out _ _ (hv35) (fun hHeld => ?_)
    clear hK K
    try simp only [Act.put, List.setIfInBounds_toArray, List.set_cons_zero, List.set_cons_succ]
    refine wpAnyH_take (i := 26) (oi := { dst := some 91, op := Op.pick (Operand.tmp 86) (Operand.tmp 90) (Operand.const (Value.bool false)), type := 4, pos := "law.go:31", after := #[{ on := 21, ground := Ground.data }, { on := 25, ground := Ground.data }], guard := none }) (v := ?v26_5021) rfl (by kernel_rfl) (by kernel_rfl) (by kernel_rfl) (fun _ _ _ h => h) (Or.inl ⟨by rfl, ?h26_5021⟩) (by assumption) ?r26_5021
    case h26_5021 =>
      intro W hSW
      try dsimp only at hSW
      go_simp
      try with_reducible rfl
    try simp only [Act.put, List.setIfInBounds_toArray, List.set_cons_zero, List.set_cons_succ]
    refine wpAnyH_take (i := 27) (oi := { dst := some 92, op := Op.move (Operand.tmp 91), type := 4, pos := "law.go:31", after := #[{ on := 26, ground := Ground.data }, { on := 25, ground := Ground.chain }], guard := none }) (v := ?v27_5022) rfl (by kernel_rfl) (by kernel_rfl) (by kernel_rfl) (fun _ _ _ h => h) (Or.inl ⟨by rfl, ?h27_5022⟩) (by assumption) ?r27_5022
    case h27_5022 =>
      intro W hSW
      try dsimp only at hSW
      go_simp
      try with_reducible rfl
    try simp only [Act.put, List.setIfInBounds_toArray, List.set_cons_zero, List.set_cons_succ]
    refine wpAnyH_take (i := 28) (oi := { dst := some 93, op := Op.move (Operand.tmp 10), type := 3, pos := "law.go:31", after := #[{ on := 27, ground := Ground.guard }], guard := some (27, true) }) (v := ?v28_5023) rfl (by kernel_rfl) (by kernel_rfl) (by kernel_rfl) (fun _ _ _ h => h) (Or.inl ⟨by rfl, ?h28_5023⟩) (by assumption) ?r28_5023
    case h28_5023 =>
      intro W hSW
      try dsimp only at hSW
      go_simp
      try with_reducible rfl
    try simp only [Act.put, List.setIfInBounds_toArray, List.set_cons_zero, List.set_cons_succ]
    refine wpAnyH_take (i := 29) (oi := { dst := some 94, op := Op.binOp BinOp.eql 3 (Operand.tmp 93) (Operand.const (Value.int IntKind.i64 (-1))) 3, type := 4, pos := "law.go:31", after := #[{ on := 28, ground := Ground.data }, { on := 27, ground := Ground.guard }], guard := some (27, true) }) (v := ?v29_5024) rfl (by kernel_rfl) (by kernel_rfl) (by kernel_rfl) (fun _ _ _ h => h) (Or.inl ⟨by rfl, ?h29_5024⟩) (by assumption) ?r29_5024
    case h29_5024 =>
      intro W hSW
      try dsimp only at hSW
      go_simp
      try with_reducible rfl
    try simp only [Act.put, List.setIfInBounds_toArray, List.set_cons_zero, List.set_cons_succ]
    refine wpAnyH_take (i := 30) (oi := { dst := some 95, op := Op.pick (Operand.tmp 92) (Operand.tmp 94) (Operand.const (Value.bool false)), type := 4, pos := "law.go:31", after := #[{ on := 27, ground := Ground.data }, { on := 29, ground := Ground.data }], guard := none }) (v := ?v30_5025) rfl (by kernel_rfl) (by kernel_rfl) (by kernel_rfl) (fun _ _ _ h => h) (Or.inl ⟨by rfl, ?h30_5025⟩) (by assumption) ?r30_5025
    case h30_5025 =>
      intro W hSW
      try dsimp only at hSW
      go_simp
      try with_reducible rfl
    try simp only [Act.put, List.setIfInBounds_toArray, List.set_cons_zero, List.set_cons_succ]
    refine wpAnyH_take (i := 31) (oi := { dst := some 96, op := Op.move (Operand.tmp 95), type := 4, pos := "law.go:31", after := #[{ on := 30, ground := Ground.data }, { on := 27, ground := Ground.chain }], guard := none }) (v := ?v31_5026) rfl (by kernel_rfl) (by kernel_rfl) (by kernel_rfl) (fun _ _ _ h => h) (Or.inl ⟨by rfl, ?h31_5026⟩) (by assumption) ?r31_5026
    case h31_5026 =>
      intro W hSW
      try dsimp only at hSW
      go_simp
      try with_reducible rfl
    try simp only [Act.put, List.setIfInBounds_toArray, List.set_cons_zero, List.set_cons_succ]
    refine wpAnyH_take (i := 32) (oi := { dst := some 97, op := Op.move (Operand.tmp 11), type := 27, pos := "law.go:31", after := #[{ on := 31, ground := Ground.guard }], guard := some (31, true) }) (v := ?v32_5027) rfl (by kernel_rfl) (by kernel_rfl) (by kernel_rfl) (fun _ _ _ h => h) (Or.inl ⟨by rfl, ?h32_5027⟩) (by assumption) ?r32_5027
    case h32_5027 =>
      intro W hSW
      try dsimp only at hSW
      go_simp
      try with_reducible rfl
    try simp only [Act.put, List.setIfInBounds_toArray, List.set_cons_zero, List.set_cons_succ]
    refine wpAnyH_take (i := 33) (oi := { dst := some 98, op := Op.binOp BinOp.eql 27 (Operand.tmp 97) (Operand.const (Value.int IntKind.i64 0)) 27, type := 4, pos := "law.go:31", after := #[{ on := 32, ground := Ground.data }, { on := 31, ground := Ground.guard }], guard := some (31, true) }) (v := ?v33_5028) rfl (by kernel_rfl) (by kernel_rfl) (by kernel_rfl) (fun _ _ _ h => h) (Or.inl ⟨by rfl, ?h33_5028⟩) (by assumption) ?r33_5028
    case h33_5028 =>
      intro W hSW
      try dsimp only at hSW
      go_simp
      try with_reducible rfl
    try simp only [Act.put, List.setIfInBounds_toArray, List.set_cons_zero, List.set_cons_succ]
    refine wpAnyH_take (i := 34) (oi := { dst := some 99, op := Op.pick (Operand.tmp 96) (Operand.tmp 98) (Operand.const (Value.bool false)), type := 4, pos := "law.go:31", after := #[{ on := 31, ground := Ground.data }, { on := 33, ground := Ground.data }], guard := none }) (v := ?v34_5029) rfl (by kernel_rfl) (by kernel_rfl) (by kernel_rfl) (fun _ _ _ h => h) (Or.inl ⟨by rfl, ?h34_5029⟩) (by assumption) ?r34_5029
    case h34_5029 =>
      intro W hSW
      try dsimp only at hSW
      go_simp
      try with_reducible rfl
    try simp only [Act.put, List.setIfInBounds_toArray, List.set_cons_zero, List.set_cons_succ]
    refine wpAnyH_take (i := 35) (oi := { dst := some 100, op := Op.move (Operand.tmp 99), type := 4, pos := "law.go:31", after := #[{ on := 34, ground := Ground.data }, { on := 31, ground := Ground.chain }], guard := none }) (v := ?v35_5030) rfl (by kernel_rfl) (by kernel_rfl) (by kernel_rfl) (fun _ _ _ h => h) (Or.inl ⟨by rfl, ?h35_5030⟩) (by assumption) ?r35_5030
    case h35_5030 =>
      intro W hSW
      try dsimp only at hSW
      go_simp
      try with_reducible rfl
    try simp only [Act.put, List.setIfInBounds_toArray, List.set_cons_zero, List.set_cons_succ]
    refine wpAnyH_take (i := 36) (oi := { dst := some 101, op := Op.move (Operand.tmp 14), type := 27, pos := "law.go:31", after := #[{ on := 35, ground := Ground.guard }], guard := some (35, true) }) (v := ?v36_5031) rfl (by kernel_rfl) (by kernel_rfl) (by kernel_rfl) (fun _ _ _ h => h) (Or.inl ⟨by rfl, ?h36_5031⟩) (by assumption) ?r36_5031
    case h36_5031 =>
      intro W hSW
      try dsimp only at hSW
      go_simp
      try with_reducible rfl
    try simp only [Act.put, List.setIfInBounds_toArray, List.set_cons_zero, List.set_cons_succ]
    refine wpAnyH_take (i := 37) (oi := { dst := some 102, op := Op.binOp BinOp.eql 27 (Operand.tmp 101) (Operand.const (Value.int IntKind.i64 1)) 27, type := 4, pos := "law.go:31", after := #[{ on := 36, ground := Ground.data }, { on := 35, ground := Ground.guard }], guard := some (35, true) }) (v := ?v37_5032) rfl (by kernel_rfl) (by kernel_rfl) (by kernel_rfl) (fun _ _ _ h => h) (Or.inl ⟨by rfl, ?h37_5032⟩) (by assumption) ?r37_5032
    case h37_5032 =>
      intro W hSW
      try dsimp only at hSW
      go_simp
      try with_reducible rfl
    try simp only [Act.put, List.setIfInBounds_toArray, List.set_cons_zero, List.set_cons_succ]
    refine wpAnyH_take (i := 38) (oi := { dst := some 103, op := Op.pick (Operand.tmp 100) (Operand.tmp 102) (Operand.const (Value.bool false)), type := 4, pos := "law.go:31", after := #[{ on := 35, ground := Ground.data }, { on := 37, ground := Ground.data }], guard := none }) (v := ?v38_5033) rfl (by kernel_rfl) (by kernel_rfl) (by kernel_rfl) (fun _ _ _ h => h) (Or.inl ⟨by rfl, ?h38_5033⟩) (by assumption) ?r38_5033
    case h38_5033 =>
      intro W hSW
      try dsimp only at hSW
      go_simp
      try with_reducible rfl
    try simp only [Act.put, List.setIfInBounds_toArray, List.set_cons_zero, List.set_cons_succ]
    refine wpAnyH_take (i := 39) (oi := { dst := some 104, op := Op.move (Operand.tmp 103), type := 4, pos := "law.go:31", after := #[{ on := 38, ground := Ground.data }, { on := 35, ground := Ground.chain }], guard := none }) (v := ?v39_5034) rfl (by kernel_rfl) (by kernel_rfl) (by kernel_rfl) (fun _ _ _ h => h) (Or.inl ⟨by rfl, ?h39_5034⟩) (by assumption) ?r39_5034
    case h39_5034 =>
      intro W hSW
      try dsimp only at hSW
      go_simp
      try with_reducible rfl
    try simp only [Act.put, List.setIfInBounds_toArray, List.set_cons_zero, List.set_cons_succ]
    refine wpAnyH_take (i := 40) (oi := { dst := some 105, op := Op.move (Operand.tmp 17), type := 27, pos := "law.go:31", after := #[{ on := 39, ground := Ground.guard }], guard := some (39, true) }) (v := ?v40_5035) rfl (by kernel_rfl) (by kernel_rfl) (by kernel_rfl) (fun _ _ _ h => h) (Or.inl ⟨by rfl, ?h40_5035⟩) (by assumption) ?r40_5035
    case h40_5035 =>
      intro W hSW
      try dsimp only at hSW
      go_simp
      try with_reducible rfl
    try simp only [Act.put, List.setIfInBounds_toArray, List.set_cons_zero, List.set_cons_succ]
    refine wpAnyH_take (i := 41) (oi := { dst := some 106, op := Op.binOp BinOp.eql 27 (Operand.tmp 105) (Operand.const (Value.int IntKind.i64 1)) 27, type := 4, pos := "law.go:31", after := #[{ on := 40, ground := Ground.data }, { on := 39, ground := Ground.guard }], guard := some (39, true) }) (v := ?v41_5036) rfl (by kernel_rfl) (by kernel_rfl) (by kernel_rfl) (fun _ _ _ h => h) (Or.inl ⟨by rfl, ?h41_5036⟩) (by assumption) ?r41_5036
    case h41_5036 =>
      intro W hSW
      try dsimp only at hSW
      go_simp
      try with_reducible rfl
    try simp only [Act.put, List.setIfInBounds_toArray, List.set_cons_zero, List.set_cons_succ]
    refine wpAnyH_take (i := 42) (oi := { dst := some 107, op := Op.pick (Operand.tmp 104) (Operand.tmp 106) (Operand.const (Value.bool false)), type := 4, pos := "law.go:31", after := #[{ on := 39, ground := Ground.data }, { on := 41, ground := Ground.data }], guard := none }) (v := ?v42_5037) rfl (by kernel_rfl) (by kernel_rfl) (by kernel_rfl) (fun _ _ _ h => h) (Or.inl ⟨by rfl, ?h42_5037⟩) (by assumption) ?r42_5037
    case h42_5037 =>
      intro W hSW
      try dsimp only at hSW
      go_simp
      try with_reducible rfl
    try simp only [Act.put, List.setIfInBounds_toArray, List.set_cons_zero, List.set_cons_succ]
    refine wpAnyH_take (i := 43) (oi := { dst := some 108, op := Op.move (Operand.tmp 107), type := 4, pos := "law.go:31", after := #[{ on := 42, ground := Ground.data }, { on := 39, ground := Ground.chain }], guard := none }) (v := ?v43_5038) rfl (by kernel_rfl) (by kernel_rfl) (by kernel_rfl) (fun _ _ _ h => h) (Or.inl ⟨by rfl, ?h43_5038⟩) (by assumption) ?r43_5038
    case h43_5038 =>
      intro W hSW
      try dsimp only at hSW
      go_simp
      try with_reducible rfl
    try simp only [Act.put, List.setIfInBounds_toArray, List.set_cons_zero, List.set_cons_succ]
    refine wpAnyH_ready (rs := [44]) (by kernel_rfl) (by simp) ?_
    refine AllReadyH.cons (o := { dst := some 109, op := Op.call { callee := Callee.value (Operand.func 23), args := #[], argTypes := #[] }, type := 26, pos := "law.go:31", after := #[{ on := 43, ground := Ground.chain }, { on := 43, ground := Ground.guard }], guard := some (43, true) }) rfl (fun K hK => ?_) AllReadyH.nil
    go_simp
    refine (new_any _).mono ?_
    rintro e w36 ⟨gB, rfl, CB, _, b36⟩
    have hv36 : Below w14.heap.size w14 w36 := hv35.trans (b36.mono hv35.size)
    go_wp2_with fail
    refine hK.out _ _ (hv36) (fun hHeld => ?_)
    clear hK K
    try simp only [Act.put, List.setIfInBounds_toArray, List.set_cons_zero, List.set_cons_succ]
    refine wpAnyH_ready (rs := [45]) (by kernel_rfl) (by simp) ?_
    refine AllReadyH.cons (o := { dst := some 110, op := Op.call { callee := Callee.value (Operand.func 14), args := #[Operand.tmp 109], argTypes := #[26] }, type := 4, pos := "law.go:31", after := #[{ on := 44, ground := Ground.data }, { on := 44, ground := Ground.chain }, { on := 43, ground := Ground.guard }], guard := some (43, true) }) rfl (fun K hK => ?_) AllReadyH.nil
    go_simp
    refine (valid_v (some ⟨gB, 0, none⟩) 5 5 [0, 0, 0, 0, 0] rfl _ _ CB.rd (Nat.le_refl _) true ex_v0).mono ?_
    rintro e w37 ⟨rfl, b37⟩
    have hv37 : Below w14.heap.size w14 w37 := hv36.trans (b37.mono hv36.size)
    go_wp2_with fail
    refine hK.out _ _ (hv37) (fun hHeld => ?_)
    clear hK K
    try simp only [Act.put, List.setIfInBounds_toArray, List.set_cons_zero, List.set_cons_succ]
    refine wpAnyH_take (i := 46) (oi := { dst := some 111, op := Op.pick (Operand.tmp 108) (Operand.tmp 110) (Operand.const (Value.bool false)), type := 4, pos := "law.go:31", after := #[{ on := 43, ground := Ground.data }, { on := 45, ground := Ground.data }], guard := none }) (v := ?v46_5039) rfl (by kernel_rfl) (by kernel_rfl) (by kernel_rfl) (fun _ _ _ h => h) (Or.inl ⟨by rfl, ?h46_5039⟩) (by assumption) ?r46_5039
    case h46_5039 =>
      intro W hSW
      try dsimp only at hSW
      go_simp
      try with_reducible rfl
    try simp only [Act.put, List.setIfInBounds_toArray, List.set_cons_zero, List.set_cons_succ]
    refine wpAnyH_take (i := 47) (oi := { dst := some 112, op := Op.move (Operand.tmp 111), type := 4, pos := "law.go:31", after := #[{ on := 46, ground := Ground.data }, { on := 45, ground := Ground.chain }], guard := none }) (v := ?v47_5040) rfl (by kernel_rfl) (by kernel_rfl) (by kernel_rfl) (fun _ _ _ h => h) (Or.inl ⟨by rfl, ?h47_5040⟩) (by assumption) ?r47_5040
    case h47_5040 =>
      intro W hSW
      try dsimp only at hSW
      go_simp
      try with_reducible rfl
    try simp only [Act.put, List.setIfInBounds_toArray, List.set_cons_zero, List.set_cons_succ]
    refine wpAnyH_ready (rs := [48]) (by kernel_rfl) (by simp) ?_
    refine AllReadyH.cons (o := { dst := some 113, op := Op.buildSlice 22 5 #[(0, Operand.const (Value.int IntKind.i64 0)), (1, Operand.const (Value.int IntKind.i64 0)), (2, Operand.const (Value.int IntKind.i64 0)), (3, Operand.const (Value.int IntKind.i64 0)), (4, Operand.const (Value.int IntKind.i64 1001))], type := 22, pos := "law.go:31", after := #[{ on := 47, ground := Ground.guard }], guard := some (47, true) }) rfl (fun K hK => ?_) AllReadyH.nil
    go_simp
    obtain ⟨w38, hw38⟩ : ∃ w', w37.alloc (.cells #[.int .i64 0, .int .i64 0, .int .i64 0, .int .i64 0, .int .i64 1001] 3) = w' := ⟨_, rfl⟩
    rw [hw38]
    have rN4 : Rd w38 w38.heap.size 1 (some ⟨w37.heap.size, 0, none⟩) 5 (ivs [0, 0, 0, 0, 1001]) := by rw [← hw38, alloc_size1]; exact Rd.new w37 (ivs [0, 0, 0, 0, 1001]) 3 5 (size := 1) rfl
    have bb38 : Below w37.heap.size w37 w38 := by rw [← hw38]; exact (Below.refl _ _).alloc (Nat.le_refl _) _
    have hv38 : Below w14.heap.size w14 w38 := hv37.trans (bb38.mono hv37.size)
    clear hw38
    refine hK.out _ _ (hv38) (fun hHeld => ?_)
    clear hK K
    try simp only [Act.put, List.setIfInBounds_toArray, List.set_cons_zero, List.set_cons_succ]
    refine wpAnyH_take (i := 49) (oi := { dst := some 114, op := Op.build 26 #[(0, Operand.tmp 113)], type := 26, pos := "law.go:31", after := #[{ on := 48, ground := Ground.data }, { on := 47, ground := Ground.guard }], guard := some (47, true) }) (v := ?v49_5041) rfl (by kernel_rfl) (by kernel_rfl) (by kernel_rfl) (fun _ _ _ h => h) (Or.inl ⟨by rfl, ?h49_5041⟩) (by assumption) ?r49_5041
    case h49_5041 =>
      intro W hSW
      try dsimp only at hSW
      go_simp
      try with_reducible rfl
    try simp only [Act.put, List.setIfInBounds_toArray, List.set_cons_zero, List.set_cons_succ]
    refine wpAnyH_ready (rs := [50]) (by kernel_rfl) (by simp) ?_
    refine AllReadyH.cons (o := { dst := some 115, op := Op.call { callee := Callee.value (Operand.func 14), args := #[Operand.tmp 114], argTypes := #[26] }, type := 4, pos := "law.go:31", after := #[{ on := 49, ground := Ground.data }, { on := 47, ground := Ground.chain }, { on := 47, ground := Ground.guard }], guard := some (47, true) }) rfl (fun K hK => ?_) AllReadyH.nil
    go_simp
    refine (valid_v _ 5 5 [0, 0, 0, 0, 1001] rfl _ _ rN4 (Nat.le_refl _) false ex_v1).mono ?_
    rintro e w39 ⟨rfl, b39⟩
    have hv39 : Below w14.heap.size w14 w39 := hv38.trans (b39.mono hv38.size)
    go_wp2_with fail
    refine hK.out _ _ (hv39) (fun hHeld => ?_)
    clear hK K
    try simp only [Act.put, List.setIfInBounds_toArray, List.set_cons_zero, List.set_cons_succ]
    refine wpAnyH_take (i := 51) (oi := { dst := some 116, op := Op.unOp UnOp.not 4 (Operand.tmp 115), type := 4, pos := "law.go:31", after := #[{ on := 50, ground := Ground.data }, { on := 47, ground := Ground.guard }], guard := some (47, true) }) (v := ?v51_5042) rfl (by kernel_rfl) (by kernel_rfl) (by kernel_rfl) (fun _ _ _ h => h) (Or.inl ⟨by rfl, ?h51_5042⟩) (by assumption) ?r51_5042
    case h51_5042 =>
      intro W hSW
      try dsimp only at hSW
      go_simp
      try with_reducible rfl
    try simp only [Act.put, List.setIfInBounds_toArray, List.set_cons_zero, List.set_cons_succ]
    refine wpAnyH_take (i := 52) (oi := { dst := some 117, op := Op.pick (Operand.tmp 112) (Operand.tmp 116) (Operand.const (Value.bool false)), type := 4, pos := "law.go:31", after := #[{ on := 47, ground := Ground.data }, { on := 51, ground := Ground.data }], guard := none }) (v := ?v52_5043) rfl (by kernel_rfl) (by kernel_rfl) (by kernel_rfl) (fun _ _ _ h => h) (Or.inl ⟨by rfl, ?h52_5043⟩) (by assumption) ?r52_5043
    case h52_5043 =>
      intro W hSW
      try dsimp only at hSW
      go_simp
      try with_reducible rfl
    try simp only [Act.put, List.setIfInBounds_toArray, List.set_cons_zero, List.set_cons_succ]
    refine wpAnyH_take (i := 53) (oi := { dst := some 118, op := Op.move (Operand.tmp 117), type := 4, pos := "law.go:31", after := #[{ on := 52, ground := Ground.data }, { on := 50, ground := Ground.chain }], guard := none }) (v := ?v53_5044) rfl (by kernel_rfl) (by kernel_rfl) (by kernel_rfl) (fun _ _ _ h => h) (Or.inl ⟨by rfl, ?h53_5044⟩) (by assumption) ?r53_5044
    case h53_5044 =>
      intro W hSW
      try dsimp only at hSW
      go_simp
      try with_reducible rfl
    try simp only [Act.put, List.setIfInBounds_toArray, List.set_cons_zero, List.set_cons_succ]
    refine wpAnyH_ready (rs := [54]) (by kernel_rfl) (by simp) ?_
    refine AllReadyH.cons (o := { dst := some 119, op := Op.call { callee := Callee.value (Operand.func 16), args := #[Operand.const (Value.int IntKind.i64 1)], argTypes := #[3] }, type := 3, pos := "law.go:31", after := #[{ on := 53, ground := Ground.chain }, { on := 53, ground := Ground.guard }], guard := some (53, true) }) rfl (fun K hK => ?_) AllReadyH.nil
    go_simp
    refine (weight_v 1 4 rfl _).mono ?_
    rintro e w40 ⟨rfl, b40⟩
    have hv40 : Below w14.heap.size w14 w40 := hv39.trans (b40.mono hv39.size)
    go_wp2_with fail
    refine hK.out _ _ (hv40) (fun hHeld => ?_)
    clear hK K
    try simp only [Act.put, List.setIfInBounds_toArray, List.set_cons_zero, List.set_cons_succ]
    refine wpAnyH_take (i := 55) (oi := { dst := some 120, op := Op.binOp BinOp.eql 3 (Operand.tmp 119) (Operand.const (Value.int IntKind.i64 4)) 3, type := 4, pos := "law.go:31", after := #[{ on := 54, ground := Ground.data }, { on := 53, ground := Ground.guard }], guard := some (53, true) }) (v := ?v55_5045) rfl (by kernel_rfl) (by kernel_rfl) (by kernel_rfl) (fun _ _ _ h => h) (Or.inl ⟨by rfl, ?h55_5045⟩) (by assumption) ?r55_5045
    case h55_5045 =>
      intro W hSW
      try dsimp only at hSW
      go_simp
      try with_reducible rfl
    try simp only [Act.put, List.setIfInBounds_toArray, List.set_cons_zero, List.set_cons_succ]
    refine wpAnyH_take (i := 56) (oi := { dst := some 121, op := Op.pick (Operand.tmp 118) (Operand.tmp 120) (Operand.const (Value.bool false)), type := 4, pos := "law.go:31", after := #[{ on := 53, ground := Ground.data }, { on := 55, ground := Ground.data }], guard := none }) (v := ?v56_5046) rfl (by kernel_rfl) (by kernel_rfl) (by kernel_rfl) (fun _ _ _ h => h) (Or.inl ⟨by rfl, ?h56_5046⟩) (by assumption) ?r56_5046
    case h56_5046 =>
      intro W hSW
      try dsimp only at hSW
      go_simp
      try with_reducible rfl
    try simp only [Act.put, List.setIfInBounds_toArray, List.set_cons_zero, List.set_cons_succ]
    refine wpAnyH_take (i := 57) (oi := { dst := some 122, op := Op.move (Operand.tmp 121), type := 4, pos := "law.go:31", after := #[{ on := 56, ground := Ground.data }, { on := 54, ground := Ground.chain }], guard := none }) (v := ?v57_5047) rfl (by kernel_rfl) (by kernel_rfl) (by kernel_rfl) (fun _ _ _ h => h) (Or.inl ⟨by rfl, ?h57_5047⟩) (by assumption) ?r57_5047
    case h57_5047 =>
      intro W hSW
      try dsimp only at hSW
      go_simp
      try with_reducible rfl
    try simp only [Act.put, List.setIfInBounds_toArray, List.set_cons_zero, List.set_cons_succ]
    refine wpAnyH_ready (rs := [58]) (by kernel_rfl) (by simp) ?_
    refine AllReadyH.cons (o := { dst := some 123, op := Op.call { callee := Callee.value (Operand.func 16), args := #[Operand.const (Value.int IntKind.i64 6)], argTypes := #[3] }, type := 3, pos := "law.go:31", after := #[{ on := 57, ground := Ground.chain }, { on := 57, ground := Ground.guard }], guard := some (57, true) }) rfl (fun K hK => ?_) AllReadyH.nil
    go_simp
    refine (weight_v 6 0 rfl _).mono ?_
    rintro e w41 ⟨rfl, b41⟩
    have hv41 : Below w14.heap.size w14 w41 := hv40.trans (b41.mono hv40.size)
    go_wp2_with fail
    refine hK.out _ _ (hv41) (fun hHeld => ?_)
    clear hK K
    try simp only [Act.put, List.setIfInBounds_toArray, List.set_cons_zero, List.set_cons_succ]
    refine wpAnyH_take (i := 59) (oi := { dst := some 124, op := Op.binOp BinOp.eql 3 (Operand.tmp 123) (Operand.const (Value.int IntKind.i64 0)) 3, type := 4, pos := "law.go:31", after := #[{ on := 58, ground := Ground.data }, { on := 57, ground := Ground.guard }], guard := some (57, true) }) (v := ?v59_5048) rfl (by kernel_rfl) (by kernel_rfl) (by kernel_rfl) (fun _ _ _ h => h) (Or.inl ⟨by rfl, ?h59_5048⟩) (by assumption) ?r59_5048
    case h59_5048 =>
      intro W hSW
      try dsimp only at hSW
      go_simp
      try with_reducible rfl
    try simp only [Act.put, List.setIfInBounds_toArray, List.set_cons_zero, List.set_cons_succ]
    refine wpAnyH_take (i := 60) (oi := { dst := some 125, op := Op.pick (Operand.tmp 122) (Operand.tmp 124) (Operand.const (Value.bool false)), type := 4, pos := "law.go:31", after := #[{ on := 57, ground := Ground.data }, { on := 59, ground := Ground.data }], guard := none }) (v := ?v60_5049) rfl (by kernel_rfl) (by kernel_rfl) (by kernel_rfl) (fun _ _ _ h => h) (Or.inl ⟨by rfl, ?h60_5049⟩) (by assumption) ?r60_5049
    case h60_5049 =>
      intro W hSW
      try dsimp only at hSW
      go_simp
      try with_reducible rfl
    try simp only [Act.put, List.setIfInBounds_toArray, List.set_cons_zero, List.set_cons_succ]
    refine wpAnyH_take (i := 61) (oi := { dst := some 126, op := Op.move (Operand.tmp 125), type := 4, pos := "law.go:31", after := #[{ on := 60, ground := Ground.data }, { on := 58, ground := Ground.chain }], guard := none }) (v := ?v61_5050) rfl (by kernel_rfl) (by kernel_rfl) (by kernel_rfl) (fun _ _ _ h => h) (Or.inl ⟨by rfl, ?h61_5050⟩) (by assumption) ?r61_5050
    case h61_5050 =>
      intro W hSW
      try dsimp only at hSW
      go_simp
      try with_reducible rfl
    try simp only [Act.put, List.setIfInBounds_toArray, List.set_cons_zero, List.set_cons_succ]
    refine wpAnyH_take (i := 62) (oi := { dst := some 127, op := Op.move (Operand.tmp 5), type := 30, pos := "law.go:31", after := #[{ on := 61, ground := Ground.guard }], guard := some (61, true) }) (v := ?v62_5051) rfl (by kernel_rfl) (by kernel_rfl) (by kernel_rfl) (fun _ _ _ h => h) (Or.inl ⟨by rfl, ?h62_5051⟩) (by assumption) ?r62_5051
    case h62_5051 =>
      intro W hSW
      try dsimp only at hSW
      go_simp
      try with_reducible rfl
    try simp only [Act.put, List.setIfInBounds_toArray, List.set_cons_zero, List.set_cons_succ]
    refine wpAnyH_ready (rs := [63]) (by kernel_rfl) (by simp) ?_
    refine AllReadyH.cons (o := { dst := some 128, op := Op.call { callee := Callee.value (Operand.func 18), args := #[Operand.tmp 127], argTypes := #[30] }, type := 3, pos := "law.go:31", after := #[{ on := 62, ground := Ground.data }, { on := 61, ground := Ground.chain }, { on := 61, ground := Ground.guard }], guard := some (61, true) }) rfl (fun K hK => ?_) AllReadyH.nil
    go_simp
    refine (Urgent_v (some ⟨p2 + 1, 0, none⟩) 3 3 exM rfl (by omega) _ _ (rM.below hv41) hv41.size 1 ex_urg).mono ?_
    rintro e w42 ⟨rfl, b42⟩
    have hv42 : Below w14.heap.size w14 w42 := hv41.trans (b42.mono hv41.size)
    go_wp2_with fail
    refine hK.out _ _ (hv42) (fun hHeld => ?_)
    clear hK K
    try simp only [Act.put, List.setIfInBounds_toArray, List.set_cons_zero, List.set_cons_succ]
    refine wpAnyH_take (i := 64) (oi := { dst := some 129, op := Op.binOp BinOp.eql 3 (Operand.tmp 128) (Operand.const (Value.int IntKind.i64 1)) 3, type := 4, pos := "law.go:31", after := #[{ on := 63, ground := Ground.data }, { on := 61, ground := Ground.guard }], guard := some (61, true) }) (v := ?v64_5052) rfl (by kernel_rfl) (by kernel_rfl) (by kernel_rfl) (fun _ _ _ h => h) (Or.inl ⟨by rfl, ?h64_5052⟩) (by assumption) ?r64_5052
    case h64_5052 =>
      intro W hSW
      try dsimp only at hSW
      go_simp
      try with_reducible rfl
    try simp only [Act.put, List.setIfInBounds_toArray, List.set_cons_zero, List.set_cons_succ]
    refine wpAnyH_take (i := 65) (oi := { dst := some 130, op := Op.pick (Operand.tmp 126) (Operand.tmp 129) (Operand.const (Value.bool false)), type := 4, pos := "law.go:31", after := #[{ on := 61, ground := Ground.data }, { on := 64, ground := Ground.data }], guard := none }) (v := ?v65_5053) rfl (by kernel_rfl) (by kernel_rfl) (by kernel_rfl) (fun _ _ _ h => h) (Or.inl ⟨by rfl, ?h65_5053⟩) (by assumption) ?r65_5053
    case h65_5053 =>
      intro W hSW
      try dsimp only at hSW
      go_simp
      try with_reducible rfl
    try simp only [Act.put, List.setIfInBounds_toArray, List.set_cons_zero, List.set_cons_succ]
    refine wpAnyH_take (i := 66) (oi := { dst := some 0, op := Op.assign (Operand.tmp 130), type := 4, pos := "law.go:31", after := ([{ on := 65, ground := Ground.data }, { on := 63, ground := Ground.chain }, { on := 0, ground := Ground.phase }, { on := 1, ground := Ground.phase }, { on := 2, ground := Ground.phase }, { on := 3, ground := Ground.phase }, { on := 4, ground := Ground.phase }, { on := 5, ground := Ground.phase }, { on := 6, ground := Ground.phase }, { on := 7, ground := Ground.phase }, { on := 8, ground := Ground.phase }, { on := 9, ground := Ground.phase }, { on := 10, ground := Ground.phase }, { on := 11, ground := Ground.phase }, { on := 12, ground := Ground.phase }, { on := 13, ground := Ground.phase }, { on := 14, ground := Ground.phase }, { on := 15, ground := Ground.phase }, { on := 16, ground := Ground.phase }, { on := 17, ground := Ground.phase }, { on := 18, ground := Ground.phase }, { on := 19, ground := Ground.phase }, { on := 20, ground := Ground.phase }, { on := 21, ground := Ground.phase }, { on := 22, ground := Ground.phase }, { on := 23, ground := Ground.phase }, { on := 24, ground := Ground.phase }, { on := 25, ground := Ground.phase }, { on := 26, ground := Ground.phase }, { on := 27, ground := Ground.phase }, { on := 28, ground := Ground.phase }, { on := 29, ground := Ground.phase }, { on := 30, ground := Ground.phase }, { on := 31, ground := Ground.phase }].append [{ on := 32, ground := Ground.phase }, { on := 33, ground := Ground.phase }, { on := 34, ground := Ground.phase }, { on := 35, ground := Ground.phase }, { on := 36, ground := Ground.phase }, { on := 37, ground := Ground.phase }, { on := 38, ground := Ground.phase }, { on := 39, ground := Ground.phase }, { on := 40, ground := Ground.phase }, { on := 41, ground := Ground.phase }, { on := 42, ground := Ground.phase }, { on := 43, ground := Ground.phase }, { on := 44, ground := Ground.phase }, { on := 45, ground := Ground.phase }, { on := 46, ground := Ground.phase }, { on := 47, ground := Ground.phase }, { on := 48, ground := Ground.phase }, { on := 49, ground := Ground.phase }, { on := 50, ground := Ground.phase }, { on := 51, ground := Ground.phase }, { on := 52, ground := Ground.phase }, { on := 53, ground := Ground.phase }, { on := 54, ground := Ground.phase }, { on := 55, ground := Ground.phase }, { on := 56, ground := Ground.phase }, { on := 57, ground := Ground.phase }, { on := 58, ground := Ground.phase }, { on := 59, ground := Ground.phase }, { on := 60, ground := Ground.phase }, { on := 61, ground := Ground.phase }, { on := 62, ground := Ground.phase }, { on := 63, ground := Ground.phase }, { on := 64, ground := Ground.phase }, { on := 65, ground := Ground.phase }]).toArray, guard := none }) (v := ?v66_5054) rfl (by kernel_rfl) (by kernel_rfl) (by kernel_rfl) (fun _ _ _ h => h) (Or.inl ⟨by rfl, ?h66_5054⟩) (by assumption) ?r66_5054
    case h66_5054 =>
      intro W hSW
      try dsimp only at hSW
      go_simp
      try with_reducible rfl
    try simp only [Act.put, List.setIfInBounds_toArray, List.set_cons_zero, List.set_cons_succ]
    refine wpAnyH_done (by kernel_rfl) ?_ _
    go_wp2_with fail
    go_ret
    exact ⟨rfl, hb.trans (hv42.mono hb.size)⟩
end Go.Proofs.Ytfihdenapjmaeaa
