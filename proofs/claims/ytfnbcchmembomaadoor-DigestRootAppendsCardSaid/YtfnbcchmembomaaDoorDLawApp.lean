/- The walk of the statement DigestRootAppends: it returns true. Conditions: what the arguments are, the tables of SHA-256. -/
import Derived.Test.YtfnbcchmembomaaDoorDSan
import Derived.Test.YtfnbcchmembomaaDoorPairV
import Derived.Test.YtfnbcchmembomaaDoorPreW
namespace Go.Proofs.YtfnbcchmembomaaDoor
set_option linter.unusedVariables false
set_option linter.unusedSimpArgs false
open Go.RowKit
theorem run_build0 (w : World) : (Instr.buildSlice 34 0 #[]).run Tryd.prog w = .ok (.slice (some ⟨w.heap.size, 0, none⟩) 0 0) (w.alloc (.cells #[] 30)) := by go_simp
theorem wp_buildS0 {o : Oper} {a : Act} {w : World} {K : Act → World → Prop} {Q : Exit → Act → World → Prop} (ho : o.op = .buildSlice 34 0 #[])
    (h : ∀ w', Below w.heap.size w w' → w'.ownsRow w.heap.size 30 16 (.slice (some ⟨w.heap.size, 0, none⟩) 0 0) 0 [] → w'.heap.size = w.heap.size + 1 → K (a.put o.dst (.slice (some ⟨w.heap.size, 0, none⟩) 0 0)) w') : o.wp Tryd.prog a w K Q := by
  unfold Oper.wp execOp
  simp only [ho, List.map_toArray, List.map_nil, Sem.run_bind, Sem.run_pure, Result.andThen_ok, run_build0]
  exact h _ ((Below.refl _ _).alloc (Nat.le_refl _) _) (own_zero w _ _ _ (Nat.le_refl _)) (alloc_size1 _ _)
theorem dvs_snoc' (l : List (List UInt8)) (d : List UInt8) : dvs l ++ bvs d = dvs (l ++ [d]) := by simp [dvs, List.flatMap_append]
theorem dvs_one (l : List (List UInt8)) : ∀ u ∈ dvs l, u.oneCell' = true := fun u hu => by
  obtain ⟨d, _, h⟩ := List.mem_flatMap.1 hu
  exact List.all_eq_true.1 (bvs_all d) u h
set_option maxRecDepth 100000 in
set_option maxHeartbeats 4000000 in
theorem lawApp (A : Option Addr) (n c : Nat) (l : List (List UInt8)) (hl : l.length = n) (hnc : n ≤ c) (hc : c ≤ 140737488355328) (hd : D16 l) (d : List UInt8) (hd16 : d.length = 16) (ot : List UInt8) (hot : ot.length = 16) (w : World) (hr : Rd w w.heap.size 16 A n (dvs l)) (hT : Tabs w) (hR : RTab w) :
    Calls Tryd.prog 9 #[.slice A n c, dv d, dv ot] w fun e w' => e = .returned (.bool true) ∧ Below w.heap.size w w' := by
  have h2 := rows2 w 30 30 (bvs d) (bvs ot)
  have hbw : Below w.heap.size w ((w.alloc (.cells (bvs d).toArray 30)).alloc (.cells (bvs ot).toArray 30)) := ((Below.refl _ w).alloc (Nat.le_refl _) _).alloc (by rw [alloc_size1]; omega) _
  obtain ⟨W0, hW0⟩ : ∃ W0, ((w.alloc (.cells (bvs d).toArray 30)).alloc (.cells (bvs ot).toArray 30)) = W0 := ⟨_, rfl⟩
  rw [hW0] at h2 hbw
  have r4 := h2.1
  have r5 := h2.2
  have HW0 := Lib.hid hW0
  clear h2 hW0
  have HL := Lib.hid hl
  have HD := Lib.hid hd
  clear hl hd
  by_cases hbig : 60 < n
  · have hb' : (60 : Int) < n := by omega
    have hO := fun (W : World) (h : Below w.heap.size w W) => root_any 0 0 none [] rfl (by omega) 0 W (Rd.nil_ _ _ _ _) (by intro d hd; cases hd) (Nat.zero_le _) (Nat.le_refl _) (by unfold maxLen; omega) (hT.below h)
    have hRO := fun (W : World) (h : Below w.heap.size w W) => refOf_any 1 none 0 0 [] rfl 0 W (Rd.nil_ _ _ _ _) (Nat.zero_le _) (by decide) (hR.below h)
    rw [Mk.root_zero rfl] at hO
    have h16 := Mk.short_len (Mk.input 1 [])
    rw [show Mk.short (Mk.input 1 []) = Mk.of 1 [] from rfl] at h16
    generalize Mk.of 1 [] = rt at *
    have hq : ∀ W, (binOp .eql 30 (.agg (bvs rt).toArray) (.agg (bvs rt).toArray)).run Tryd.prog W = .ok (.bool true) W := fun W => by rw [run_eql_digE W h16 h16]; simp
    have HO := Lib.hid hO
    have HRO := Lib.hid hRO
    clear hO hRO h16
    go_enter Tryd.func9, Tryd.ntmps9
    go_wp2_with (first
      | (go_at_call 10; rw [HW0.out]; refine (sanity_any _ (hT.below hbw)).mono ?_; rintro e w1 ⟨rfl, b1⟩; have q1 := hbw.trans (b1.mono hbw.size))
      | (go_at_call 19; refine (HO.out _ q1).mono ?_; rintro e w2 ⟨rfl, b2⟩; have q2 := q1.trans (b2.mono q1.size))
      | (go_at_call 14; refine (HRO.out _ q2).mono ?_; rintro e w3 ⟨rfl, b3⟩; have q3 := q2.trans (b3.mono q2.size))
      | fail)
    go_ret
    exact ⟨rfl, q3⟩
  have hb' : ¬ (60 : Int) < n := by omega
  by_cases hn0 : n = 0
  · subst hn0
    have hO := fun (W : World) (h : Below w.heap.size w W) => root_any 0 0 none [] rfl (by omega) 0 W (Rd.nil_ _ _ _ _) (by intro d hd; cases hd) (Nat.zero_le _) (Nat.le_refl _) (by unfold maxLen; omega) (hT.below h)
    have hRO := fun (W : World) (h : Below w.heap.size w W) => refOf_any 1 none 0 0 [] rfl 0 W (Rd.nil_ _ _ _ _) (Nat.zero_le _) (by decide) (hR.below h)
    rw [Mk.root_zero rfl] at hO
    have h16 := Mk.short_len (Mk.input 1 [])
    rw [show Mk.short (Mk.input 1 []) = Mk.of 1 [] from rfl] at h16
    generalize Mk.of 1 [] = rt at *
    have hq : ∀ W, (binOp .eql 30 (.agg (bvs rt).toArray) (.agg (bvs rt).toArray)).run Tryd.prog W = .ok (.bool true) W := fun W => by rw [run_eql_digE W h16 h16]; simp
    have HO := Lib.hid hO
    have HRO := Lib.hid hRO
    clear hO hRO h16
    go_enter Tryd.func9, Tryd.ntmps9
    go_wp2_with (first
      | (go_at_call 10; rw [HW0.out]; refine (sanity_any _ (hT.below hbw)).mono ?_; rintro e w1 ⟨rfl, b1⟩; have q1 := hbw.trans (b1.mono hbw.size))
      | (go_at_call 19; refine (HO.out _ q1).mono ?_; rintro e w2 ⟨rfl, b2⟩; have q2 := q1.trans (b2.mono q1.size))
      | (go_at_call 14; refine (HRO.out _ q2).mono ?_; rintro e w3 ⟨rfl, b3⟩; have q3 := q2.trans (b3.mono q2.size))
      | fail)
    go_ret
    exact ⟨rfl, q3⟩
  have hne0 : ((n : Int) == 0) = false := by simp; omega
  have HD16 := Lib.hid hd16
  have HOT := Lib.hid hot
  clear hd16 hot
  have hcm : c ≤ maxLen := by unfold maxLen; omega
  have HAL : Hid ((l ++ [d]).length = n + 1) := Lib.hid (by rw [List.length_append, HL.out]; rfl)
  have HAD : Hid (D16 (l ++ [d])) := Lib.hid (HD.out.snoc HD16.out)
  have hO := fun (W : World) (h : Below w.heap.size w W) => root_any n c A l HL.out (by omega) w.heap.size W (hr.below h) HD.out h.size hnc hcm (hT.below h)
  have hO2 := fun (W : World) (h : Below w.heap.size w W) (A' : Option Addr) (c' : Nat) (hc1 : n + 1 ≤ c') (hc2 : c' ≤ maxLen) (B : Nat) (hB : B ≤ W.heap.size) (rd : Rd W B 16 A' (n + 1) (dvs (l ++ [d]))) => root_any (n + 1) c' A' (l ++ [d]) HAL.out (by omega) B W rd HAD.out hB hc1 hc2 (hT.below h)
  have hPP := fun (W : World) (h : Below w.heap.size w W) (A' : Option Addr) (c' : Nat) (hc1 : n + 1 ≤ c') (hc2 : c' ≤ maxLen) (B : Nat) (hB : B ≤ W.heap.size) (rd : Rd W B 16 A' (n + 1) (dvs (l ++ [d]))) => provePrefix_ok (n + 1) c' n A' (l ++ [d]) HAL.out (by omega) HAD.out hc1 hc2 (by omega) (by omega) B W (hT.below h) rd hB
  have h16a := Mk.root_len l
  have h16b := Mk.root_len (l ++ [d])
  have hpo := Mk.pref_ok (l ++ [d]) n (by omega) (by rw [HAL.out]; omega)
  rw [List.take_left' HL.out, HAL.out] at hpo
  have hp16 := Mk.pref_16 (l ++ [d]) n
  have hpl : (Mk.pref (l ++ [d]) n).length ≤ 1000 := by
    have := Mk.prefD_len (l ++ [d]) n true (by omega) (by rw [HAL.out]; omega)
    rw [HAL.out] at this
    simp only [Mk.pref, List.length_reverse]; omega
  generalize Mk.root l = ra at *
  generalize Mk.root (l ++ [d]) = rb at *
  generalize Mk.pref (l ++ [d]) n = pz at *
  have hV := fun (x : List UInt8) (hx : x.length = 16) (W : World) (h : Below w.heap.size w W) (A' : Option Addr) (m' c' : Nat) (hm : m' = pz.length) (hmc : m' ≤ c') (hcm : c' ≤ maxLen) (B : Nat) (hB : B ≤ W.heap.size) (rd : Rd W B 16 A' m' (dvs pz)) => vpre_in (n + 1) n (by omega) (by omega) (by omega) x rb hx h16b A' m' c' hmc hcm pz hm.symm hp16 B W rd hB (hT.below h)
  have hRV := fun (x : List UInt8) (hx : x.length = 16) (W : World) (h : Below w.heap.size w W) (A' : Option Addr) (m' c' : Nat) (hm : m' = pz.length) (hmc : m' ≤ c') (hcm : c' ≤ maxLen) (B : Nat) (hB : B ≤ W.heap.size) (rd : Rd W B 16 A' m' (dvs pz)) => refVPre_in (n + 1) n (by omega) (by omega) (by omega) x rb hx h16b A' m' c' hmc (by unfold maxLen at hcm; omega) (by rw [hm]; omega) pz hm.symm hp16 B W rd hB (hR.below h)
  have hV1 := hV ra h16a
  have hV2 := hV ot HOT.out
  have hRV2 := hRV ot HOT.out
  rw [hpo] at hV1
  have hfo : ot = ra → Mk.verifyN ot rb n (n + 1) pz = true := fun e => by rw [e]; exact hpo
  have e1 : ((n + 1 : Nat) : Int) = (n : Int) + 1 := by push_cast; rfl
  rw [e1] at hV1 hV2 hRV2
  generalize Mk.verifyN ot rb n (n + 1) pz = fg at *
  have HO := Lib.hid hO
  have HO2 := Lib.hid hO2
  have HPP := Lib.hid hPP
  have HV1 := Lib.hid hV1
  have HV2 := Lib.hid hV2
  have HRV2 := Lib.hid hRV2
  have HA16 := Lib.hid h16a
  have HB16 := Lib.hid h16b
  obtain ⟨eb, heb⟩ : ∃ eb, (ot == ra) = eb := ⟨_, rfl⟩
  have HFO : Hid (eb = true → fg = true) := Lib.hid fun e => hfo (by rw [e] at heb; simpa using heb)
  have hq : ∀ W, (binOp .neq 30 (.agg (bvs ot).toArray) (.agg (bvs ra).toArray)).run Tryd.prog W = .ok (.bool (!eb)) W := fun W => by rw [← heb]; exact run_neq_digE W HOT.out HA16.out
  clear hO hO2 hPP h16a h16b hpo hp16 hV hRV hV1 hV2 hRV2 hfo hpl heb e1
  go_enter Tryd.func9, Tryd.ntmps9
  go_wp2_with (go_at_call 10; rw [HW0.out]; refine (sanity_any _ (hT.below hbw)).mono ?_; rintro e w1 ⟨rfl, b1⟩; have q1 := hbw.trans (b1.mono hbw.size); have r41 := r4.below' b1; have r51 := r5.below' b1)
  have rd1 := (hr.below q1).more q1.size
  have hdr : w1.drew.heap.size = w1.heap.size := rfl
  have hv0 : Below w1.heap.size w1 w1.drew := (Below.refl _ _).drew
  refine wp_region_held_drew (S := fun W => Below w1.heap.size w1 W) (by kernel_rfl) (hv0) (fun hHeld => ?_)
  refine wpAnyH_take (i := 1) (oi := { dst := some 30, op := Op.move (Operand.tmp 0), type := 34, pos := "law.go:137", after := #[], guard := none }) (v := ?v1_1) rfl (by kernel_rfl) (by kernel_rfl) (by kernel_rfl) (fun _ _ _ h => h) (Or.inl ⟨by rfl, ?h1_1⟩) (by assumption) ?r1_1
  case h1_1 =>
    intro W hSW
    try dsimp only at hSW
    go_simp
    try with_reducible rfl
  try simp only [Act.put, List.setIfInBounds_toArray, List.set_cons_zero, List.set_cons_succ]
  refine wpAnyH_take (i := 3) (oi := { dst := some 32, op := Op.load 30 (Operand.tmp 4), type := 30, pos := "law.go:137", after := #[], guard := none }) (v := _) rfl (by kernel_rfl) (by kernel_rfl) (by kernel_rfl) (fun _ _ _ h => h) (yi_row rfl _ (.tmp 4) rfl rfl (fun W hW => r41.below' hW) Tryd.underlying30 (by rw [bvs_len, HD16.out]; exact size16)) (by assumption) ?_
  try simp only [Act.put, List.setIfInBounds_toArray, List.set_cons_zero, List.set_cons_succ]
  refine wpAnyH_ready (rs := [0, 4]) (by kernel_rfl) (by simp) ?_
  refine AllReadyH.cons (o := { dst := some 29, op := Op.buildSlice 34 0 #[], type := 34, pos := "law.go:137", after := #[], guard := none }) rfl (fun K hK => ?_) ?_
  · skip
    rw [if_pos (by rfl)]
    refine wp_buildS0 rfl ?_
    intro w2 bb2 oA zz2
    have oA := own_base oA (b' := w1.heap.size) hv0.size
    try have lD2 := lD
    try have rD := (rD.below bb2).more bb2.size
    have hv2 : Below w1.heap.size w1 w2 := hv0.trans (bb2.mono hv0.size)
    refine hK.out _ _ (hv2) (fun hHeld => ?_)
    clear hK K
    try simp only [Act.put, List.setIfInBounds_toArray, List.set_cons_zero, List.set_cons_succ]
    refine wpAnyH_ready (rs := [2, 4]) (by kernel_rfl) (by simp) ?_
    refine AllReadyH.cons (o := { dst := some 31, op := Op.call { callee := Callee.builtin Builtin.append, args := #[Operand.tmp 29, Operand.tmp 30], argTypes := #[34, 34] }, type := 34, pos := "law.go:137", after := #[{ on := 0, ground := Ground.data }, { on := 1, ground := Ground.data }], guard := none }) rfl (fun K hK => ?_) ?_
    · skip
      rw [if_pos (by rfl)]
      refine wp_app _ (.tmp 29) (.tmp 30) 34 rfl w1.heap.size 30 _ 16 16 digE _ 0 0 [] rfl oA w1.heap.size A n c (dvs l) rfl (rd1.below hv2) (dvs_one _) (by omega) (by unfold maxLen; omega) hv2.size ?_
      intro AB cB w3 oB gB _
      simp only [Nat.zero_add, List.nil_append] at oB
      simp only [Nat.zero_add]
      have hv3 : Below w1.heap.size w1 w3 := hv2.grown gB hv2.size (fun j hj => (oA.lt j hj).1)
      try have rD := (rD.grown_far gB (Nat.le_refl _) (fun a ha e => by cases ha; first | exact absurd (hne _ e.symm) (Nat.lt_irrefl _) | exact absurd (Option.some.inj e) (Nat.ne_of_lt lD))).more gB.size
      refine hK.out _ _ (hv3) (fun hHeld => ?_)
      clear hK K
      try simp only [Act.put, List.setIfInBounds_toArray, List.set_cons_zero, List.set_cons_succ]
      refine wpAnyH_ready (rs := [4]) (by kernel_rfl) (by simp) ?_
      refine AllReadyH.cons (o := { dst := some 33, op := Op.buildSlice 34 1 #[(0, Operand.tmp 32)], type := 34, pos := "law.go:137", after := #[{ on := 3, ground := Ground.data }], guard := none }) rfl (fun K hK => ?_) AllReadyH.nil
      rw [if_pos (by rfl)]
      refine wp_build16 (.tmp 32) rfl (bvs d) (by rw [bvs_len]; exact HD16.out) rfl ?_
      obtain ⟨w4, hw4⟩ : ∃ w', w3.alloc (.cells (bvs d).toArray 30) = w' := ⟨_, rfl⟩
      rw [hw4]
      have bb4 : Below w3.heap.size w3 w4 := by rw [← hw4]; exact (Below.refl _ _).alloc (Nat.le_refl _) _
      have rD : Rd w4 w4.heap.size 16 (some ⟨w3.heap.size, 0, none⟩) 1 (bvs d) := by rw [← hw4, alloc_size1]; exact Rd.new w3 (bvs d) 30 1 (by rw [bvs_len, HD16.out])
      have lD : w3.heap.size < w4.heap.size := by rw [← hw4, alloc_size1]; omega
      try have hne := fun (j : Nat) hj => (oA.lt j hj).2
      try have oA := own_below oA bb4
      try have oB := own_below oB bb4
      clear hw4
      have hv4 : Below w1.heap.size w1 w4 := hv3.trans (bb4.mono hv3.size)
      refine hK.out _ _ (hv4) (fun hHeld => ?_)
      clear hK K
      try simp only [Act.put, List.setIfInBounds_toArray, List.set_cons_zero, List.set_cons_succ]
      refine wpAnyH_ready (rs := [5]) (by kernel_rfl) (by simp) ?_
      refine AllReadyH.cons (o := { dst := some 34, op := Op.call { callee := Callee.builtin Builtin.append, args := #[Operand.tmp 31, Operand.tmp 33], argTypes := #[34, 34] }, type := 34, pos := "law.go:137", after := #[{ on := 2, ground := Ground.data }, { on := 4, ground := Ground.data }, { on := 2, ground := Ground.chain }], guard := none }) rfl (fun K hK => ?_) AllReadyH.nil
      rw [if_pos (by rfl)]
      refine wp_app _ (.tmp 31) (.tmp 33) 34 rfl w1.heap.size 30 _ 16 16 digE AB n cB (dvs l) rfl oB _ _ 1 1 (bvs d) rfl rD (List.all_eq_true.1 (bvs_all _)) (by omega) (by unfold maxLen; omega) hv4.size ?_
      intro AC cC w5 oC gC _
      rw [dvs_snoc'] at oC
      have hv5 : Below w1.heap.size w1 w5 := hv4.grown gC hv4.size (fun j hj => (oB.lt j hj).1)
      refine hK.out _ _ (hv5) (fun hHeld => ?_)
      clear hK K
      try simp only [Act.put, List.setIfInBounds_toArray, List.set_cons_zero, List.set_cons_succ]
      refine wpAnyH_take (i := 6) (oi := { dst := some 8, op := Op.assign (Operand.tmp 34), type := 34, pos := "law.go:137", after := #[{ on := 5, ground := Ground.data }, { on := 5, ground := Ground.chain }, { on := 0, ground := Ground.phase }, { on := 1, ground := Ground.phase }, { on := 2, ground := Ground.phase }, { on := 3, ground := Ground.phase }, { on := 4, ground := Ground.phase }, { on := 5, ground := Ground.phase }], guard := none }) (v := ?v6_3) rfl (by kernel_rfl) (by kernel_rfl) (by kernel_rfl) (fun _ _ _ h => h) (Or.inl ⟨by rfl, ?h6_3⟩) (by assumption) ?r6_3
      case h6_3 =>
        intro W hSW
        try dsimp only at hSW
        go_simp
        try with_reducible rfl
      try simp only [Act.put, List.setIfInBounds_toArray, List.set_cons_zero, List.set_cons_succ]
      refine wpAnyH_done (by kernel_rfl) ?_ _
      have qa := q1.trans (hv5.mono q1.size)
      have capC := own_cap oC
      have rdC := Rd.of_own oC
      have r5a := r51.below' hv5
      have hk0 := (Below.refl w5.heap.size w5)
      cases eb with
      | false =>
        go_wp2_with (first
          | (have tok := rA3; go_at_call 19; refine (HO2.out _ (qa.trans (k3.mono qa.size)) AC cC capC.1 capC.2 _ k3.size (rdC.below k3)).mono ?_; rintro e u5 ⟨rfl, c5⟩; have k5 := k3.trans (c5.mono k3.size); have rA5 := rA3.below' c5; clear tok)
          | (go_at_call 19; refine (HO.out _ qa).mono ?_; rintro e u1 ⟨rfl, k1⟩)
          | (have tok := k5; refine wpList_allocRow rfl _ rfl _ info16 ?_; intro u6 rb6 c6 z6; have k6 := k5.trans (c6.mono k5.size); have rA6 := rA5.below' c6; clear z6 tok)
          | (refine wpList_allocRow rfl _ rfl _ info16 ?_; intro u2 rb2 c2 z2; have k2 := k1.trans (c2.mono k1.size); clear z2)
          | (refine wpList_storeRow rfl _ (.tmp 9) (.tmp 36) rfl rb2 rfl rfl (by rw [bvs_len, HA16.out]; exact size16) (by rw [bvs_len, HA16.out, List.length_replicate]) (bvs_all _) ?_; intro u3 rA3 g3 z3; have k3 := k2.grown g3 k2.size (fun j hj => by have hj := Option.some.inj hj; have := k1.size; omega); clear z3)
          | (refine wpList_storeRow rfl _ (.tmp 10) (.tmp 38) rfl rb6 rfl rfl (by rw [bvs_len, HB16.out]; exact size16) (by rw [bvs_len, HB16.out, List.length_replicate]) (bvs_all _) ?_; intro u7 rB7 g7 z7; have k7 := k6.grown g7 k6.size (fun j hj => by have hj := Option.some.inj hj; have := k5.size; omega); have rA7 := rA6.grown g7 (fun e => by have e := Option.some.inj e; have := rA5.lt; omega); clear z7)
          | (go_at_call 17; refine (HPP.out _ (qa.trans (k7.mono qa.size)) AC cC capC.1 capC.2 _ k7.size (rdC.below k7)).mono ?_; rintro e u8 ⟨A8, m8, c8', rfl, hm8, hmc8, hcm8, rd8, c8⟩; have HM8 := Lib.hid hm8; have k8 := k7.trans (c8.mono k7.size); have rA8 := rA7.below' c8; have rB8 := rB7.below' c8; clear hm8)
          | (have tok := k9; go_at_call 28; refine (HV2.out _ (qa.trans (k9.mono qa.size)) A8 m8 c8' HM8.out hmc8 hcm8 _ c9.size (rd8.below c9)).mono ?_; rintro e u10 ⟨rfl, c10⟩; have k10 := k9.trans (c10.mono k9.size); have rA10 := rA9.below' c10; have rB10 := rB9.below' c10; have r510 := r5a.below' k10; clear tok)
          | (go_at_call 28; refine (HV1.out _ (qa.trans (k8.mono qa.size)) A8 m8 c8' HM8.out hmc8 hcm8 _ (Nat.le_refl _) rd8).mono ?_; rintro e u9 ⟨rfl, c9⟩; have k9 := k8.trans (c9.mono k8.size); have rA9 := rA8.below' c9; have rB9 := rB8.below' c9; have r59 := r5a.below' k9)
          | (go_at_call 29; refine (HRV2.out _ (qa.trans (k10.mono qa.size)) A8 m8 c8' HM8.out hmc8 hcm8 _ (Nat.le_trans c9.size c10.size) ((rd8.below c9).below (c10.mono c9.size))).mono ?_; rintro e u11 ⟨rfl, c11⟩; have k11 := k10.trans (c11.mono k10.size); have rA11 := rA10.below' c11; have r511 := r5a.below' k11)
          | (refine wpList_loadRowG rfl _ (.tmp 9) rfl (l := bvs ra) (by first | exact rA8 | exact rA11) rfl Tryd.underlying30 (by rw [bvs_len, HA16.out]; exact size16) ?_)
          | (refine wpList_loadRowG rfl _ (.tmp 10) rfl (l := bvs rb) (by first | exact rB8 | exact rB9 | exact rB10) rfl Tryd.underlying30 (by rw [bvs_len, HB16.out]; exact size16) ?_)
          | (refine wpList_loadRowG rfl _ (.tmp 5) rfl (l := bvs ot) (by first | exact r59 | exact r510 | exact r511) rfl Tryd.underlying30 (by rw [bvs_len, HOT.out]; exact size16) ?_)
          | fail)
        go_ret
        exact ⟨rfl, qa.trans (k11.mono qa.size)⟩
      | true =>
        have hfg := HFO.out rfl
        subst hfg
        go_wp2_with (first
          | (have tok := rA3; go_at_call 19; refine (HO2.out _ (qa.trans (k3.mono qa.size)) AC cC capC.1 capC.2 _ k3.size (rdC.below k3)).mono ?_; rintro e u5 ⟨rfl, c5⟩; have k5 := k3.trans (c5.mono k3.size); have rA5 := rA3.below' c5; clear tok)
          | (go_at_call 19; refine (HO.out _ qa).mono ?_; rintro e u1 ⟨rfl, k1⟩)
          | (have tok := k5; refine wpList_allocRow rfl _ rfl _ info16 ?_; intro u6 rb6 c6 z6; have k6 := k5.trans (c6.mono k5.size); have rA6 := rA5.below' c6; clear z6 tok)
          | (refine wpList_allocRow rfl _ rfl _ info16 ?_; intro u2 rb2 c2 z2; have k2 := k1.trans (c2.mono k1.size); clear z2)
          | (refine wpList_storeRow rfl _ (.tmp 9) (.tmp 36) rfl rb2 rfl rfl (by rw [bvs_len, HA16.out]; exact size16) (by rw [bvs_len, HA16.out, List.length_replicate]) (bvs_all _) ?_; intro u3 rA3 g3 z3; have k3 := k2.grown g3 k2.size (fun j hj => by have hj := Option.some.inj hj; have := k1.size; omega); clear z3)
          | (refine wpList_storeRow rfl _ (.tmp 10) (.tmp 38) rfl rb6 rfl rfl (by rw [bvs_len, HB16.out]; exact size16) (by rw [bvs_len, HB16.out, List.length_replicate]) (bvs_all _) ?_; intro u7 rB7 g7 z7; have k7 := k6.grown g7 k6.size (fun j hj => by have hj := Option.some.inj hj; have := k5.size; omega); have rA7 := rA6.grown g7 (fun e => by have e := Option.some.inj e; have := rA5.lt; omega); clear z7)
          | (go_at_call 17; refine (HPP.out _ (qa.trans (k7.mono qa.size)) AC cC capC.1 capC.2 _ k7.size (rdC.below k7)).mono ?_; rintro e u8 ⟨A8, m8, c8', rfl, hm8, hmc8, hcm8, rd8, c8⟩; have HM8 := Lib.hid hm8; have k8 := k7.trans (c8.mono k7.size); have rA8 := rA7.below' c8; have rB8 := rB7.below' c8; clear hm8)
          | (have tok := k9; go_at_call 28; refine (HV2.out _ (qa.trans (k9.mono qa.size)) A8 m8 c8' HM8.out hmc8 hcm8 _ c9.size (rd8.below c9)).mono ?_; rintro e u10 ⟨rfl, c10⟩; have k10 := k9.trans (c10.mono k9.size); have rA10 := rA9.below' c10; have rB10 := rB9.below' c10; have r510 := r5a.below' k10; clear tok)
          | (go_at_call 28; refine (HV1.out _ (qa.trans (k8.mono qa.size)) A8 m8 c8' HM8.out hmc8 hcm8 _ (Nat.le_refl _) rd8).mono ?_; rintro e u9 ⟨rfl, c9⟩; have k9 := k8.trans (c9.mono k8.size); have rA9 := rA8.below' c9; have rB9 := rB8.below' c9; have r59 := r5a.below' k9)
          | (go_at_call 29; refine (HRV2.out _ (qa.trans (k10.mono qa.size)) A8 m8 c8' HM8.out hmc8 hcm8 _ (Nat.le_trans c9.size c10.size) ((rd8.below c9).below (c10.mono c9.size))).mono ?_; rintro e u11 ⟨rfl, c11⟩; have k11 := k10.trans (c11.mono k10.size); have rA11 := rA10.below' c11; have r511 := r5a.below' k11)
          | (refine wpList_loadRowG rfl _ (.tmp 9) rfl (l := bvs ra) (by first | exact rA8 | exact rA11) rfl Tryd.underlying30 (by rw [bvs_len, HA16.out]; exact size16) ?_)
          | (refine wpList_loadRowG rfl _ (.tmp 10) rfl (l := bvs rb) (by first | exact rB8 | exact rB9 | exact rB10) rfl Tryd.underlying30 (by rw [bvs_len, HB16.out]; exact size16) ?_)
          | (refine wpList_loadRowG rfl _ (.tmp 5) rfl (l := bvs ot) (by first | exact r59 | exact r510 | exact r511) rfl Tryd.underlying30 (by rw [bvs_len, HOT.out]; exact size16) ?_)
          | fail)
        go_ret
        exact ⟨rfl, qa.trans (k11.mono qa.size)⟩
    · skip
      refine AllReadyH.cons (o := { dst := some 33, op := Op.buildSlice 34 1 #[(0, Operand.tmp 32)], type := 34, pos := "law.go:137", after := #[{ on := 3, ground := Ground.data }], guard := none }) rfl (fun K hK => ?_) AllReadyH.nil
      rw [if_pos (by rfl)]
      refine wp_build16 (.tmp 32) rfl (bvs d) (by rw [bvs_len]; exact HD16.out) rfl ?_
      obtain ⟨w3, hw3⟩ : ∃ w', w2.alloc (.cells (bvs d).toArray 30) = w' := ⟨_, rfl⟩
      rw [hw3]
      have bb3 : Below w2.heap.size w2 w3 := by rw [← hw3]; exact (Below.refl _ _).alloc (Nat.le_refl _) _
      have rD : Rd w3 w3.heap.size 16 (some ⟨w2.heap.size, 0, none⟩) 1 (bvs d) := by rw [← hw3, alloc_size1]; exact Rd.new w2 (bvs d) 30 1 (by rw [bvs_len, HD16.out])
      have lD : w2.heap.size < w3.heap.size := by rw [← hw3, alloc_size1]; omega
      try have hne := fun (j : Nat) hj => (oA.lt j hj).2
      try have oA := own_below oA bb3
      try have oB := own_below oB bb3
      clear hw3
      have hv3 : Below w1.heap.size w1 w3 := hv2.trans (bb3.mono hv2.size)
      refine hK.out _ _ (hv3) (fun hHeld => ?_)
      clear hK K
      try simp only [Act.put, List.setIfInBounds_toArray, List.set_cons_zero, List.set_cons_succ]
      refine wpAnyH_ready (rs := [2]) (by kernel_rfl) (by simp) ?_
      refine AllReadyH.cons (o := { dst := some 31, op := Op.call { callee := Callee.builtin Builtin.append, args := #[Operand.tmp 29, Operand.tmp 30], argTypes := #[34, 34] }, type := 34, pos := "law.go:137", after := #[{ on := 0, ground := Ground.data }, { on := 1, ground := Ground.data }], guard := none }) rfl (fun K hK => ?_) AllReadyH.nil
      rw [if_pos (by rfl)]
      refine wp_app _ (.tmp 29) (.tmp 30) 34 rfl w1.heap.size 30 _ 16 16 digE _ 0 0 [] rfl oA w1.heap.size A n c (dvs l) rfl (rd1.below hv3) (dvs_one _) (by omega) (by unfold maxLen; omega) hv3.size ?_
      intro AB cB w4 oB gB _
      simp only [Nat.zero_add, List.nil_append] at oB
      simp only [Nat.zero_add]
      have hv4 : Below w1.heap.size w1 w4 := hv3.grown gB hv3.size (fun j hj => (oA.lt j hj).1)
      try have rD := (rD.grown_far gB (Nat.le_refl _) (fun a ha e => by cases ha; first | exact absurd (hne _ e.symm) (Nat.lt_irrefl _) | exact absurd (Option.some.inj e) (Nat.ne_of_lt lD))).more gB.size
      refine hK.out _ _ (hv4) (fun hHeld => ?_)
      clear hK K
      try simp only [Act.put, List.setIfInBounds_toArray, List.set_cons_zero, List.set_cons_succ]
      refine wpAnyH_ready (rs := [5]) (by kernel_rfl) (by simp) ?_
      refine AllReadyH.cons (o := { dst := some 34, op := Op.call { callee := Callee.builtin Builtin.append, args := #[Operand.tmp 31, Operand.tmp 33], argTypes := #[34, 34] }, type := 34, pos := "law.go:137", after := #[{ on := 2, ground := Ground.data }, { on := 4, ground := Ground.data }, { on := 2, ground := Ground.chain }], guard := none }) rfl (fun K hK => ?_) AllReadyH.nil
      rw [if_pos (by rfl)]
      refine wp_app _ (.tmp 31) (.tmp 33) 34 rfl w1.heap.size 30 _ 16 16 digE AB n cB (dvs l) rfl oB _ _ 1 1 (bvs d) rfl rD (List.all_eq_true.1 (bvs_all _)) (by omega) (by unfold maxLen; omega) hv4.size ?_
      intro AC cC w5 oC gC _
      rw [dvs_snoc'] at oC
      have hv5 : Below w1.heap.size w1 w5 := hv4.grown gC hv4.size (fun j hj => (oB.lt j hj).1)
      refine hK.out _ _ (hv5) (fun hHeld => ?_)
      clear hK K
      try simp only [Act.put, List.setIfInBounds_toArray, List.set_cons_zero, List.set_cons_succ]
      refine wpAnyH_take (i := 6) (oi := { dst := some 8, op := Op.assign (Operand.tmp 34), type := 34, pos := "law.go:137", after := #[{ on := 5, ground := Ground.data }, { on := 5, ground := Ground.chain }, { on := 0, ground := Ground.phase }, { on := 1, ground := Ground.phase }, { on := 2, ground := Ground.phase }, { on := 3, ground := Ground.phase }, { on := 4, ground := Ground.phase }, { on := 5, ground := Ground.phase }], guard := none }) (v := ?v6_4) rfl (by kernel_rfl) (by kernel_rfl) (by kernel_rfl) (fun _ _ _ h => h) (Or.inl ⟨by rfl, ?h6_4⟩) (by assumption) ?r6_4
      case h6_4 =>
        intro W hSW
        try dsimp only at hSW
        go_simp
        try with_reducible rfl
      try simp only [Act.put, List.setIfInBounds_toArray, List.set_cons_zero, List.set_cons_succ]
      refine wpAnyH_done (by kernel_rfl) ?_ _
      have qa := q1.trans (hv5.mono q1.size)
      have capC := own_cap oC
      have rdC := Rd.of_own oC
      have r5a := r51.below' hv5
      have hk0 := (Below.refl w5.heap.size w5)
      cases eb with
      | false =>
        go_wp2_with (first
          | (have tok := rA3; go_at_call 19; refine (HO2.out _ (qa.trans (k3.mono qa.size)) AC cC capC.1 capC.2 _ k3.size (rdC.below k3)).mono ?_; rintro e u5 ⟨rfl, c5⟩; have k5 := k3.trans (c5.mono k3.size); have rA5 := rA3.below' c5; clear tok)
          | (go_at_call 19; refine (HO.out _ qa).mono ?_; rintro e u1 ⟨rfl, k1⟩)
          | (have tok := k5; refine wpList_allocRow rfl _ rfl _ info16 ?_; intro u6 rb6 c6 z6; have k6 := k5.trans (c6.mono k5.size); have rA6 := rA5.below' c6; clear z6 tok)
          | (refine wpList_allocRow rfl _ rfl _ info16 ?_; intro u2 rb2 c2 z2; have k2 := k1.trans (c2.mono k1.size); clear z2)
          | (refine wpList_storeRow rfl _ (.tmp 9) (.tmp 36) rfl rb2 rfl rfl (by rw [bvs_len, HA16.out]; exact size16) (by rw [bvs_len, HA16.out, List.length_replicate]) (bvs_all _) ?_; intro u3 rA3 g3 z3; have k3 := k2.grown g3 k2.size (fun j hj => by have hj := Option.some.inj hj; have := k1.size; omega); clear z3)
          | (refine wpList_storeRow rfl _ (.tmp 10) (.tmp 38) rfl rb6 rfl rfl (by rw [bvs_len, HB16.out]; exact size16) (by rw [bvs_len, HB16.out, List.length_replicate]) (bvs_all _) ?_; intro u7 rB7 g7 z7; have k7 := k6.grown g7 k6.size (fun j hj => by have hj := Option.some.inj hj; have := k5.size; omega); have rA7 := rA6.grown g7 (fun e => by have e := Option.some.inj e; have := rA5.lt; omega); clear z7)
          | (go_at_call 17; refine (HPP.out _ (qa.trans (k7.mono qa.size)) AC cC capC.1 capC.2 _ k7.size (rdC.below k7)).mono ?_; rintro e u8 ⟨A8, m8, c8', rfl, hm8, hmc8, hcm8, rd8, c8⟩; have HM8 := Lib.hid hm8; have k8 := k7.trans (c8.mono k7.size); have rA8 := rA7.below' c8; have rB8 := rB7.below' c8; clear hm8)
          | (have tok := k9; go_at_call 28; refine (HV2.out _ (qa.trans (k9.mono qa.size)) A8 m8 c8' HM8.out hmc8 hcm8 _ c9.size (rd8.below c9)).mono ?_; rintro e u10 ⟨rfl, c10⟩; have k10 := k9.trans (c10.mono k9.size); have rA10 := rA9.below' c10; have rB10 := rB9.below' c10; have r510 := r5a.below' k10; clear tok)
          | (go_at_call 28; refine (HV1.out _ (qa.trans (k8.mono qa.size)) A8 m8 c8' HM8.out hmc8 hcm8 _ (Nat.le_refl _) rd8).mono ?_; rintro e u9 ⟨rfl, c9⟩; have k9 := k8.trans (c9.mono k8.size); have rA9 := rA8.below' c9; have rB9 := rB8.below' c9; have r59 := r5a.below' k9)
          | (go_at_call 29; refine (HRV2.out _ (qa.trans (k10.mono qa.size)) A8 m8 c8' HM8.out hmc8 hcm8 _ (Nat.le_trans c9.size c10.size) ((rd8.below c9).below (c10.mono c9.size))).mono ?_; rintro e u11 ⟨rfl, c11⟩; have k11 := k10.trans (c11.mono k10.size); have rA11 := rA10.below' c11; have r511 := r5a.below' k11)
          | (refine wpList_loadRowG rfl _ (.tmp 9) rfl (l := bvs ra) (by first | exact rA8 | exact rA11) rfl Tryd.underlying30 (by rw [bvs_len, HA16.out]; exact size16) ?_)
          | (refine wpList_loadRowG rfl _ (.tmp 10) rfl (l := bvs rb) (by first | exact rB8 | exact rB9 | exact rB10) rfl Tryd.underlying30 (by rw [bvs_len, HB16.out]; exact size16) ?_)
          | (refine wpList_loadRowG rfl _ (.tmp 5) rfl (l := bvs ot) (by first | exact r59 | exact r510 | exact r511) rfl Tryd.underlying30 (by rw [bvs_len, HOT.out]; exact size16) ?_)
          | fail)
        go_ret
        exact ⟨rfl, qa.trans (k11.mono qa.size)⟩
      | true =>
        have hfg := HFO.out rfl
        subst hfg
        go_wp2_with (first
          | (have tok := rA3; go_at_call 19; refine (HO2.out _ (qa.trans (k3.mono qa.size)) AC cC capC.1 capC.2 _ k3.size (rdC.below k3)).mono ?_; rintro e u5 ⟨rfl, c5⟩; have k5 := k3.trans (c5.mono k3.size); have rA5 := rA3.below' c5; clear tok)
          | (go_at_call 19; refine (HO.out _ qa).mono ?_; rintro e u1 ⟨rfl, k1⟩)
          | (have tok := k5; refine wpList_allocRow rfl _ rfl _ info16 ?_; intro u6 rb6 c6 z6; have k6 := k5.trans (c6.mono k5.size); have rA6 := rA5.below' c6; clear z6 tok)
          | (refine wpList_allocRow rfl _ rfl _ info16 ?_; intro u2 rb2 c2 z2; have k2 := k1.trans (c2.mono k1.size); clear z2)
          | (refine wpList_storeRow rfl _ (.tmp 9) (.tmp 36) rfl rb2 rfl rfl (by rw [bvs_len, HA16.out]; exact size16) (by rw [bvs_len, HA16.out, List.length_replicate]) (bvs_all _) ?_; intro u3 rA3 g3 z3; have k3 := k2.grown g3 k2.size (fun j hj => by have hj := Option.some.inj hj; have := k1.size; omega); clear z3)
          | (refine wpList_storeRow rfl _ (.tmp 10) (.tmp 38) rfl rb6 rfl rfl (by rw [bvs_len, HB16.out]; exact size16) (by rw [bvs_len, HB16.out, List.length_replicate]) (bvs_all _) ?_; intro u7 rB7 g7 z7; have k7 := k6.grown g7 k6.size (fun j hj => by have hj := Option.some.inj hj; have := k5.size; omega); have rA7 := rA6.grown g7 (fun e => by have e := Option.some.inj e; have := rA5.lt; omega); clear z7)
          | (go_at_call 17; refine (HPP.out _ (qa.trans (k7.mono qa.size)) AC cC capC.1 capC.2 _ k7.size (rdC.below k7)).mono ?_; rintro e u8 ⟨A8, m8, c8', rfl, hm8, hmc8, hcm8, rd8, c8⟩; have HM8 := Lib.hid hm8; have k8 := k7.trans (c8.mono k7.size); have rA8 := rA7.below' c8; have rB8 := rB7.below' c8; clear hm8)
          | (have tok := k9; go_at_call 28; refine (HV2.out _ (qa.trans (k9.mono qa.size)) A8 m8 c8' HM8.out hmc8 hcm8 _ c9.size (rd8.below c9)).mono ?_; rintro e u10 ⟨rfl, c10⟩; have k10 := k9.trans (c10.mono k9.size); have rA10 := rA9.below' c10; have rB10 := rB9.below' c10; have r510 := r5a.below' k10; clear tok)
          | (go_at_call 28; refine (HV1.out _ (qa.trans (k8.mono qa.size)) A8 m8 c8' HM8.out hmc8 hcm8 _ (Nat.le_refl _) rd8).mono ?_; rintro e u9 ⟨rfl, c9⟩; have k9 := k8.trans (c9.mono k8.size); have rA9 := rA8.below' c9; have rB9 := rB8.below' c9; have r59 := r5a.below' k9)
          | (go_at_call 29; refine (HRV2.out _ (qa.trans (k10.mono qa.size)) A8 m8 c8' HM8.out hmc8 hcm8 _ (Nat.le_trans c9.size c10.size) ((rd8.below c9).below (c10.mono c9.size))).mono ?_; rintro e u11 ⟨rfl, c11⟩; have k11 := k10.trans (c11.mono k10.size); have rA11 := rA10.below' c11; have r511 := r5a.below' k11)
          | (refine wpList_loadRowG rfl _ (.tmp 9) rfl (l := bvs ra) (by first | exact rA8 | exact rA11) rfl Tryd.underlying30 (by rw [bvs_len, HA16.out]; exact size16) ?_)
          | (refine wpList_loadRowG rfl _ (.tmp 10) rfl (l := bvs rb) (by first | exact rB8 | exact rB9 | exact rB10) rfl Tryd.underlying30 (by rw [bvs_len, HB16.out]; exact size16) ?_)
          | (refine wpList_loadRowG rfl _ (.tmp 5) rfl (l := bvs ot) (by first | exact r59 | exact r510 | exact r511) rfl Tryd.underlying30 (by rw [bvs_len, HOT.out]; exact size16) ?_)
          | fail)
        go_ret
        exact ⟨rfl, qa.trans (k11.mono qa.size)⟩
  · skip
    refine AllReadyH.cons (o := { dst := some 33, op := Op.buildSlice 34 1 #[(0, Operand.tmp 32)], type := 34, pos := "law.go:137", after := #[{ on := 3, ground := Ground.data }], guard := none }) rfl (fun K hK => ?_) AllReadyH.nil
    rw [if_pos (by rfl)]
    refine wp_build16 (.tmp 32) rfl (bvs d) (by rw [bvs_len]; exact HD16.out) rfl ?_
    obtain ⟨w2, hw2⟩ : ∃ w', w1.drew.alloc (.cells (bvs d).toArray 30) = w' := ⟨_, rfl⟩
    rw [hw2]
    have bb2 : Below w1.drew.heap.size w1.drew w2 := by rw [← hw2]; exact (Below.refl _ _).alloc (Nat.le_refl _) _
    have rD : Rd w2 w2.heap.size 16 (some ⟨w1.drew.heap.size, 0, none⟩) 1 (bvs d) := by rw [← hw2, alloc_size1]; exact Rd.new w1.drew (bvs d) 30 1 (by rw [bvs_len, HD16.out])
    have lD : w1.drew.heap.size < w2.heap.size := by rw [← hw2, alloc_size1]; omega
    try have hne := fun (j : Nat) hj => (oA.lt j hj).2
    try have oA := own_below oA bb2
    try have oB := own_below oB bb2
    clear hw2
    have hv2 : Below w1.heap.size w1 w2 := hv0.trans (bb2.mono hv0.size)
    refine hK.out _ _ (hv2) (fun hHeld => ?_)
    clear hK K
    try simp only [Act.put, List.setIfInBounds_toArray, List.set_cons_zero, List.set_cons_succ]
    refine wpAnyH_ready (rs := [0]) (by kernel_rfl) (by simp) ?_
    refine AllReadyH.cons (o := { dst := some 29, op := Op.buildSlice 34 0 #[], type := 34, pos := "law.go:137", after := #[], guard := none }) rfl (fun K hK => ?_) AllReadyH.nil
    rw [if_pos (by rfl)]
    refine wp_buildS0 rfl ?_
    intro w3 bb3 oA zz3
    have oA := own_base oA (b' := w1.heap.size) hv2.size
    try have lD2 := lD
    try have rD := (rD.below bb3).more bb3.size
    have hv3 : Below w1.heap.size w1 w3 := hv2.trans (bb3.mono hv2.size)
    refine hK.out _ _ (hv3) (fun hHeld => ?_)
    clear hK K
    try simp only [Act.put, List.setIfInBounds_toArray, List.set_cons_zero, List.set_cons_succ]
    refine wpAnyH_ready (rs := [2]) (by kernel_rfl) (by simp) ?_
    refine AllReadyH.cons (o := { dst := some 31, op := Op.call { callee := Callee.builtin Builtin.append, args := #[Operand.tmp 29, Operand.tmp 30], argTypes := #[34, 34] }, type := 34, pos := "law.go:137", after := #[{ on := 0, ground := Ground.data }, { on := 1, ground := Ground.data }], guard := none }) rfl (fun K hK => ?_) AllReadyH.nil
    rw [if_pos (by rfl)]
    refine wp_app _ (.tmp 29) (.tmp 30) 34 rfl w1.heap.size 30 _ 16 16 digE _ 0 0 [] rfl oA w1.heap.size A n c (dvs l) rfl (rd1.below hv3) (dvs_one _) (by omega) (by unfold maxLen; omega) hv3.size ?_
    intro AB cB w4 oB gB _
    simp only [Nat.zero_add, List.nil_append] at oB
    simp only [Nat.zero_add]
    have hv4 : Below w1.heap.size w1 w4 := hv3.grown gB hv3.size (fun j hj => (oA.lt j hj).1)
    try have rD := (rD.grown_far gB (Nat.le_refl _) (fun a ha e => by cases ha; first | exact absurd (hne _ e.symm) (Nat.lt_irrefl _) | exact absurd (Option.some.inj e) (Nat.ne_of_lt lD))).more gB.size
    refine hK.out _ _ (hv4) (fun hHeld => ?_)
    clear hK K
    try simp only [Act.put, List.setIfInBounds_toArray, List.set_cons_zero, List.set_cons_succ]
    refine wpAnyH_ready (rs := [5]) (by kernel_rfl) (by simp) ?_
    refine AllReadyH.cons (o := { dst := some 34, op := Op.call { callee := Callee.builtin Builtin.append, args := #[Operand.tmp 31, Operand.tmp 33], argTypes := #[34, 34] }, type := 34, pos := "law.go:137", after := #[{ on := 2, ground := Ground.data }, { on := 4, ground := Ground.data }, { on := 2, ground := Ground.chain }], guard := none }) rfl (fun K hK => ?_) AllReadyH.nil
    rw [if_pos (by rfl)]
    refine wp_app _ (.tmp 31) (.tmp 33) 34 rfl w1.heap.size 30 _ 16 16 digE AB n cB (dvs l) rfl oB _ _ 1 1 (bvs d) rfl rD (List.all_eq_true.1 (bvs_all _)) (by omega) (by unfold maxLen; omega) hv4.size ?_
    intro AC cC w5 oC gC _
    rw [dvs_snoc'] at oC
    have hv5 : Below w1.heap.size w1 w5 := hv4.grown gC hv4.size (fun j hj => (oB.lt j hj).1)
    refine hK.out _ _ (hv5) (fun hHeld => ?_)
    clear hK K
    try simp only [Act.put, List.setIfInBounds_toArray, List.set_cons_zero, List.set_cons_succ]
    refine wpAnyH_take (i := 6) (oi := { dst := some 8, op := Op.assign (Operand.tmp 34), type := 34, pos := "law.go:137", after := #[{ on := 5, ground := Ground.data }, { on := 5, ground := Ground.chain }, { on := 0, ground := Ground.phase }, { on := 1, ground := Ground.phase }, { on := 2, ground := Ground.phase }, { on := 3, ground := Ground.phase }, { on := 4, ground := Ground.phase }, { on := 5, ground := Ground.phase }], guard := none }) (v := ?v6_5) rfl (by kernel_rfl) (by kernel_rfl) (by kernel_rfl) (fun _ _ _ h => h) (Or.inl ⟨by rfl, ?h6_5⟩) (by assumption) ?r6_5
    case h6_5 =>
      intro W hSW
      try dsimp only at hSW
      go_simp
      try with_reducible rfl
    try simp only [Act.put, List.setIfInBounds_toArray, List.set_cons_zero, List.set_cons_succ]
    refine wpAnyH_done (by kernel_rfl) ?_ _
    have qa := q1.trans (hv5.mono q1.size)
    have capC := own_cap oC
    have rdC := Rd.of_own oC
    have r5a := r51.below' hv5
    have hk0 := (Below.refl w5.heap.size w5)
    cases eb with
    | false =>
      go_wp2_with (first
        | (have tok := rA3; go_at_call 19; refine (HO2.out _ (qa.trans (k3.mono qa.size)) AC cC capC.1 capC.2 _ k3.size (rdC.below k3)).mono ?_; rintro e u5 ⟨rfl, c5⟩; have k5 := k3.trans (c5.mono k3.size); have rA5 := rA3.below' c5; clear tok)
        | (go_at_call 19; refine (HO.out _ qa).mono ?_; rintro e u1 ⟨rfl, k1⟩)
        | (have tok := k5; refine wpList_allocRow rfl _ rfl _ info16 ?_; intro u6 rb6 c6 z6; have k6 := k5.trans (c6.mono k5.size); have rA6 := rA5.below' c6; clear z6 tok)
        | (refine wpList_allocRow rfl _ rfl _ info16 ?_; intro u2 rb2 c2 z2; have k2 := k1.trans (c2.mono k1.size); clear z2)
        | (refine wpList_storeRow rfl _ (.tmp 9) (.tmp 36) rfl rb2 rfl rfl (by rw [bvs_len, HA16.out]; exact size16) (by rw [bvs_len, HA16.out, List.length_replicate]) (bvs_all _) ?_; intro u3 rA3 g3 z3; have k3 := k2.grown g3 k2.size (fun j hj => by have hj := Option.some.inj hj; have := k1.size; omega); clear z3)
        | (refine wpList_storeRow rfl _ (.tmp 10) (.tmp 38) rfl rb6 rfl rfl (by rw [bvs_len, HB16.out]; exact size16) (by rw [bvs_len, HB16.out, List.length_replicate]) (bvs_all _) ?_; intro u7 rB7 g7 z7; have k7 := k6.grown g7 k6.size (fun j hj => by have hj := Option.some.inj hj; have := k5.size; omega); have rA7 := rA6.grown g7 (fun e => by have e := Option.some.inj e; have := rA5.lt; omega); clear z7)
        | (go_at_call 17; refine (HPP.out _ (qa.trans (k7.mono qa.size)) AC cC capC.1 capC.2 _ k7.size (rdC.below k7)).mono ?_; rintro e u8 ⟨A8, m8, c8', rfl, hm8, hmc8, hcm8, rd8, c8⟩; have HM8 := Lib.hid hm8; have k8 := k7.trans (c8.mono k7.size); have rA8 := rA7.below' c8; have rB8 := rB7.below' c8; clear hm8)
        | (have tok := k9; go_at_call 28; refine (HV2.out _ (qa.trans (k9.mono qa.size)) A8 m8 c8' HM8.out hmc8 hcm8 _ c9.size (rd8.below c9)).mono ?_; rintro e u10 ⟨rfl, c10⟩; have k10 := k9.trans (c10.mono k9.size); have rA10 := rA9.below' c10; have rB10 := rB9.below' c10; have r510 := r5a.below' k10; clear tok)
        | (go_at_call 28; refine (HV1.out _ (qa.trans (k8.mono qa.size)) A8 m8 c8' HM8.out hmc8 hcm8 _ (Nat.le_refl _) rd8).mono ?_; rintro e u9 ⟨rfl, c9⟩; have k9 := k8.trans (c9.mono k8.size); have rA9 := rA8.below' c9; have rB9 := rB8.below' c9; have r59 := r5a.below' k9)
        | (go_at_call 29; refine (HRV2.out _ (qa.trans (k10.mono qa.size)) A8 m8 c8' HM8.out hmc8 hcm8 _ (Nat.le_trans c9.size c10.size) ((rd8.below c9).below (c10.mono c9.size))).mono ?_; rintro e u11 ⟨rfl, c11⟩; have k11 := k10.trans (c11.mono k10.size); have rA11 := rA10.below' c11; have r511 := r5a.below' k11)
        | (refine wpList_loadRowG rfl _ (.tmp 9) rfl (l := bvs ra) (by first | exact rA8 | exact rA11) rfl Tryd.underlying30 (by rw [bvs_len, HA16.out]; exact size16) ?_)
        | (refine wpList_loadRowG rfl _ (.tmp 10) rfl (l := bvs rb) (by first | exact rB8 | exact rB9 | exact rB10) rfl Tryd.underlying30 (by rw [bvs_len, HB16.out]; exact size16) ?_)
        | (refine wpList_loadRowG rfl _ (.tmp 5) rfl (l := bvs ot) (by first | exact r59 | exact r510 | exact r511) rfl Tryd.underlying30 (by rw [bvs_len, HOT.out]; exact size16) ?_)
        | fail)
      go_ret
      exact ⟨rfl, qa.trans (k11.mono qa.size)⟩
    | true =>
      have hfg := HFO.out rfl
      subst hfg
      go_wp2_with (first
        | (have tok := rA3; go_at_call 19; refine (HO2.out _ (qa.trans (k3.mono qa.size)) AC cC capC.1 capC.2 _ k3.size (rdC.below k3)).mono ?_; rintro e u5 ⟨rfl, c5⟩; have k5 := k3.trans (c5.mono k3.size); have rA5 := rA3.below' c5; clear tok)
        | (go_at_call 19; refine (HO.out _ qa).mono ?_; rintro e u1 ⟨rfl, k1⟩)
        | (have tok := k5; refine wpList_allocRow rfl _ rfl _ info16 ?_; intro u6 rb6 c6 z6; have k6 := k5.trans (c6.mono k5.size); have rA6 := rA5.below' c6; clear z6 tok)
        | (refine wpList_allocRow rfl _ rfl _ info16 ?_; intro u2 rb2 c2 z2; have k2 := k1.trans (c2.mono k1.size); clear z2)
        | (refine wpList_storeRow rfl _ (.tmp 9) (.tmp 36) rfl rb2 rfl rfl (by rw [bvs_len, HA16.out]; exact size16) (by rw [bvs_len, HA16.out, List.length_replicate]) (bvs_all _) ?_; intro u3 rA3 g3 z3; have k3 := k2.grown g3 k2.size (fun j hj => by have hj := Option.some.inj hj; have := k1.size; omega); clear z3)
        | (refine wpList_storeRow rfl _ (.tmp 10) (.tmp 38) rfl rb6 rfl rfl (by rw [bvs_len, HB16.out]; exact size16) (by rw [bvs_len, HB16.out, List.length_replicate]) (bvs_all _) ?_; intro u7 rB7 g7 z7; have k7 := k6.grown g7 k6.size (fun j hj => by have hj := Option.some.inj hj; have := k5.size; omega); have rA7 := rA6.grown g7 (fun e => by have e := Option.some.inj e; have := rA5.lt; omega); clear z7)
        | (go_at_call 17; refine (HPP.out _ (qa.trans (k7.mono qa.size)) AC cC capC.1 capC.2 _ k7.size (rdC.below k7)).mono ?_; rintro e u8 ⟨A8, m8, c8', rfl, hm8, hmc8, hcm8, rd8, c8⟩; have HM8 := Lib.hid hm8; have k8 := k7.trans (c8.mono k7.size); have rA8 := rA7.below' c8; have rB8 := rB7.below' c8; clear hm8)
        | (have tok := k9; go_at_call 28; refine (HV2.out _ (qa.trans (k9.mono qa.size)) A8 m8 c8' HM8.out hmc8 hcm8 _ c9.size (rd8.below c9)).mono ?_; rintro e u10 ⟨rfl, c10⟩; have k10 := k9.trans (c10.mono k9.size); have rA10 := rA9.below' c10; have rB10 := rB9.below' c10; have r510 := r5a.below' k10; clear tok)
        | (go_at_call 28; refine (HV1.out _ (qa.trans (k8.mono qa.size)) A8 m8 c8' HM8.out hmc8 hcm8 _ (Nat.le_refl _) rd8).mono ?_; rintro e u9 ⟨rfl, c9⟩; have k9 := k8.trans (c9.mono k8.size); have rA9 := rA8.below' c9; have rB9 := rB8.below' c9; have r59 := r5a.below' k9)
        | (go_at_call 29; refine (HRV2.out _ (qa.trans (k10.mono qa.size)) A8 m8 c8' HM8.out hmc8 hcm8 _ (Nat.le_trans c9.size c10.size) ((rd8.below c9).below (c10.mono c9.size))).mono ?_; rintro e u11 ⟨rfl, c11⟩; have k11 := k10.trans (c11.mono k10.size); have rA11 := rA10.below' c11; have r511 := r5a.below' k11)
        | (refine wpList_loadRowG rfl _ (.tmp 9) rfl (l := bvs ra) (by first | exact rA8 | exact rA11) rfl Tryd.underlying30 (by rw [bvs_len, HA16.out]; exact size16) ?_)
        | (refine wpList_loadRowG rfl _ (.tmp 10) rfl (l := bvs rb) (by first | exact rB8 | exact rB9 | exact rB10) rfl Tryd.underlying30 (by rw [bvs_len, HB16.out]; exact size16) ?_)
        | (refine wpList_loadRowG rfl _ (.tmp 5) rfl (l := bvs ot) (by first | exact r59 | exact r510 | exact r511) rfl Tryd.underlying30 (by rw [bvs_len, HOT.out]; exact size16) ?_)
        | fail)
      go_ret
      exact ⟨rfl, qa.trans (k11.mono qa.size)⟩
end Go.Proofs.YtfnbcchmembomaaDoor
