/- The readers of both decoders: a digest, a unit. Conditions: at most 2^40 bytes are read. -/
import Derived.Test.YtcicfneekmbamaaChkSB
import Derived.Shelf.Spec.SlicesInsert
namespace Go.Proofs.Ytcicfneekmbamaa
set_option linter.unusedVariables false
set_option linter.unusedSimpArgs false
open Go.RowKit
theorem copy16 (W : World) {g : Nat} {a : Addr} {sLen sCap : Nat} {l : List UInt8} {Z : List Value} (hz : IsRow W g 42 Z) (hZ : Z.length = 16) (hl : l.length = 16) (hs : 16 ≤ sLen) (hsrc : ∀ j u, (bvs l)[j]? = some u → W.cell? (a.add j) = some u) :
    ∃ W', (Builtin.copy_ #[70, 70] 3 #[.slice (some ⟨g, 0, none⟩) 16 16, .slice (some a) sLen sCap]).run Try.prog W = .ok (.int .i64 16) W' ∧ IsRow W' g 42 (bvs l) ∧ Keep (fun q => q = g) W W' := by
  have hsz : (Try.prog.info? 5).map (·.size) = some 1 := by
    have hi := bytesE.info
    cases h : Try.prog.info? 5 with
    | none => rw [h] at hi; simp at hi
    | some i => rw [h] at hi; simp only [Option.map_some, Option.some.injEq, Prod.mk.injEq] at hi; simp [hi.2.1]
  have hbl : (bvs l).length = 16 := by rw [bvs_length, hl]
  have h := run_copy_rowK (P := Try.prog) W 70 70 3 5 g 0 16 16 a sLen sCap Z.toArray _ (bvs l) 1 16 Try.underlying70 hsz (Nat.min_eq_right hs).symm hbl hz hsrc (by rw [hbl]; simp [hZ]) (bvs_one l)
  refine ⟨_, h, ?_, ?_⟩
  · have e : (Z.toArray.toList.take 0 ++ bvs l ++ Z.toArray.toList.drop (0 + (bvs l).length)) = bvs l := by
      rw [hbl, List.take_zero, List.nil_append, List.drop_of_length_le (by simp [hZ]), List.append_nil]
    rw [e]
    exact setRow_heap W g _ _ _ _ hz
  · exact Keep.of_grown (row := some g) ⟨rfl, rfl, rfl, by simp [World.setRow], fun k _ hk => setRow_other W g k _ (fun e => hk (by rw [e]))⟩ fun k e => (Option.some.inj e).symm
def z16 : List Value := List.replicate 16 (Value.int .u8 0)
theorem z16_eq : z16 = bvs (List.replicate 16 0) := by unfold z16 bvs; rw [List.map_replicate]; rfl
set_option maxRecDepth 100000 in
set_option maxHeartbeats 1600000 in
theorem digestP_any (rb B : Nat) (s : Chk.Rdr) (hL : s.b.length ≤ 1099511627776) (D : List UInt8) (s' : Chk.Rdr) (hx : Chk.dgs s = (D, s')) (w : World) (h : RdrAt w 100 rb B s) :
    Calls Try.prog 86 #[.pointer (some ⟨rb, 0, none⟩)] w (RdRes 100 rb B (.agg (bvs D).toArray) s' w) := by
  have H := Lib.hid h
  have HL := Lib.hid hL
  obtain ⟨b, e⟩ := s
  obtain ⟨n, hn⟩ : ∃ n, b.length = n := ⟨_, rfl⟩
  have HN := Lib.hid hn
  have HX := Lib.hid hx
  have HZ : Hid (z16.length = 16 ∧ z16.all (·.oneCell') = true) := Lib.hid ⟨by simp [z16], by simp [z16, Value.oneCell']⟩
  have hZ := z16_eq
  -- what fail leaves
  obtain ⟨is, his⟩ : ∃ is, decide (16 ≤ n) = is := ⟨_, rfl⟩
  obtain ⟨S, hS⟩ : ∃ S, ((failS ⟨b, e⟩ is 5).e == 0) = S := ⟨_, rfl⟩
  have HF := Lib.hid (fun w1 h1 => fail_any rb B ⟨b, e⟩ is 5 S hS w1 h1)
  have his' : decide ((16 : Int) ≤ (n : Int)) = is := by rw [← his]; by_cases h : 16 ≤ n <;> simp [h] <;> omega
  have HIS := Lib.hid (And.intro his hS)
  obtain ⟨br, hbr⟩ : ∃ y, w.heap.size = y := ⟨_, rfl⟩
  have HBR : Hid (rb < br ∧ B ≤ br ∧ w.heap.size = br) := Lib.hid ⟨by rw [← hbr]; exact h.lt, by rw [← hbr]; have := h.lt; obtain ⟨_, _, _, _, _, _, _, _, hB⟩ := h; omega, hbr⟩
  clear h hx hL hn his hS
  go_enter Try.func86, Try.ntmps86
  go_upto_region 1 with (refine wpList_allocRow rfl _ rfl _ zDg ?_; intro w1 rz1 b1 z1)
  have rz1 : IsRow w1 w.heap.size 42 z16 := rz1
  rw [hbr] at rz1
  try rw [hbr]
  have HB1 := Lib.hid b1
  have h1 := H.out.below b1
  have HR1 := Lib.hid rz1
  obtain ⟨A1, n1, c1, hb1, hn1, hc1, hm1, hr1, hB1⟩ := h1
  have hn1' : n1 = n := by have := HN.out; have h4 : b.length = n1 := hn1; omega
  subst hn1'
  have c0 : w1.cell? ⟨rb, 0, none⟩ = some (.slice A1 n1 c1) := hb1.cell 0
  have H1 := Lib.hid (H.out.below b1)
  clear b1 z1 rz1 hb1 hn1 hc1 hm1 hr1 hB1 hbr
  cases S with
  | false =>
    have HD : Hid (D = List.replicate 16 0 ∧ failS ⟨b, e⟩ is 5 = s') := Lib.hid (by
      obtain ⟨h1, h2⟩ := HIS.out
      have hx := HX.out
      unfold Chk.dgs at hx
      unfold failS at h2 ⊢
      by_cases he : e = 0
      · subst he
        rw [if_neg (fun h => h rfl)] at hx
        cases is with
        | true => rw [if_neg (fun h => by cases h.2)] at h2; cases h2
        | false =>
          have h3 : ¬ 16 ≤ n1 := of_decide_eq_false h1
          rw [if_pos (show b.length < 16 by rw [HN.out]; omega)] at hx
          rw [if_pos ⟨rfl, rfl⟩]
          exact ⟨(Prod.mk.inj hx).1.symm, (Prod.mk.inj hx).2⟩
      · rw [if_pos he] at hx
        rw [if_neg (fun h => he h.1)]
        exact ⟨(Prod.mk.inj hx).1.symm, (Prod.mk.inj hx).2⟩)
    go_upto_region 3 with (go_at_call 63; refine (HF.out w1 H1.out).mono ?_; rintro e' w2 ⟨rfl, hs2, hk2⟩)
    have rz2 := HR1.out.keep (hk2.block br HR1.out.lt (by have := HBR.out.1; omega))
    have HS2 := Lib.hid hs2
    have HK2 := Lib.hid hk2
    clear hs2 hk2
    go_wp2_with (first
      | (refine wpList_loadRow rfl _ (.tmp 2) rfl rz2 rfl Try.underlying42 (by rw [HZ.out.1]; exact size16d) ?_)
      | (refine wpList_storeRow rfl _ (.tmp 2) (.tmp 25) rfl (l' := z16) rz2 rfl rfl (by rw [HZ.out.1]; exact size16d) rfl HZ.out.2 ?_; intro w9 rz9 g9 z9))
    refine bodyPost_ret (resultRow rfl _ _ rz9 rfl Try.underlying42 (by rw [HZ.out.1]; exact size16d)) rfl ?_
    have hk9 : Keep (fun q => q = br) w2 w9 := Keep.of_grown g9 fun k e => (Option.some.inj e).symm
    obtain ⟨hD, hs'⟩ := HD.out
    have hbl := HBR.out
    refine ⟨by rw [hD, ← hZ], ?_, ?_⟩
    · rw [← hs']
      exact HS2.out.keep hk9 (by show ¬ rb = br; omega) (fun k hk => by show ¬ k = br; omega)
    · exact ((Keep.of_below HB1.out).trans HK2.out).grown g9 (fun k e => .inr (by have := Option.some.inj e; omega))
  | true =>
    have HD : Hid (e = 0 ∧ 16 ≤ n1 ∧ D = b.take 16 ∧ s' = ⟨b.drop 16, 0⟩ ∧ failS ⟨b, e⟩ is 5 = ⟨b, 0⟩) := Lib.hid (by
      obtain ⟨h1, h2⟩ := HIS.out
      have hx := HX.out
      unfold Chk.dgs at hx
      unfold failS at h2 ⊢
      by_cases he : e = 0
      · subst he
        rw [if_neg (fun h => h rfl)] at hx
        cases is with
        | false => rw [if_pos ⟨rfl, rfl⟩] at h2; cases h2
        | true =>
          have h3 : 16 ≤ n1 := of_decide_eq_true h1
          rw [if_neg (show ¬ b.length < 16 by rw [HN.out]; omega)] at hx
          rw [if_neg (fun h => by cases h.2)]
          exact ⟨rfl, h3, (Prod.mk.inj hx).1.symm, (Prod.mk.inj hx).2.symm, rfl⟩
      · rw [if_neg (fun h => he h.1)] at h2
        exact absurd (by simpa using h2) he)
    rw [HD.out.2.2.2.2] at HF
    have HDL : Hid (D.length = 16) := Lib.hid (by rw [HD.out.2.2.1, List.length_take, HN.out]; have := HD.out.2.1; omega)
    go_upto_region 2 with (go_at_call 63; refine (HF.out w1 H1.out).mono ?_; rintro e' w2 ⟨rfl, hs2, hk2⟩)
    have HR2 := Lib.hid (HR1.out.keep (hk2.block br HR1.out.lt (by have := HBR.out.1; omega)))
    have HK2 := Lib.hid ((Keep.of_below HB1.out (S := fun q => q = rb)).trans hk2)
    obtain ⟨A2, n2, c2, hb2, hn2, hc2, hm2, hr2, hB2⟩ := hs2
    have hn2' : n2 = n1 := by have := HN.out; have h4 : b.length = n2 := hn2; omega
    subst hn2'
    obtain ⟨ga, oa, rfl, hga, hcl⟩ := hr2.2 (by have := HD.out.2.1; omega)
    have HB2 := Lib.hid (And.intro hb2 (And.intro hc2 (And.intro hm2 hB2)))
    have HRD2 := Lib.hid hr2
    have HGA := Lib.hid (And.intro hga hcl)
    have h16 := HD.out.2.1
    have hsl0 := fun w => run_cutFrom (P := Try.prog) w bytesE (some ⟨ga, oa, none⟩) n2 c2 16 .i64 h16
    obtain ⟨A', hA'⟩ : ∃ A', (if c2 = 16 then (some ⟨ga, oa, none⟩ : Option Addr) else (some ⟨ga, oa, none⟩ : Option Addr).map (·.add (16 * 1))) = A' := ⟨_, rfl⟩
    simp only [hA'] at hsl0
    have hsl : ∀ w, (Instr.sliceAt 70 (.slice (some ⟨ga, oa, none⟩) n2 c2) (some (.int .i64 16)) none none).run Try.prog w = .ok (.slice A' (n2 - 16) (c2 - 16)) w := fun w => hsl0 w
    have hrc := hr2.cut (k := 16) h16 hc2
    rw [hA', Nat.mul_one] at hrc
    have HRC := Lib.hid hrc
    have hu1 : (16 : Int) ≤ (n2 : Int) := by omega
    clear hk2 hb2 hn2 hc2 hm2 hr2 hB2 hga hcl hA' hsl0 hrc h16 c0 his' hZ
    have hv0 : Keep (fun q => q = br) w2 w2.drew := Keep.of_below (Below.refl _ _).drew
    refine wp_region_late (fun W => Keep (fun q => q = br) w2 W) [14] (by kernel_rfl) (hv0) (fun hHeld => ?_)
    refine wpAnyL_take (i := 0) (oi := { dst := some 11, op := Op.move (Operand.tmp 0), type := 98, pos := "code.go:63", after := #[], guard := none }) (v := ?v0_1) rfl (by kernel_rfl) (by kernel_rfl) (by kernel_rfl) (by kernel_rfl) (fun _ _ _ h => h) (Or.inl ⟨by rfl, ?h0_1⟩) (by assumption) ?r0_1
    case h0_1 =>
      intro W hSW
      try dsimp only at hSW
      go_simp
      try with_reducible rfl
    try simp only [Act.put, List.setIfInBounds_toArray, List.set_cons_zero, List.set_cons_succ]
    refine wpAnyL_take (i := 1) (oi := { dst := some 12, op := Op.move (Operand.tmp 0), type := 98, pos := "code.go:63", after := #[], guard := none }) (v := ?v1_2) rfl (by kernel_rfl) (by kernel_rfl) (by kernel_rfl) (by kernel_rfl) (fun _ _ _ h => h) (Or.inl ⟨by rfl, ?h1_2⟩) (by assumption) ?r1_2
    case h1_2 =>
      intro W hSW
      try dsimp only at hSW
      go_simp
      try with_reducible rfl
    try simp only [Act.put, List.setIfInBounds_toArray, List.set_cons_zero, List.set_cons_succ]
    refine wpAnyL_take (i := 2) (oi := { dst := some 13, op := Op.nilCheck (Operand.tmp 12), type := 0, pos := "code.go:63", after := #[{ on := 1, ground := Ground.data }], guard := none }) (v := ?v2_3) rfl (by kernel_rfl) (by kernel_rfl) (by kernel_rfl) (by kernel_rfl) (fun _ _ _ h => h) (Or.inl ⟨by rfl, ?h2_3⟩) (by assumption) ?r2_3
    case h2_3 =>
      intro W hSW
      try dsimp only at hSW
      go_simp
      try with_reducible rfl
    try simp only [Act.put, List.setIfInBounds_toArray, List.set_cons_zero, List.set_cons_succ]
    refine wpAnyL_take (i := 3) (oi := { dst := some 14, op := Op.fieldAddr 100 (Operand.tmp 13) 0, type := 0, pos := "code.go:63", after := #[{ on := 2, ground := Ground.data }], guard := none }) (v := ?v3_4) rfl (by kernel_rfl) (by kernel_rfl) (by kernel_rfl) (by kernel_rfl) (fun _ _ _ h => h) (Or.inl ⟨by rfl, ?h3_4⟩) (by assumption) ?r3_4
    case h3_4 =>
      intro W hSW
      try dsimp only at hSW
      go_simp
      try with_reducible rfl
    try simp only [Act.put, List.setIfInBounds_toArray, List.set_cons_zero, List.set_cons_succ]
    refine wpAnyL_take (i := 4) (oi := { dst := some 15, op := Op.load 70 (Operand.tmp 14), type := 70, pos := "code.go:63", after := #[{ on := 3, ground := Ground.data }], guard := none }) (v := ?v4_5) rfl (by kernel_rfl) (by kernel_rfl) (by kernel_rfl) (by kernel_rfl) (fun _ _ _ h => h) (Or.inl ⟨by rfl, ?h4_5⟩) (by assumption) ?r4_5
    case h4_5 =>
      intro W hSW
      try dsimp only at hSW
      have c0 := (hSW.cell (p := ⟨rb, 0, none⟩) HB2.out.1.lt (show ¬ rb = br by have := HBR.out.1; omega)).trans (HB2.out.1.cell 0)
      go_simp
      try with_reducible rfl
    try simp only [Act.put, List.setIfInBounds_toArray, List.set_cons_zero, List.set_cons_succ]
    refine wpAnyL_take (i := 5) (oi := { dst := some 16, op := Op.slice 42 (Operand.tmp 2) none none none, type := 70, pos := "code.go:63", after := #[], guard := none }) (v := ?v5_6) rfl (by kernel_rfl) (by kernel_rfl) (by kernel_rfl) (by kernel_rfl) (fun _ _ _ h => h) (Or.inl ⟨by rfl, ?h5_6⟩) (by assumption) ?r5_6
    case h5_6 =>
      intro W hSW
      try dsimp only at hSW
      go_simp
      try with_reducible rfl
    try simp only [Act.put, List.setIfInBounds_toArray, List.set_cons_zero, List.set_cons_succ]
    refine wpAnyL_take (i := 6) (oi := { dst := some 17, op := Op.move (Operand.tmp 0), type := 98, pos := "code.go:63", after := #[], guard := none }) (v := ?v6_7) rfl (by kernel_rfl) (by kernel_rfl) (by kernel_rfl) (by kernel_rfl) (fun _ _ _ h => h) (Or.inl ⟨by rfl, ?h6_7⟩) (by assumption) ?r6_7
    case h6_7 =>
      intro W hSW
      try dsimp only at hSW
      go_simp
      try with_reducible rfl
    try simp only [Act.put, List.setIfInBounds_toArray, List.set_cons_zero, List.set_cons_succ]
    refine wpAnyL_take (i := 7) (oi := { dst := some 18, op := Op.nilCheck (Operand.tmp 17), type := 0, pos := "code.go:63", after := #[{ on := 6, ground := Ground.data }], guard := none }) (v := ?v7_8) rfl (by kernel_rfl) (by kernel_rfl) (by kernel_rfl) (by kernel_rfl) (fun _ _ _ h => h) (Or.inl ⟨by rfl, ?h7_8⟩) (by assumption) ?r7_8
    case h7_8 =>
      intro W hSW
      try dsimp only at hSW
      go_simp
      try with_reducible rfl
    try simp only [Act.put, List.setIfInBounds_toArray, List.set_cons_zero, List.set_cons_succ]
    refine wpAnyL_take (i := 8) (oi := { dst := some 19, op := Op.fieldAddr 100 (Operand.tmp 18) 0, type := 0, pos := "code.go:63", after := #[{ on := 7, ground := Ground.data }], guard := none }) (v := ?v8_9) rfl (by kernel_rfl) (by kernel_rfl) (by kernel_rfl) (by kernel_rfl) (fun _ _ _ h => h) (Or.inl ⟨by rfl, ?h8_9⟩) (by assumption) ?r8_9
    case h8_9 =>
      intro W hSW
      try dsimp only at hSW
      go_simp
      try with_reducible rfl
    try simp only [Act.put, List.setIfInBounds_toArray, List.set_cons_zero, List.set_cons_succ]
    refine wpAnyL_take (i := 9) (oi := { dst := some 20, op := Op.load 70 (Operand.tmp 19), type := 70, pos := "code.go:63", after := #[{ on := 8, ground := Ground.data }], guard := none }) (v := ?v9_10) rfl (by kernel_rfl) (by kernel_rfl) (by kernel_rfl) (by kernel_rfl) (fun _ _ _ h => h) (Or.inl ⟨by rfl, ?h9_10⟩) (by assumption) ?r9_10
    case h9_10 =>
      intro W hSW
      try dsimp only at hSW
      have c0 := (hSW.cell (p := ⟨rb, 0, none⟩) HB2.out.1.lt (show ¬ rb = br by have := HBR.out.1; omega)).trans (HB2.out.1.cell 0)
      go_simp
      try with_reducible rfl
    try simp only [Act.put, List.setIfInBounds_toArray, List.set_cons_zero, List.set_cons_succ]
    refine wpAnyL_ready (rs := [10]) (by kernel_rfl) (by simp) ?_
    refine AllReadyL.cons (o := { dst := some 21, op := Op.call { callee := Callee.builtin Builtin.copy, args := #[Operand.tmp 16, Operand.tmp 20], argTypes := #[70, 70] }, type := 3, pos := "code.go:63", after := #[{ on := 5, ground := Ground.data }, { on := 9, ground := Ground.data }], guard := none }) rfl (fun K hK => ?_) AllReadyL.nil
    rw [if_pos (by rfl)]
    have hcp := copy16 w2.drew (g := br) (a := ⟨ga, oa, none⟩) (sLen := n2) (sCap := c2) (l := D) (Z := z16) HR2.out HZ.out.1 HDL.out HD.out.2.1 (fun j u hu => by rw [Addr.add_lit]; exact HGA.out.2 j u (by rw [HD.out.2.2.1] at hu; rw [bvs, List.map_take] at hu; rw [List.getElem?_take] at hu; split at hu; exact hu; cases hu))
    obtain ⟨w30, hrun, rz30, hk30⟩ := hcp
    refine Go.Proofs.wp_copy_runI w2.drew (.tmp 16) (.tmp 20) 70 70 rfl (.slice (some ⟨br, 0, none⟩) 16 16) (.slice (some ⟨ga, oa, none⟩) n2 c2) ?hd8 rfl hrun ?_
    case hd8 => first | rfl | simp
    have hv30 : Keep (fun q => q = br) w2 w30 := (hv0).trans hk30
    have HRZ := Lib.hid rz30
    have hbb := HB2.out.1.keep (hv30.block rb HB2.out.1.lt (by have := HBR.out.1; omega))
    have ka := hbb.cell 0
    have fa := hbb.frozen 0
    clear hrun hk30 rz30
    refine hK.out _ _ (hv30) (fun hHeld => ?_)
    clear hK K
    try simp only [Act.put, List.setIfInBounds_toArray, List.set_cons_zero, List.set_cons_succ]
    refine wpAnyL_take (i := 11) (oi := { dst := some 22, op := Op.slice 70 (Operand.tmp 15) (some (Operand.tmp 21)) none none, type := 70, pos := "code.go:63", after := #[{ on := 4, ground := Ground.data }, { on := 10, ground := Ground.data }], guard := none }) (v := ?v11_11) rfl (by kernel_rfl) (by kernel_rfl) (by kernel_rfl) (by kernel_rfl) (fun _ _ _ h => h) (Or.inl ⟨by rfl, ?h11_11⟩) (by assumption) ?r11_11
    case h11_11 =>
      intro W hSW
      try dsimp only at hSW
      go_simp
      try with_reducible rfl
    try simp only [Act.put, List.setIfInBounds_toArray, List.set_cons_zero, List.set_cons_succ]
    refine wpAnyL_take (i := 12) (oi := { dst := some 23, op := Op.nilCheck (Operand.tmp 11), type := 0, pos := "code.go:63", after := #[{ on := 0, ground := Ground.data }, { on := 0, ground := Ground.phase }, { on := 1, ground := Ground.phase }, { on := 2, ground := Ground.phase }, { on := 3, ground := Ground.phase }, { on := 4, ground := Ground.phase }, { on := 5, ground := Ground.phase }, { on := 6, ground := Ground.phase }, { on := 7, ground := Ground.phase }, { on := 8, ground := Ground.phase }, { on := 9, ground := Ground.phase }, { on := 10, ground := Ground.phase }, { on := 11, ground := Ground.phase }], guard := none }) (v := ?v12_12) rfl (by kernel_rfl) (by kernel_rfl) (by kernel_rfl) (by kernel_rfl) (fun _ _ _ h => h) (Or.inl ⟨by rfl, ?h12_12⟩) (by assumption) ?r12_12
    case h12_12 =>
      intro W hSW
      try dsimp only at hSW
      go_simp
      try with_reducible rfl
    try simp only [Act.put, List.setIfInBounds_toArray, List.set_cons_zero, List.set_cons_succ]
    refine wpAnyL_take (i := 13) (oi := { dst := some 24, op := Op.fieldAddr 100 (Operand.tmp 23) 0, type := 0, pos := "code.go:63", after := #[{ on := 12, ground := Ground.data }, { on := 0, ground := Ground.phase }, { on := 1, ground := Ground.phase }, { on := 2, ground := Ground.phase }, { on := 3, ground := Ground.phase }, { on := 4, ground := Ground.phase }, { on := 5, ground := Ground.phase }, { on := 6, ground := Ground.phase }, { on := 7, ground := Ground.phase }, { on := 8, ground := Ground.phase }, { on := 9, ground := Ground.phase }, { on := 10, ground := Ground.phase }, { on := 11, ground := Ground.phase }], guard := none }) (v := ?v13_13) rfl (by kernel_rfl) (by kernel_rfl) (by kernel_rfl) (by kernel_rfl) (fun _ _ _ h => h) (Or.inl ⟨by rfl, ?h13_13⟩) (by assumption) ?r13_13
    case h13_13 =>
      intro W hSW
      try dsimp only at hSW
      go_simp
      try with_reducible rfl
    try simp only [Act.put, List.setIfInBounds_toArray, List.set_cons_zero, List.set_cons_succ]
    refine wpAnyL_ready (rs := [14]) (by kernel_rfl) (by simp) ?_
    refine AllReadyL.late (o := { dst := none, op := Op.store 70 (Operand.tmp 24) (Operand.tmp 22), type := 0, pos := "code.go:63", after := #[{ on := 13, ground := Ground.data }, { on := 11, ground := Ground.data }, { on := 10, ground := Ground.chain }, { on := 0, ground := Ground.phase }, { on := 1, ground := Ground.phase }, { on := 2, ground := Ground.phase }, { on := 3, ground := Ground.phase }, { on := 4, ground := Ground.phase }, { on := 5, ground := Ground.phase }, { on := 6, ground := Ground.phase }, { on := 7, ground := Ground.phase }, { on := 8, ground := Ground.phase }, { on := 9, ground := Ground.phase }, { on := 10, ground := Ground.phase }, { on := 11, ground := Ground.phase }], guard := none }) rfl (by rfl) (fun K hK => ?_) AllReadyL.nil
    go_simp
    have HV8 := Lib.hid hv30
    have HBB := Lib.hid hbb
    obtain ⟨w31, hw31⟩ : ∃ x, w30.setCell ⟨rb, 0, none⟩ (.slice A' (n2 - 16) (c2 - 16)) = x := ⟨_, rfl⟩
    rw [hw31]
    have HW9 := Lib.hid hw31
    clear ka fa hbb hw31
    refine hK.out _ _ ?_
    clear hK K
    try simp only [Act.put, List.setIfInBounds_toArray, List.set_cons_zero, List.set_cons_succ]
    refine wpAnyL_done (by kernel_rfl) ?_ _
    have hk9 := setE_keep w30 rb 0 (.slice A' (n2 - 16) (c2 - 16))
    rw [HW9.out] at hk9
    have rz9 := HRZ.out.keep (hk9.block br HRZ.out.lt (by have := HBR.out.1; omega))
    have HAD : Hid (RdrAt w31 100 rb B ⟨b.drop 16, 0⟩) := Lib.hid (by rw [← HW9.out]; exact RdrAt.advance (s := ⟨b, 0⟩) (A' := A') HBB.out HN.out HB2.out.2.1 HB2.out.2.2.1 HD.out.2.1 (HRC.out.keep fun p hp => HV8.out.cell (p := p) (Nat.lt_of_lt_of_le hp (Nat.le_of_lt (Nat.lt_of_le_of_lt HB2.out.2.2.2 HB2.out.1.lt))) (show ¬ p.block = br by have := HBR.out.2.1; omega)) HB2.out.2.2.2)
    have HK9 : Hid (Keep (fun q => q = rb) w w31) := Lib.hid ((HK2.out.then (T := fun q => q = br) HV8.out (fun k e => .inr (by have := HBR.out.2.2; omega))).trans hk9)
    clear hk9
    go_wp2_with (first
      | (refine wpList_loadRow rfl _ (.tmp 2) rfl rz9 rfl Try.underlying42 (by rw [bvs_length, HDL.out]; exact size16d) ?_)
      | (refine wpList_storeRow rfl _ (.tmp 2) (.tmp 25) rfl (l' := bvs D) rz9 rfl rfl (by rw [bvs_length, HDL.out]; exact size16d) rfl (List.all_eq_true.2 (bvs_one D)) ?_; intro w39 rz39 g39 z39))
    refine bodyPost_ret (resultRow rfl _ _ rz39 rfl Try.underlying42 (by rw [bvs_length, HDL.out]; exact size16d)) rfl ?_
    obtain ⟨_, _, hD, hs', _⟩ := HD.out
    have hbl := HBR.out
    refine ⟨rfl, ?_, HK9.out.grown g39 (fun k e => .inr (by have := Option.some.inj e; omega))⟩
    rw [hs']
    exact HAD.out.keep (Keep.of_grown (S := fun q => q = br) g39 fun k e => (Option.some.inj e).symm) (by show ¬ rb = br; omega) (fun k hk => by show ¬ k = br; omega)

end Go.Proofs.Ytcicfneekmbamaa
