/- ChargeMatchesSpec: Of is as specified. Conditions: none. -/
import Derived.Test.YtfllkaeaanahmaaGreatChaL
namespace Go.Proofs.YtfllkaeaanahmaaGreat
set_option linter.unusedVariables false
set_option linter.unusedSimpArgs false
open Go.RowKit
open W (FRow)
set_option maxRecDepth 100000 in
set_option maxHeartbeats 6400000 in
theorem lawCMatch (cf : S.Str.Cfg) (A : Option Addr) (n c : Nat) (D : List S.RR) (hnc : n ≤ c) (A1 : Option Addr) (n1 c1 : Nat) (ops : List Chk.Op) (hl : ops.length = n1) (hnc1 : n1 ≤ c1) (hc1 : c1 ≤ 140737488355328) (hok : ∀ o ∈ ops, OpOk o) (A2 : Option Addr) (n2 c2 : Nat) (bs : List Int) (hl2 : bs.length = n2) (hnc2 : n2 ≤ c2) (hc2 : c2 ≤ 140737488355328) (hxr : ∀ x ∈ bs, -9223372036854775808 ≤ x ∧ x ≤ 9223372036854775807) (w : World) (hrd : S.RowsIn w w.heap.size A n D (D.map S.RR.r)) (hr : Rd w w.heap.size 9 A1 n1 (ops.flatMap opL)) (hb : Rd w w.heap.size 1 A2 n2 (ivs bs)) :
  Calls Tryz.prog 3 #[S.cfV cf, .slice A n c, .slice A1 n1 c1, .slice A2 n2 c2] w fun e w' => e = .returned (.bool true) ∧ Below w.heap.size w w' := by
 clear hxr
 have HSN := Lib.hid sanity34_any
 obtain ⟨ca, cl, w0, hca, hcl, hw0, hrow, hb0, hs0⟩ := cfg_box cf w
 have hmx := hrd.mx
 obtain ⟨fq, hfq⟩ : ∃ q, decide (cf.rows ≤ 64 ∧ n ≤ 64) = q := ⟨_, rfl⟩
 have HFW := Lib.hid (fun (W : World) => few_any cf A n c hrd.mx W fq hfq)
 rw [hca] at HFW ⊢
 have HW := Lib.hid hw0
 have HB := Lib.hid hb0
 have HR := Lib.hid hrow.1
 have HCL := Lib.hid (And.intro hcl hrow.2)
 have HRD := Lib.hid hrd
 have HBL := Lib.hid (And.intro hl2 (And.intro (show n2 ≤ maxLen by unfold maxLen; omega) hb))
 by_cases hn : n1 ≤ 120
 case neg =>
  have HBU := Lib.hid (fun W => build34_long A1 n1 c1 W (by omega))
  clear hw0 hb0 hs0 hcl hca hrow hr hok hl hrd hfq hb hl2
  go_enter Tryz.func3, Tryz.ntmps3
  go_upto_region 1 with fail
  rw [HW.out]
  go_wp2_with (first
   | (go_at_call 8; refine (HBU.out _).mono ?_; rintro e w1 ⟨rfl, b1⟩; have HB1 := Lib.hid (HB.out.trans (b1.mono HB.out.size)); clear b1)
   | (go_at_call 10; refine (HSN.out _).mono ?_; rintro e w3 ⟨rfl, b3⟩))
  go_ret
  exact ⟨rfl, HB1.out.trans (b3.mono HB1.out.size)⟩
 have HOO := Lib.hid (show OpsAt w0 A1 n1 ops from OpsAt.below (w := w) ⟨hr, hl, fun o ho => (hok o ho).2.2.2.2.2⟩ hb0)
 have HBU := Lib.hid (build34_any A1 n1 c1 ops w0 hn HOO.out)
 obtain ⟨l, hll⟩ : ∃ l, Chk.run [] ops = l := ⟨_, rfl⟩
 rw [hll] at HBU
 cases fq with
 | false =>
  clear hw0 hb0 hs0 hcl hca hrow hr hok hl hrd hfq hll hb hl2
  go_enter Tryz.func3, Tryz.ntmps3
  go_upto_region 1 with fail
  rw [HW.out]
  go_upto_region 2 with (go_at_call 8; refine HBU.out.mono ?_; rintro e w1 ⟨a, r, rfl, hp1⟩)
  have HP := Lib.hid hp1
  have HB1 := Lib.hid (HB.out.trans (hp1.b.mono HB.out.size))
  have hcr : w1.rangeAt w.heap.size 0 cl := fun q u hq => by rw [Nat.zero_add, (HR.out.below' hp1.b).cell]; exact hq
  clear hp1
  go_wp2_with (first
   | (have tok := hcr; refine S.wpList_load_rg rfl _ (.tmp 4) rfl w.heap.size 0 rfl cl _ hcr Tryz.underlying23 rfl (by rw [HCL.out.2.1]; exact S.sizeCf) ?_; rw [HCL.out.1]; clear tok)
   | (go_at_call 9; refine (HFW.out _).mono ?_; rintro e w2 ⟨rfl, b2⟩; have HB2 := Lib.hid (HB1.out.trans (b2.mono HB1.out.size)); clear b2 hcr)
   | (go_at_call 10; refine (HSN.out _).mono ?_; rintro e w3 ⟨rfl, b3⟩))
  go_ret
  exact ⟨rfl, HB2.out.trans (b3.mono HB2.out.size)⟩
 | true =>
  have HCA := Lib.hid hca
  clear hw0 hb0 hs0 hcl hca hrow hr hok hl hrd hfq hll hb hl2 hn
  go_enter Tryz.func3, Tryz.ntmps3
  go_upto_region 1 with fail
  rw [HW.out]
  go_upto_region 2 with (go_at_call 8; refine HBU.out.mono ?_; rintro e w1 ⟨a, r, rfl, hp1⟩)
  have HP := Lib.hid hp1
  have HB1 := Lib.hid (HB.out.trans (hp1.b.mono HB.out.size))
  have HCR1 := Lib.hid (HR.out.below' hp1.b)
  have hcr : w1.rangeAt w.heap.size 0 cl := fun q u hq => by rw [Nat.zero_add, HCR1.out.cell]; exact hq
  clear hp1
  go_upto_region 4 with (first
   | (have tok := hcr; refine S.wpList_load_rg rfl _ (.tmp 4) rfl w.heap.size 0 rfl cl _ hcr Tryz.underlying23 rfl (by rw [HCL.out.2.1]; exact S.sizeCf) ?_; rw [HCL.out.1]; clear tok)
   | (go_at_call 9; refine (HFW.out _).mono ?_; rintro e w2 ⟨rfl, b2⟩; have HB2 := Lib.hid b2; clear b2))
  clear hcr
  obtain ⟨o, ho⟩ : ∃ o, Cha.ofO l cf (D.map S.RR.r) bs = o := ⟨_, rfl⟩
  obtain ⟨N4, X, H4, E, hXN, hN16, hU, -, -⟩ := shU o
  have HPO : Hid (∀ W, Below w2.heap.size w2 W → Calls Tryz.prog 11 #[.agg ca, .slice A n c, .pointer (some ⟨a, 0, none⟩), .slice A2 n2 c2] W (ShU W N4 X H4 E)) := Lib.hid fun V hV => by
   obtain ⟨F, T, F', T', ⟨t, ht⟩, ⟨t', ht'⟩, -⟩ := HP.out
   have hwV := (HB1.out.trans (HB2.out.mono HB1.out.size)).trans (hV.mono (HB1.out.trans (HB2.out.mono HB1.out.size)).size)
   have := pof_any (HB2.out.trans (hV.mono HB2.out.size)) ht (HRD.out.below hwV) hwV.size hnc cf A2 n2 c2 bs HBL.out.1 HBL.out.2.1 hwV.size (HBL.out.2.2.below hwV)
   rw [ho, HCA.out] at this
   exact this.mono fun e w' h => hU _ _ _ h
  have HRO : Hid (∀ W, Below w2.heap.size w2 W → Calls Tryz.prog 12 #[.agg ca, .slice A n c, .pointer (some ⟨r, 0, none⟩), .slice A2 n2 c2] W (ShU W N4 X H4 E)) := Lib.hid fun V hV => by
   obtain ⟨F, T, F', T', ⟨t, ht⟩, ⟨t', ht'⟩, -⟩ := HP.out
   have hwV := (HB1.out.trans (HB2.out.mono HB1.out.size)).trans (hV.mono (HB1.out.trans (HB2.out.mono HB1.out.size)).size)
   have := rof_any (HB2.out.trans (hV.mono HB2.out.size)) ht' (HRD.out.below hwV) hwV.size hnc cf A2 n2 c2 bs HBL.out.1 HBL.out.2.1 hwV.size (HBL.out.2.2.below hwV)
   rw [ho, HCA.out] at this
   exact this.mono fun e w' h => hU _ _ _ h
  have HXN := Lib.hid (And.intro hXN hN16)
  have HCR1 := Lib.hid (HCR1.out.below' HB2.out)
  have Hw2 := Lib.hid (Below.refl w2.heap.size w2)
  unfold ShU at HPO HRO
  clear hXN hN16 hU ho
  have hcr : w2.rangeAt w.heap.size 0 cl := fun q u hq => by rw [Nat.zero_add, (HCR1.out.below' Hw2.out).cell]; exact hq
  go_upto_region 5 with (first
   | (have tok := hcr; refine S.wpList_load_rg rfl _ (.tmp 4) rfl w.heap.size 0 rfl cl _ hcr Tryz.underlying23 rfl (by rw [HCL.out.2.1]; exact S.sizeCf) ?_; rw [HCL.out.1]; clear tok)
   | (have tok := r4; refine wpList_storeRow rfl _ (.tmp 12) (.tmp 37) rfl (l' := [.slice A4 N4 c4, .int .i64 H4]) r4 rfl rfl sizeSP rfl rfl ?_; intro w45 r45 g45 z45; clear tok)
   | (go_at_call 11; refine (HPO.out _ Hw2.out).mono ?_; rintro e w43 ⟨A4, c4, rfl, rd4, b43⟩)
   | (refine wpList_allocRow rfl _ rfl _ infoSP ?_; intro w44 r4 b4 z4))
  have hc4 : Below w43.heap.size w43 w45 := b4.grown g45 b4.size (fun i hi => by have := Option.some.inj hi; omega)
  have hd4 := b43.trans (hc4.mono b43.size)
  have HBR4 := Lib.hid hd4
  have Hw45 := Lib.hid (Hw2.out.trans (hd4.mono Hw2.out.size))
  have HX4 := Lib.hid (And.intro r45 ((rd4.below hc4).more hc4.size))
  obtain ⟨b49, hb49⟩ : ∃ y, w43.heap.size = y := ⟨_, rfl⟩
  rw [hb49] at HX4
  try rw [hb49]
  clear hcr r4 b4 z4 r45 g45 z45 hc4 hd4 hb49 rd4 b43
  try simp only [PT]
  have hcr : w45.rangeAt w.heap.size 0 cl := fun q u hq => by rw [Nat.zero_add, (HCR1.out.below' Hw45.out).cell]; exact hq
  go_upto_region 6 with (first
   | (have tok := hcr; refine S.wpList_load_rg rfl _ (.tmp 4) rfl w.heap.size 0 rfl cl _ hcr Tryz.underlying23 rfl (by rw [HCL.out.2.1]; exact S.sizeCf) ?_; rw [HCL.out.1]; clear tok)
   | (have tok := r5; refine wpList_storeRow rfl _ (.tmp 14) (.tmp 45) rfl (l' := [.slice A5 N4 c5, .int .i64 H4]) r5 rfl rfl sizeSR rfl rfl ?_; intro w55 r55 g55 z55; clear tok)
   | (go_at_call 12; refine (HRO.out _ Hw45.out).mono ?_; rintro e w53 ⟨A5, c5, rfl, rd5, b53⟩)
   | (refine wpList_allocRow rfl _ rfl _ infoSR ?_; intro w54 r5 b5 z5))
  have hc5 : Below w53.heap.size w53 w55 := b5.grown g55 b5.size (fun i hi => by have := Option.some.inj hi; omega)
  have hd5 := b53.trans (hc5.mono b53.size)
  have HBR5 := Lib.hid hd5
  have Hw55 := Lib.hid (Hw45.out.trans (hd5.mono Hw45.out.size))
  have HX5 := Lib.hid (And.intro r55 ((rd5.below hc5).more hc5.size))
  obtain ⟨b59, hb59⟩ : ∃ y, w53.heap.size = y := ⟨_, rfl⟩
  rw [hb59] at HX5
  try rw [hb59]
  clear hcr r5 b5 z5 r55 g55 z55 hc5 hd5 hb59 rd5 b53
  try simp only [PT]
  have HX4 := Lib.hid (And.intro (HX4.out.1.below' HBR5.out) ((HX4.out.2.below HBR5.out).more HBR5.out.size))
  have e9 : (E == E) = true := by simp
  have hv0 : Below w55.heap.size w55 w55.drew := (Below.refl _ _).drew
  refine wp_region_held_drew (S := fun W => Below w55.heap.size w55 W) (by kernel_rfl) (hv0) (fun hHeld => ?_)
  refine wpAnyH_ready (rs := [0]) (by kernel_rfl) (by simp) ?_
  refine AllReadyH.cons (o := { dst := some 47, op := Op.call { callee := Callee.value (Operand.func 10), args := #[], argTypes := #[] }, type := 4, pos := "law.go:81", after := #[], guard := none }) rfl (fun K hK => ?_) AllReadyH.nil
  go_simp
  refine (HSN.out _).mono ?_
  rintro e w60 ⟨rfl, b60⟩
  have hv60 : Below w55.heap.size w55 w60 := hv0.trans (b60.mono hv0.size)
  clear b60
  refine hK.out _ _ (hv60) (fun hHeld => ?_)
  clear hK K
  try simp only [PT]
  refine wpAnyH_take (i := 1) (oi := { dst := some 48, op := Op.move (Operand.tmp 47), type := 4, pos := "law.go:81", after := #[{ on := 0, ground := Ground.data }, { on := 0, ground := Ground.chain }], guard := none }) (v := ?v1_1) rfl (by kernel_rfl) (by kernel_rfl) (by kernel_rfl) (fun _ _ _ h => h) (Or.inl ⟨by rfl, ?h1_1⟩) (by assumption) ?r1_1
  case h1_1 =>
   intro W hSW
   try dsimp only at hSW
   go_simp
   try with_reducible rfl
  try simp only [PT]
  refine wpAnyH_take (i := 2) (oi := { dst := some 49, op := Op.load 35 (Operand.tmp 12), type := 35, pos := "law.go:81", after := #[{ on := 1, ground := Ground.guard }], guard := some (1, true) }) (v := (.agg #[.slice A4 N4 c4, .int .i64 H4])) rfl (by kernel_rfl) (by kernel_rfl) (by kernel_rfl) (fun _ _ _ h => h) (yieldsIf_load_mid (by rfl) 35 (.tmp 12) rfl b49 0 rfl [.slice A4 N4 c4, .int .i64 H4] _ (fun W hW q v hv => by rw [Nat.zero_add]; exact ((HX4.out.1.below' hW).cell q).trans hv) Tryz.underlying35 rfl sizeSP) (by assumption) ?_
  try simp only [PT]
  refine wpAnyH_take (i := 4) (oi := { dst := some 51, op := Op.load 39 (Operand.tmp 14), type := 39, pos := "law.go:81", after := #[{ on := 1, ground := Ground.guard }], guard := some (1, true) }) (v := (.agg #[.slice A5 N4 c5, .int .i64 H4])) rfl (by kernel_rfl) (by kernel_rfl) (by kernel_rfl) (fun _ _ _ h => h) (yieldsIf_load_mid (by rfl) 39 (.tmp 14) rfl b59 0 rfl [.slice A5 N4 c5, .int .i64 H4] _ (fun W hW q v hv => by rw [Nat.zero_add]; exact ((HX5.out.1.below' hW).cell q).trans hv) Tryz.underlying39 rfl sizeSR) (by assumption) ?_
  try simp only [PT]
  refine wpAnyH_ready (rs := [3]) (by kernel_rfl) (by simp) ?_
  refine AllReadyH.cons (o := { dst := some 50, op := Op.call { callee := Callee.value (Operand.func 14), args := #[Operand.tmp 49], argTypes := #[35] }, type := 39, pos := "law.go:81", after := #[{ on := 2, ground := Ground.data }, { on := 1, ground := Ground.chain }, { on := 1, ground := Ground.guard }], guard := some (1, true) }) rfl (fun K hK => ?_) AllReadyH.nil
  go_simp
  refine (own_any A4 N4 c4 H4 _).mono ?_
  rintro e w61 ⟨rfl, b61⟩
  have hv61 : Below w55.heap.size w55 w61 := hv60.trans (b61.mono hv60.size)
  clear b61
  refine hK.out _ _ (hv61) (fun hHeld => ?_)
  clear hK K
  try simp only [PT]
  refine wpAnyH_ready (rs := [5]) (by kernel_rfl) (by simp) ?_
  refine AllReadyH.cons (o := { dst := some 52, op := Op.call { callee := Callee.value (Operand.func 13), args := #[Operand.tmp 50, Operand.tmp 51], argTypes := #[39, 39] }, type := 4, pos := "law.go:81", after := #[{ on := 3, ground := Ground.data }, { on := 4, ground := Ground.data }, { on := 3, ground := Ground.chain }, { on := 1, ground := Ground.guard }], guard := some (1, true) }) rfl (fun K hK => ?_) AllReadyH.nil
  go_simp
  refine (same34_any A4 A5 c4 c5 N4 N4 X X H4 H4 _ HXN.out.1 HXN.out.1 (by have := HXN.out.2; unfold maxLen; omega) w55.heap.size w55.heap.size hv61.size hv61.size (HX4.out.2.below hv61) (HX5.out.2.below hv61) true (decide_eq_true ⟨rfl, rfl⟩)).mono ?_
  rintro e w62 ⟨rfl, b62⟩
  have hv62 : Below w55.heap.size w55 w62 := hv61.trans (b62.mono hv61.size)
  clear b62
  refine hK.out _ _ (hv62) (fun hHeld => ?_)
  clear hK K
  try simp only [PT]
  refine wpAnyH_take (i := 6) (oi := { dst := some 53, op := Op.pick (Operand.tmp 48) (Operand.tmp 52) (Operand.const (Value.bool false)), type := 4, pos := "law.go:81", after := #[{ on := 1, ground := Ground.data }, { on := 5, ground := Ground.data }], guard := none }) (v := ?v6_4) rfl (by kernel_rfl) (by kernel_rfl) (by kernel_rfl) (fun _ _ _ h => h) (Or.inl ⟨by rfl, ?h6_4⟩) (by assumption) ?r6_4
  case h6_4 =>
   intro W hSW
   try dsimp only at hSW
   go_simp
   try with_reducible rfl
  try simp only [PT]
  refine wpAnyH_take (i := 7) (oi := { dst := some 54, op := Op.move (Operand.tmp 53), type := 4, pos := "law.go:81", after := #[{ on := 6, ground := Ground.data }, { on := 5, ground := Ground.chain }], guard := none }) (v := ?v7_5) rfl (by kernel_rfl) (by kernel_rfl) (by kernel_rfl) (fun _ _ _ h => h) (Or.inl ⟨by rfl, ?h7_5⟩) (by assumption) ?r7_5
  case h7_5 =>
   intro W hSW
   try dsimp only at hSW
   go_simp
   try with_reducible rfl
  try simp only [PT]
  refine wpAnyH_take (i := 8) (oi := { dst := some 55, op := Op.move (Operand.tmp 13), type := 36, pos := "law.go:81", after := #[{ on := 7, ground := Ground.guard }], guard := some (7, true) }) (v := ?v8_6) rfl (by kernel_rfl) (by kernel_rfl) (by kernel_rfl) (fun _ _ _ h => h) (Or.inl ⟨by rfl, ?h8_6⟩) (by assumption) ?r8_6
  case h8_6 =>
   intro W hSW
   try dsimp only at hSW
   go_simp
   try with_reducible rfl
  try simp only [PT]
  refine wpAnyH_take (i := 9) (oi := { dst := some 56, op := Op.move (Operand.tmp 15), type := 36, pos := "law.go:81", after := #[{ on := 7, ground := Ground.guard }], guard := some (7, true) }) (v := ?v9_7) rfl (by kernel_rfl) (by kernel_rfl) (by kernel_rfl) (fun _ _ _ h => h) (Or.inl ⟨by rfl, ?h9_7⟩) (by assumption) ?r9_7
  case h9_7 =>
   intro W hSW
   try dsimp only at hSW
   go_simp
   try with_reducible rfl
  try simp only [PT]
  refine wpAnyH_take (i := 10) (oi := { dst := some 57, op := Op.binOp BinOp.eql 36 (Operand.tmp 55) (Operand.tmp 56) 36, type := 4, pos := "law.go:81", after := #[{ on := 8, ground := Ground.data }, { on := 9, ground := Ground.data }, { on := 7, ground := Ground.guard }], guard := some (7, true) }) (v := ?v10_8) rfl (by kernel_rfl) (by kernel_rfl) (by kernel_rfl) (fun _ _ _ h => h) (Or.inl ⟨by rfl, ?h10_8⟩) (by assumption) ?r10_8
  case h10_8 =>
   intro W hSW
   try dsimp only at hSW
   go_simp
   try with_reducible rfl
  try simp only [PT]
  refine wpAnyH_take (i := 11) (oi := { dst := some 58, op := Op.pick (Operand.tmp 54) (Operand.tmp 57) (Operand.const (Value.bool false)), type := 4, pos := "law.go:81", after := #[{ on := 7, ground := Ground.data }, { on := 10, ground := Ground.data }], guard := none }) (v := ?v11_9) rfl (by kernel_rfl) (by kernel_rfl) (by kernel_rfl) (fun _ _ _ h => h) (Or.inl ⟨by rfl, ?h11_9⟩) (by assumption) ?r11_9
  case h11_9 =>
   intro W hSW
   try dsimp only at hSW
   go_simp
   try with_reducible rfl
  try simp only [PT]
  refine wpAnyH_take (i := 12) (oi := { dst := some 8, op := Op.assign (Operand.tmp 58), type := 4, pos := "law.go:81", after := #[{ on := 11, ground := Ground.data }, { on := 7, ground := Ground.chain }, { on := 0, ground := Ground.phase }, { on := 1, ground := Ground.phase }, { on := 2, ground := Ground.phase }, { on := 3, ground := Ground.phase }, { on := 4, ground := Ground.phase }, { on := 5, ground := Ground.phase }, { on := 6, ground := Ground.phase }, { on := 7, ground := Ground.phase }, { on := 8, ground := Ground.phase }, { on := 9, ground := Ground.phase }, { on := 10, ground := Ground.phase }, { on := 11, ground := Ground.phase }], guard := none }) (v := ?v12_10) rfl (by kernel_rfl) (by kernel_rfl) (by kernel_rfl) (fun _ _ _ h => h) (Or.inl ⟨by rfl, ?h12_10⟩) (by assumption) ?r12_10
  case h12_10 =>
   intro W hSW
   try dsimp only at hSW
   go_simp
   try with_reducible rfl
  try simp only [PT]
  refine wpAnyH_done (by kernel_rfl) ?_ _
  have HV9 := Lib.hid hv62
  go_wp2_with fail
  go_ret
  have q2 := HB1.out.trans (HB2.out.mono HB1.out.size)
  have q5 := q2.trans (Hw55.out.mono q2.size)
  exact ⟨rfl, q5.trans (HV9.out.mono q5.size)⟩
end Go.Proofs.YtfllkaeaanahmaaGreat
