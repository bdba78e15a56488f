/- Layer 35's reference: Take. Conditions: at most a million bytes. -/
import Derived.Test.YtkjomnakolhdcaaDoorHeld2
import Derived.Test.YtkjomnakolhdcaaDoorBilRd
import Derived.Test.YtkjomnakolhdcaaDoorWireLaws
namespace Go.Proofs.YtkjomnakolhdcaaDoor
set_option linter.unusedVariables false
set_option linter.unusedSimpArgs false
open Go.RowKit
abbrev oTx0 : Oper := { dst := some 51, op := Op.load 35 (Operand.tmp 5), type := 35, pos := "ref.go:315", after := #[], guard := none }
abbrev oTx1 : Oper := { dst := some 52, op := Op.move (Operand.tmp 4), type := 105, pos := "ref.go:315", after := #[], guard := none }
abbrev oTx2 : Oper := { dst := some 53, op := Op.nilCheck (Operand.tmp 52), type := 0, pos := "ref.go:315", after := #[{ on := 1, ground := Ground.data }], guard := none }
abbrev oTx3 : Oper := { dst := some 54, op := Op.fieldAddr 107 (Operand.tmp 53) 1, type := 0, pos := "ref.go:315", after := #[{ on := 2, ground := Ground.data }], guard := none }
abbrev oTx4 : Oper := { dst := some 55, op := Op.load 26 (Operand.tmp 54), type := 26, pos := "ref.go:315", after := #[{ on := 3, ground := Ground.data }], guard := none }
abbrev oTx5 : Oper := { dst := some 56, op := Op.binOp BinOp.eql 26 (Operand.tmp 55) (Operand.const (Value.int IntKind.i64 0)) 26, type := 4, pos := "ref.go:315", after := #[{ on := 4, ground := Ground.data }], guard := none }
abbrev oTx6 : Oper := { dst := some 57, op := Op.move (Operand.tmp 56), type := 4, pos := "ref.go:315", after := #[{ on := 5, ground := Ground.data }], guard := none }
abbrev oTx7 : Oper := { dst := some 58, op := Op.move (Operand.tmp 4), type := 105, pos := "ref.go:315", after := #[{ on := 6, ground := Ground.guard }], guard := some (6, true) }
abbrev oTx8 : Oper := { dst := some 59, op := Op.nilCheck (Operand.tmp 58), type := 0, pos := "ref.go:315", after := #[{ on := 7, ground := Ground.data }, { on := 6, ground := Ground.guard }], guard := some (6, true) }
abbrev oTx9 : Oper := { dst := some 60, op := Op.fieldAddr 107 (Operand.tmp 59) 0, type := 0, pos := "ref.go:315", after := #[{ on := 8, ground := Ground.data }, { on := 6, ground := Ground.guard }], guard := some (6, true) }
abbrev oTx10 : Oper := { dst := some 61, op := Op.load 58 (Operand.tmp 60), type := 58, pos := "ref.go:315", after := #[{ on := 9, ground := Ground.data }, { on := 6, ground := Ground.guard }], guard := some (6, true) }
abbrev oTx11 : Oper := { dst := some 62, op := Op.call { callee := Callee.builtin Builtin.len, args := #[Operand.tmp 61], argTypes := #[58] }, type := 3, pos := "ref.go:315", after := #[{ on := 10, ground := Ground.data }, { on := 6, ground := Ground.guard }], guard := some (6, true) }
abbrev oTx12 : Oper := { dst := some 63, op := Op.binOp BinOp.eql 3 (Operand.tmp 62) (Operand.const (Value.int IntKind.i64 0)) 3, type := 4, pos := "ref.go:315", after := #[{ on := 11, ground := Ground.data }, { on := 6, ground := Ground.guard }], guard := some (6, true) }
abbrev oTx13 : Oper := { dst := some 64, op := Op.pick (Operand.tmp 57) (Operand.tmp 63) (Operand.const (Value.bool false)), type := 4, pos := "ref.go:315", after := #[{ on := 6, ground := Ground.data }, { on := 12, ground := Ground.data }], guard := none }
abbrev oTx14 : Oper := { dst := some 65, op := Op.move (Operand.tmp 64), type := 4, pos := "ref.go:315", after := #[{ on := 13, ground := Ground.data }, { on := 6, ground := Ground.chain }], guard := none }
abbrev oTx15 : Oper := { dst := some 66, op := Op.fieldAddr 35 (Operand.tmp 5) 0, type := 0, pos := "ref.go:315", after := #[{ on := 14, ground := Ground.guard }], guard := some (14, true) }
abbrev oTx16 : Oper := { dst := some 67, op := Op.load 3 (Operand.tmp 66), type := 3, pos := "ref.go:315", after := #[{ on := 15, ground := Ground.data }, { on := 14, ground := Ground.guard }], guard := some (14, true) }
abbrev oTx17 : Oper := { dst := some 68, op := Op.binOp BinOp.eql 3 (Operand.tmp 67) (Operand.const (Value.int IntKind.i64 1)) 3, type := 4, pos := "ref.go:315", after := #[{ on := 16, ground := Ground.data }, { on := 14, ground := Ground.guard }], guard := some (14, true) }
abbrev oTx18 : Oper := { dst := some 69, op := Op.move (Operand.tmp 68), type := 4, pos := "ref.go:315", after := #[{ on := 17, ground := Ground.data }, { on := 14, ground := Ground.chain }, { on := 14, ground := Ground.guard }], guard := some (14, true) }
abbrev oTx19 : Oper := { dst := some 70, op := Op.fieldAddr 35 (Operand.tmp 5) 0, type := 0, pos := "ref.go:315", after := #[{ on := 18, ground := Ground.guard }, { on := 24, ground := Ground.gcOnly Departure.lateStores }], guard := some (18, false) }
abbrev oTx20 : Oper := { dst := some 71, op := Op.load 3 (Operand.tmp 70), type := 3, pos := "ref.go:315", after := #[{ on := 19, ground := Ground.data }, { on := 18, ground := Ground.guard }, { on := 24, ground := Ground.gcOnly Departure.lateStores }], guard := some (18, false) }
abbrev oTx21 : Oper := { dst := some 72, op := Op.binOp BinOp.eql 3 (Operand.tmp 71) (Operand.const (Value.int IntKind.i64 2)) 3, type := 4, pos := "ref.go:315", after := #[{ on := 20, ground := Ground.data }, { on := 18, ground := Ground.guard }, { on := 24, ground := Ground.gcOnly Departure.lateStores }], guard := some (18, false) }
abbrev oTx22 : Oper := { dst := some 73, op := Op.pick (Operand.tmp 69) (Operand.const (Value.bool true)) (Operand.tmp 72), type := 4, pos := "ref.go:315", after := #[{ on := 18, ground := Ground.data }, { on := 21, ground := Ground.data }, { on := 14, ground := Ground.guard }, { on := 24, ground := Ground.gcOnly Departure.lateStores }], guard := some (14, true) }
abbrev oTx23 : Oper := { dst := some 74, op := Op.pick (Operand.tmp 65) (Operand.tmp 73) (Operand.const (Value.bool false)), type := 4, pos := "ref.go:315", after := #[{ on := 14, ground := Ground.data }, { on := 22, ground := Ground.data }, { on := 24, ground := Ground.gcOnly Departure.lateStores }], guard := none }
abbrev oTx24 : Oper := { dst := none, op := Op.store 35 (Operand.tmp 2) (Operand.tmp 51), type := 0, pos := "ref.go:315", after := #[{ on := 0, ground := Ground.data }, { on := 18, ground := Ground.chain }, { on := 0, ground := Ground.phase }, { on := 1, ground := Ground.textOnly Departure.lateStores }, { on := 2, ground := Ground.textOnly Departure.lateStores }, { on := 3, ground := Ground.textOnly Departure.lateStores }, { on := 4, ground := Ground.textOnly Departure.lateStores }, { on := 5, ground := Ground.textOnly Departure.lateStores }, { on := 6, ground := Ground.textOnly Departure.lateStores }, { on := 7, ground := Ground.textOnly Departure.lateStores }, { on := 8, ground := Ground.textOnly Departure.lateStores }, { on := 9, ground := Ground.textOnly Departure.lateStores }, { on := 10, ground := Ground.textOnly Departure.lateStores }, { on := 11, ground := Ground.textOnly Departure.lateStoresUnsure }, { on := 12, ground := Ground.textOnly Departure.lateStores }, { on := 13, ground := Ground.textOnly Departure.lateStores }, { on := 14, ground := Ground.textOnly Departure.lateStores }, { on := 15, ground := Ground.textOnly Departure.lateStores }, { on := 16, ground := Ground.textOnly Departure.lateStores }, { on := 17, ground := Ground.textOnly Departure.lateStores }, { on := 18, ground := Ground.textOnly Departure.lateStores }, { on := 19, ground := Ground.textOnly Departure.lateStores }, { on := 20, ground := Ground.textOnly Departure.lateStores }, { on := 21, ground := Ground.textOnly Departure.lateStores }, { on := 22, ground := Ground.textOnly Departure.lateStores }, { on := 23, ground := Ground.textOnly Departure.lateStores }], guard := none }
abbrev oTx25 : Oper := { dst := some 3, op := Op.assign (Operand.tmp 74), type := 4, pos := "ref.go:315", after := #[{ on := 23, ground := Ground.data }, { on := 24, ground := Ground.chain }, { on := 0, ground := Ground.phase }, { on := 1, ground := Ground.phase }, { on := 2, ground := Ground.phase }, { on := 3, ground := Ground.phase }, { on := 4, ground := Ground.phase }, { on := 5, ground := Ground.phase }, { on := 6, ground := Ground.phase }, { on := 7, ground := Ground.phase }, { on := 8, ground := Ground.phase }, { on := 9, ground := Ground.phase }, { on := 10, ground := Ground.phase }, { on := 11, ground := Ground.phase }, { on := 12, ground := Ground.phase }, { on := 13, ground := Ground.phase }, { on := 14, ground := Ground.phase }, { on := 15, ground := Ground.phase }, { on := 16, ground := Ground.phase }, { on := 17, ground := Ground.phase }, { on := 18, ground := Ground.phase }, { on := 19, ground := Ground.phase }, { on := 20, ground := Ground.phase }, { on := 21, ground := Ground.phase }, { on := 22, ground := Ground.phase }, { on := 23, ground := Ground.phase }, { on := 24, ground := Ground.phase }], guard := none }
set_option maxRecDepth 100000 in
set_option maxHeartbeats 3200000 in
theorem rTake_any (s : ByteArray) (hs : s.size ≤ 1000000) (w : World) : Calls Tryd.prog 56 #[.string s] w (TakeRes w s.data.toList) := by
 obtain ⟨b, hb⟩ : ∃ b, s.data.toList = b := ⟨_, rfl⟩
 have hbl : b.length = s.size := by rw [← hb]; simp
 rw [hb]
 obtain ⟨k, b1, e1, h1⟩ : ∃ k b1 e1, Bil.any b 0 = (k, b1, e1) := ⟨_, _, _, rfl⟩
 obtain ⟨p, b2', e2, h2⟩ : ∃ k b1' e1', Bil.any b1 e1 = (k, b1', e1') := ⟨_, _, _, rfl⟩
 obtain ⟨q, b3', e3, h3⟩ : ∃ k b1' e1', Bil.any b2' e2 = (k, b1', e1') := ⟨_, _, _, rfl⟩
 have HT1 : Hid (∀ W br, RSt W br b 0 → Calls Tryd.prog 81 #[.pointer (some ⟨br, 0, none⟩)] W fun r w' => r = .returned (.int .i64 k) ∧ RSt w' br b1 e1 ∧ Keep (fun q => q = br) W w') := Lib.hid (fun W br hst => by have := rtake_any br b 0 W hst; rw [h1] at this; exact this)
 have HT2 : Hid (∀ W br, RSt W br b1 e1 → Calls Tryd.prog 81 #[.pointer (some ⟨br, 0, none⟩)] W fun r w' => r = .returned (.int .i64 p) ∧ RSt w' br b2' e2 ∧ Keep (fun q => q = br) W w') := Lib.hid (fun W br hst => by have := rtake_any br b1 e1 W hst; rw [h2] at this; exact this)
 have HT3 : Hid (∀ W br, RSt W br b2' e2 → Calls Tryd.prog 81 #[.pointer (some ⟨br, 0, none⟩)] W fun r w' => r = .returned (.int .i64 q) ∧ RSt w' br b3' e3 ∧ Keep (fun q => q = br) W w') := Lib.hid (fun W br hst => by have := rtake_any br b2' e2 W hst; rw [h3] at this; exact this)
 have H123 := Lib.hid (And.intro h1 (And.intro h2 h3))
 have HB := Lib.hid (And.intro hb hbl)
 have HSZ := Lib.hid hs
 clear hb hbl hs h1 h2 h3
 go_enter Tryd.func56, Tryd.ntmps56
 go_upto_region 2 with (first
  | (refine wpList_allocRow rfl _ rfl _ infoBk ?_; intro w1 r1 b1w z1)
  | (refine wpList_ofS2 rfl (.tmp 9) 9 58 5 rfl Tryd.underlying9 Tryd.underlying58 Tryd.underlying5 s rfl HSZ.out ?_; intro A3 c3 w3 rd3 hc3 hm3 b3w))
 have r4 := IsRow.new w3 107 [.slice A3 s.size c3, .int .i64 0]
 rw [show ([.slice A3 s.size c3, .int .i64 0] : List Value).toArray = #[.slice A3 s.size c3, .int .i64 0] from rfl] at r4
 have b4w : Below w3.heap.size w3 (w3.alloc (.cells #[.slice A3 s.size c3, .int .i64 0] 107)) := (Below.refl _ _).alloc (Nat.le_refl _) _
 obtain ⟨w4, hw4⟩ : ∃ x, w3.alloc (.cells #[.slice A3 s.size c3, .int .i64 0] 107) = x := ⟨_, rfl⟩
 rw [hw4] at r4 b4w ⊢
 obtain ⟨br, hbr⟩ : ∃ x, w3.heap.size = x := ⟨_, rfl⟩
 obtain ⟨bo, hbo⟩ : ∃ x, w.heap.size = x := ⟨_, rfl⟩
 have hz1 : bo < br := by have := b3w.size; omega
 have hb04 : Below w.heap.size w w4 := (b1w.trans (b3w.mono b1w.size)).trans (b4w.mono (Nat.le_trans b1w.size b3w.size))
 have r14 := ((r1.below' b3w).below' b4w)
 rw [hbo] at r14
 have hst : RSt w4 br b 0 := ⟨A3, s.size, c3, hbr ▸ r4, HB.out.2, hc3, hm3, by have := HSZ.out; omega, by have := rd3.below b4w; rw [hbr, HB.out.1] at this; exact this⟩
 rw [hbr, hbo]
 have HS4 := Lib.hid (And.intro hst (And.intro r14 (And.intro hb04 (And.intro hz1 hbo))))
 clear hst r14 hb04 hz1 r4 b4w hw4 hbr rd3 hc3 hm3 b3w r1 b1w z1
 go_upto_region 3 with (first
  | (have hgd := r6; refine wpList_storeRow rfl _ (.tmp 5) (.tmp 15) rfl (l' := [.int .i64 k, .int .i64 0, .int .i64 0, .int .i64 0, .slice none 0 0]) r6 rfl rfl size5 rfl rfl ?_; intro w7 r7 g7 z7)
  | (go_at_call 81; refine (HT1.out _ _ HS4.out.1).mono ?_; rintro r w5 ⟨rfl, s5, k5⟩; have HS5 := Lib.hid (And.intro s5 k5); clear s5 k5)
  | (refine wpList_allocRow rfl _ rfl _ infoBk ?_; intro w6 r6 b6 z6))
 obtain ⟨b5, hb5⟩ : ∃ x, w5.heap.size = x := ⟨_, rfl⟩
 have hs7 : TkS w w7 bo br b5 b1 e1 [.int .i64 k, .int .i64 0, .int .i64 0, .int .i64 0, .slice none 0 0] := by
  obtain ⟨hst, r14, hb04, hz1, hbo⟩ := HS4.out
  obtain ⟨s5, k5⟩ := HS5.out
  have hl4 : br < w4.heap.size := by obtain ⟨A, n, c, h, _⟩ := hst.row; exact h.lt
  have hk5 := k5.size
  have hb4 := hb04.size
  have hb05 : Below w.heap.size w w5 := hb04.trans (k5.below hb4 fun q hq e => by omega)
  have r25 := r14.keep (k5.block bo r14.lt (by omega))
  have hb06 := hb05.trans (b6.mono hb05.size)
  have hk7 : Keep (fun q => q = b5) w6 w7 := Keep.of_grown g7 fun k e => by have := Option.some.inj e; omega
  exact ⟨hb06.grown g7 hb06.size (fun j hj => by have := Option.some.inj hj; omega), (r25.below' b6).keep (g7.block bo (r25.below' b6).lt (fun e => by have := Option.some.inj e; omega)), hb5 ▸ r7, (s5.below b6).keeps hk7 (fun q hq e => by omega), ⟨by omega, hz1, by omega⟩⟩
 have HS7 := Lib.hid hs7
 rw [hb5]
 clear hs7 hb5 r6 b6 r7 g7 z6 z7 HS4 HS5
 go_upto_region 4 with (go_at_call 81; refine (HT2.out _ _ HS7.out.st).mono ?_; rintro r w8 ⟨rfl, s8, k8⟩; have HS8 := Lib.hid (HS7.out.next s8 k8); have q1 : w8.cell? ⟨b5, 1, none⟩ = some (.int .i64 0) := HS8.out.r5.cell 1; have f1 : w8.frozen? ⟨b5, 1, none⟩ = false := HS8.out.r5.frozen 1; clear s8 k8)
 obtain ⟨w9, hw9⟩ : ∃ x, w8.setCell ⟨b5, 1, none⟩ (.int .i64 p) = x := ⟨_, rfl⟩
 have HS9 := Lib.hid (HS8.out.put 1 (.int .i64 p))
 rw [hw9] at HS9 ⊢
 clear hw9 q1 f1 HS7 HS8
 go_upto_region 5 with (go_at_call 81; refine (HT3.out _ _ HS9.out.st).mono ?_; rintro r w10 ⟨rfl, s8, k8⟩; have HS10 := Lib.hid (HS9.out.next s8 k8); have q1 : w10.cell? ⟨b5, 2, none⟩ = some (.int .i64 0) := HS10.out.r5.cell 2; have f1 : w10.frozen? ⟨b5, 2, none⟩ = false := HS10.out.r5.frozen 2; clear s8 k8)
 obtain ⟨w11, hw11⟩ : ∃ x, w10.setCell ⟨b5, 2, none⟩ (.int .i64 q) = x := ⟨_, rfl⟩
 have HS11 := Lib.hid (HS10.out.put 2 (.int .i64 q))
 rw [hw11] at HS11 ⊢
 clear hw11 q1 f1 HS9 HS10 HT1 HT2 HT3
 have q0 : w11.cell? ⟨b5, 0, none⟩ = some (.int .i64 k) := HS11.out.r5.cell 0
 have hrf : Bil.refTake b = if k = 1 then (if (Wire.decI b3').2.2 = 0 ∧ e3 = 0 ∧ b3'.drop (Wire.decI b3').2.1 = [] then some ⟨1, p, q, 0, (Wire.decI b3').1⟩ else none) else (if (Bil.any b3' e3).2.2 = 0 ∧ (Bil.any b3' e3).2.1 = [] ∧ k = 2 then some ⟨2, p, q, (Bil.any b3' e3).1, []⟩ else none) := by
  unfold Bil.refTake
  rw [H123.out.1]
  simp only
  rw [H123.out.2.1]
  simp only
  rw [H123.out.2.2]
 have HRF := Lib.hid hrf
 clear hrf
 obtain ⟨A, n, c, hrow, hn, hnc, hcm, hn40, hrd⟩ := HS11.out.st.row
 have qb : w11.cell? ⟨br, 0, none⟩ = some (.slice A n c) := hrow.cell 0
 have hbl : br < w11.heap.size := hrow.lt
 by_cases hk : k = 1
 ·
  subst hk
  obtain ⟨l, v, er, hdi⟩ : ∃ l v er, Wire.decI b3' = (l, v, er) := ⟨_, _, _, rfl⟩
  have HGI : Hid (Calls Tryd.prog 82 #[.slice A n c] w11 fun e w' => ∃ A' c', e = .returned (.tuple #[.slice A' l.length c', .int .i64 v, .int .i64 er]) ∧ w'.ownsRow w11.heap.size 3 1 (.slice A' l.length c') l.length (ivs l) ∧ Below w11.heap.size w11 w') := Lib.hid (by
   subst hn
   exact refGetInts_any A c b3' w11 (hrd.more (Nat.le_of_lt hbl)) hn40 hnc hcm l v er hdi)
  have HRD := Lib.hid (And.intro hn (And.intro hnc (And.intro hcm (And.intro hn40 (And.intro hrd hrow)))))
  have HDI := Lib.hid hdi
  by_cases hz : er = 0
  ·
   subst hz
   have hv := (Wire.decI_ok hdi).1
   have HV : Hid (v ≤ n) := Lib.hid (by omega)
   clear hrow hn hnc hcm hn40 hrd hdi hv
   go_upto_region 9 with (go_at_call 82; refine HGI.out.mono ?_; rintro r w12 ⟨A', c', rfl, own, bw⟩; have HS12 := Lib.hid (HS11.out.down bw); have HOW := Lib.hid (And.intro own bw); have q4 : w12.cell? ⟨b5, 4, none⟩ = some (.slice none 0 0) := HS12.out.r5.cell 4; have f4 : w12.frozen? ⟨b5, 4, none⟩ = false := HS12.out.r5.frozen 4; clear own bw)
   go_upto_region 10 with fail
   obtain ⟨w13, hw13⟩ : ∃ x, w12.setCell ⟨b5, 4, none⟩ (.slice A' l.length c') = x := ⟨_, rfl⟩
   have HS13 := Lib.hid (HS12.out.put 4 (.slice A' l.length c'))
   have hg13 : w12.grownBy w13 (some b5) := by rw [← hw13]; exact grown_setCell _ _ _ _
   rw [hw13] at HS13 ⊢
   have HB5 : Hid (br < b5 ∧ b5 < w11.heap.size) := Lib.hid ⟨HS11.out.o.2.2, HS11.out.r5.lt⟩
   have hrd13 : Rd w13 br 1 A n (bvs b3') := (HRD.out.2.2.2.2.1.below (HOW.out.2.mono (Nat.le_of_lt hbl))).keep fun a ha => World.cell?_of_block (hg13.block a.block (by have := HOW.out.2.size; omega) (fun e => by have := Option.some.inj e; have := HB5.out; omega))
   have hrow13 : IsRow w13 br 107 [.slice A n c, .int .i64 e3] := (HRD.out.2.2.2.2.2.below' HOW.out.2).keep (hg13.block br (by have := HOW.out.2.size; omega) (fun e => by have := Option.some.inj e; have := HB5.out; omega))
   have HOW13 := Lib.hid (own_far HOW.out.1 hg13 HB5.out.2)
   have HRD13 := Lib.hid (And.intro hrd13 hrow13)
   have q0r : w13.cell? ⟨br, 0, none⟩ = some (.slice A n c) := hrow13.cell 0
   have f0r : w13.frozen? ⟨br, 0, none⟩ = false := hrow13.frozen 0
   clear hw13 hg13 q4 f4 hrd13 hrow13 q0 qb
   go_upto_region 12 with (refine wpList_cutFrom rfl (.tmp 43) (.tmp 44) 58 rfl _ _ 1 1 bytesE A n c rfl v .i64 _ rfl rfl HV.out HRD.out.2.1 HRD13.out.1 ?_; intro A2 hr2; have HR2 := Lib.hid hr2; clear hr2)
   obtain ⟨wz, hwz⟩ : ∃ x, w13.setCell ⟨br, 0, none⟩ (.slice A2 (n - v) (c - v)) = x := ⟨_, rfl⟩
   have hgz : w13.grownBy wz (some br) := by rw [← hwz]; exact grown_setCell _ _ _ _
   have hrz : IsRow wz br 107 [.slice A2 (n - v) (c - v), .int .i64 e3] := by rw [← hwz]; exact HRD13.out.2.set 0 _
   have hbvd : (bvs b3').drop (v * 1) = bvs (b3'.drop v) := by rw [Nat.mul_one]; simp [bvs, List.map_drop]
   have hr2 := HR2.out
   rw [hbvd] at hr2
   have hb13 := HRD13.out.2.lt
   have hst : RSt wz br (b3'.drop v) e3 := ⟨A2, n - v, c - v, hrz, by rw [List.length_drop, HRD.out.1], by have := HRD.out.2.1; omega, by have := HRD.out.2.2.1; omega, by have := HRD.out.2.2.2.1; omega, by rw [← hwz]; exact rd_set hr2 hb13⟩
   have HZ : Hid (TkS w wz bo br b5 (b3'.drop v) e3 [.int .i64 1, .int .i64 p, .int .i64 q, .int .i64 0, .slice A' l.length c']) := Lib.hid (HS13.out.next hst (Keep.of_grown hgz fun k e => (Option.some.inj e).symm))
   have HOZ := Lib.hid (own_far HOW13.out hgz hbl)
   have HZR := Lib.hid hrz
   rw [hwz]
   obtain ⟨bb, hbb⟩ : ∃ x, b3'.drop v = x := ⟨_, rfl⟩
   rw [hbb] at HZ
   obtain ⟨nz, hnz⟩ : ∃ x, n - v = x := ⟨_, rfl⟩
   obtain ⟨cz, hcz⟩ : ∃ x, c - v = x := ⟨_, rfl⟩
   have HNZ : Hid (bb.length = nz) := Lib.hid (by rw [← hbb, List.length_drop, HRD.out.1, hnz])
   rw [hnz, hcz] at HZR
   try rw [hnz, hcz]
   have HBBE := Lib.hid hbb
   obtain ⟨Az, hAz⟩ : ∃ x, A2 = x := ⟨_, rfl⟩
   rw [hAz] at HZR
   obtain ⟨ee, hee⟩ : ∃ x, e3 = x := ⟨_, rfl⟩
   obtain ⟨kk, hkk⟩ : ∃ x, (1 : Int) = x := ⟨_, rfl⟩
   have HEE := Lib.hid hee
   rw [hee] at HZ HZR
   have HS11b : Hid (b5 < w11.heap.size) := Lib.hid HS11.out.r5.lt
   clear hgz hrz hbvd hr2 hb13 hst hwz HS11 HS12 HS13 HGI HR2 HRD13 hbb hnz hcz q0r f0r hbl hAz hee
   subst hkk
   by_cases he : ee = 0
   ·
    by_cases hbe : bb = []
    ·
     have hz0 : nz = 0 := by rw [← HNZ.out, hbe]; rfl
     subst hz0
     have hz1 := he
     subst hz1
     have HSS : Hid (Bil.refTake b = some ⟨1, p, q, 0, l⟩) := Lib.hid (by rw [HRF.out, if_pos (by trivial), HDI.out]; exact if_pos ⟨rfl, HEE.out, by rw [← hbe]; exact HBBE.out⟩)
     clear hbe he
     have hbl0 : Below wz.heap.size wz wz.drew := (Below.refl _ _).drew
     go_wp2_with fail
     have hv0 : Keep (fun q => q = bo) wz wz.drew := Keep.of_below (Below.refl _ _).drew
     refine wp_region_held_drew (S := fun W => Keep (fun q => q = bo) wz W) (by kernel_rfl) (hv0) (fun hHeld => ?_)
     obtain ⟨wd, hwd⟩ : ∃ x, wz.drew = x := ⟨_, rfl⟩
     rw [hwd] at hv0 hHeld hbl0 ⊢
     clear hwd
     refine tkH 0 oTx0 (.agg #[.int .i64 1, .int .i64 p, .int .i64 q, .int .i64 0, .slice A' l.length c']) (yieldsIf_load_mid rfl _ (.tmp 5) rfl b5 0 rfl [.int .i64 1, .int .i64 p, .int .i64 q, .int .i64 0, .slice A' l.length c'] _ (fun W hSW => fun j v hv => by rw [(HZ.out.r5.keep (hSW.block b5 HZ.out.r5.lt (fun e : b5 = bo => by have := HZ.out.o; omega))).cell, Nat.zero_add]; exact hv) Tryd.underlying35 rfl size5) ?_
     try simp only [oTx0, PT]
     refine tkH 1 oTx1 ?v1_1002 (.inl ⟨by rfl, ?h1_1002⟩) ?r1_1002
     case h1_1002 =>
      intro W hSW
      unfold oTx1
      try dsimp only at hSW
      go_simp
      try with_reducible rfl
     try simp only [oTx1, PT]
     refine tkH 2 oTx2 ?v2_1003 (.inl ⟨by rfl, ?h2_1003⟩) ?r2_1003
     case h2_1003 =>
      intro W hSW
      unfold oTx2
      try dsimp only at hSW
      go_simp
      try with_reducible rfl
     try simp only [oTx2, PT]
     refine tkH 3 oTx3 ?v3_1004 (.inl ⟨by rfl, ?h3_1004⟩) ?r3_1004
     case h3_1004 =>
      intro W hSW
      unfold oTx3
      try dsimp only at hSW
      go_simp
      try with_reducible rfl
     try simp only [oTx3, PT]
     refine tkH 4 oTx4 ?v4_1005 (.inl ⟨by rfl, ?h4_1005⟩) ?r4_1005
     case h4_1005 =>
      intro W hSW
      unfold oTx4
      try dsimp only at hSW
      have hcc : W.cell? ⟨br, 1, none⟩ = some (.int .i64 0) := (HZR.out.keep (hSW.block br HZR.out.lt (fun e : br = bo => by have := HZ.out.o; omega))).cell 1
      go_simp
      try with_reducible rfl
     try simp only [oTx4, PT]
     refine tkH 5 oTx5 ?v5_1006 (.inl ⟨by rfl, ?h5_1006⟩) ?r5_1006
     case h5_1006 =>
      intro W hSW
      unfold oTx5
      try dsimp only at hSW
      go_simp
      try with_reducible rfl
     try simp only [oTx5, PT]
     refine tkH 6 oTx6 ?v6_1007 (.inl ⟨by rfl, ?h6_1007⟩) ?r6_1007
     case h6_1007 =>
      intro W hSW
      unfold oTx6
      try dsimp only at hSW
      go_simp
      try with_reducible rfl
     try simp only [oTx6, PT]
     refine tkH 7 oTx7 ?v7_1008 (.inl ⟨by rfl, ?h7_1008⟩) ?r7_1008
     case h7_1008 =>
      intro W hSW
      unfold oTx7
      try dsimp only at hSW
      go_simp
      try with_reducible rfl
     try simp only [oTx7, PT]
     refine tkH 8 oTx8 ?v8_1009 (.inl ⟨by rfl, ?h8_1009⟩) ?r8_1009
     case h8_1009 =>
      intro W hSW
      unfold oTx8
      try dsimp only at hSW
      go_simp
      try with_reducible rfl
     try simp only [oTx8, PT]
     refine tkH 9 oTx9 ?v9_1010 (.inl ⟨by rfl, ?h9_1010⟩) ?r9_1010
     case h9_1010 =>
      intro W hSW
      unfold oTx9
      try dsimp only at hSW
      go_simp
      try with_reducible rfl
     try simp only [oTx9, PT]
     refine tkH 10 oTx10 ?v10_1011 (.inl ⟨by rfl, ?h10_1011⟩) ?r10_1011
     case h10_1011 =>
      intro W hSW
      unfold oTx10
      try dsimp only at hSW
      have hcc : W.cell? ⟨br, 0, none⟩ = some (.slice Az 0 cz) := (HZR.out.keep (hSW.block br HZR.out.lt (fun e : br = bo => by have := HZ.out.o; omega))).cell 0
      go_simp
      try with_reducible rfl
     try simp only [oTx10, PT]
     refine tkH 11 oTx11 ?v11_1012 (.inl ⟨by rfl, ?h11_1012⟩) ?r11_1012
     case h11_1012 =>
      intro W hSW
      unfold oTx11
      try dsimp only at hSW
      go_simp
      try with_reducible rfl
     try simp only [oTx11, PT]
     refine tkH 12 oTx12 ?v12_1013 (.inl ⟨by rfl, ?h12_1013⟩) ?r12_1013
     case h12_1013 =>
      intro W hSW
      unfold oTx12
      try dsimp only at hSW
      go_simp
      try with_reducible rfl
     try simp only [oTx12, PT]
     refine tkH 13 oTx13 ?v13_1014 (.inl ⟨by rfl, ?h13_1014⟩) ?r13_1014
     case h13_1014 =>
      intro W hSW
      unfold oTx13
      try dsimp only at hSW
      go_simp
      try with_reducible rfl
     try simp only [oTx13, PT]
     refine tkH 14 oTx14 ?v14_1015 (.inl ⟨by rfl, ?h14_1015⟩) ?r14_1015
     case h14_1015 =>
      intro W hSW
      unfold oTx14
      try dsimp only at hSW
      go_simp
      try with_reducible rfl
     try simp only [oTx14, PT]
     refine tkH 15 oTx15 ?v15_1016 (.inl ⟨by rfl, ?h15_1016⟩) ?r15_1016
     case h15_1016 =>
      intro W hSW
      unfold oTx15
      try dsimp only at hSW
      go_simp
      try with_reducible rfl
     try simp only [oTx15, PT]
     refine tkH 16 oTx16 ?v16_1017 (.inl ⟨by rfl, ?h16_1017⟩) ?r16_1017
     case h16_1017 =>
      intro W hSW
      unfold oTx16
      try dsimp only at hSW
      have hcc : W.cell? ⟨b5, 0, none⟩ = some (.int .i64 1) := (HZ.out.r5.keep (hSW.block b5 HZ.out.r5.lt (fun e : b5 = bo => by have := HZ.out.o; omega))).cell 0
      go_simp
      try with_reducible rfl
     try simp only [oTx16, PT]
     refine tkH 17 oTx17 ?v17_1018 (.inl ⟨by rfl, ?h17_1018⟩) ?r17_1018
     case h17_1018 =>
      intro W hSW
      unfold oTx17
      try dsimp only at hSW
      go_simp
      try with_reducible rfl
     try simp only [oTx17, PT]
     refine tkH 18 oTx18 ?v18_1019 (.inl ⟨by rfl, ?h18_1019⟩) ?r18_1019
     case h18_1019 =>
      intro W hSW
      unfold oTx18
      try dsimp only at hSW
      go_simp
      try with_reducible rfl
     try simp only [oTx18, PT]
     refine tkH 19 oTx19 undef (.inr ⟨by rfl, rfl⟩) ?_
     try simp only [oTx19, PT]
     refine tkH 20 oTx20 undef (.inr ⟨by rfl, rfl⟩) ?_
     try simp only [oTx20, PT]
     refine tkH 21 oTx21 undef (.inr ⟨by rfl, rfl⟩) ?_
     try simp only [oTx21, PT]
     refine tkH 22 oTx22 ?v22_1023 (.inl ⟨by rfl, ?h22_1023⟩) ?r22_1023
     case h22_1023 =>
      intro W hSW
      unfold oTx22
      try dsimp only at hSW
      go_simp
      try with_reducible rfl
     try simp only [oTx22, PT]
     refine tkH 23 oTx23 ?v23_1024 (.inl ⟨by rfl, ?h23_1024⟩) ?r23_1024
     case h23_1024 =>
      intro W hSW
      unfold oTx23
      try dsimp only at hSW
      go_simp
      try with_reducible rfl
     try simp only [oTx23, PT]
     refine rdyH [24] ?_
     refine AllReadyH.cons (o := oTx24) rfl (fun K hK => ?_) AllReadyH.nil
     unfold oTx24
     rw [if_pos (by rfl)]
     refine wp_storeRow 35 (.tmp 2) (.tmp 51) rfl (l' := [.int .i64 1, .int .i64 p, .int .i64 q, .int .i64 0, .slice A' l.length c']) (HZ.out.r2.below' hbl0) rfl rfl size5 rfl rfl ?_
     intro w100 r2f g2f z2f
     have hbz := hbl0
     have hv100 : Keep (fun q => q = bo) wz w100 := (hv0).grown g2f (fun k e => .inl (Option.some.inj e).symm)
     refine hK.out _ _ (hv100) (fun hHeld => ?_)
     clear hK K
     try simp only [PT]
     refine tkH 25 oTx25 ?v25_1025 (.inl ⟨by rfl, ?h25_1025⟩) ?r25_1025
     case h25_1025 =>
      intro W hSW
      unfold oTx25
      try dsimp only at hSW
      go_simp
      try with_reducible rfl
     try simp only [oTx25, PT]
     refine wpAnyH_done (by kernel_rfl) ?_ _
     go_wp2_with fail
     have hsz := HZ.out.below.size
     have hfin : Below w.heap.size w _ := (HZ.out.below.trans (hbz.mono hsz)).grown g2f (Nat.le_trans hsz hbz.size) (fun j hj => by have := Option.some.inj hj; have := HZ.out.o; omega)
     exact bodyPost_ret (resultRowST rfl _ _ r2f rfl Tryd.underlying35 size5) rfl ⟨hfin, .inr ⟨⟨1, p, q, 0, l⟩, A', l.length, c', HSS.out, rfl, rfl, Rd.of_own (own_far (own_below HOZ.out hbz) g2f (by have h1 := HZ.out.o; have h2 := HS11b.out; omega)), fun a ha => by have h1 := HZ.out.o; have h2 := HS11b.out; have h3 := (own_block_lt (own_far (own_below HOZ.out hbz) g2f (by omega)) a ha).1; omega⟩⟩

    ·
     have hzn : ((nz : Int) == 0) = false := by rw [beq_eq_false_iff_ne]; intro h; exact hbe (List.eq_nil_of_length_eq_zero (by rw [HNZ.out]; omega))
     have hz1 := he
     subst hz1
     have HNN : Hid (Bil.refTake b = none) := Lib.hid (by rw [HRF.out, if_pos (by trivial), HDI.out]; exact if_neg (fun hh => hbe (by rw [← HBBE.out]; exact hh.2.2)))
     clear hbe he
     have hbl0 : Below wz.heap.size wz wz.drew := (Below.refl _ _).drew
     go_wp2_with fail
     have hv0 : Keep (fun q => q = bo) wz wz.drew := Keep.of_below (Below.refl _ _).drew
     refine wp_region_held_drew (S := fun W => Keep (fun q => q = bo) wz W) (by kernel_rfl) (hv0) (fun hHeld => ?_)
     obtain ⟨wd, hwd⟩ : ∃ x, wz.drew = x := ⟨_, rfl⟩
     rw [hwd] at hv0 hHeld hbl0 ⊢
     clear hwd
     refine tkH 0 oTx0 (.agg #[.int .i64 1, .int .i64 p, .int .i64 q, .int .i64 0, .slice A' l.length c']) (yieldsIf_load_mid rfl _ (.tmp 5) rfl b5 0 rfl [.int .i64 1, .int .i64 p, .int .i64 q, .int .i64 0, .slice A' l.length c'] _ (fun W hSW => fun j v hv => by rw [(HZ.out.r5.keep (hSW.block b5 HZ.out.r5.lt (fun e : b5 = bo => by have := HZ.out.o; omega))).cell, Nat.zero_add]; exact hv) Tryd.underlying35 rfl size5) ?_
     try simp only [oTx0, PT]
     refine tkH 1 oTx1 ?v1_2002 (.inl ⟨by rfl, ?h1_2002⟩) ?r1_2002
     case h1_2002 =>
      intro W hSW
      unfold oTx1
      try dsimp only at hSW
      go_simp
      try with_reducible rfl
     try simp only [oTx1, PT]
     refine tkH 2 oTx2 ?v2_2003 (.inl ⟨by rfl, ?h2_2003⟩) ?r2_2003
     case h2_2003 =>
      intro W hSW
      unfold oTx2
      try dsimp only at hSW
      go_simp
      try with_reducible rfl
     try simp only [oTx2, PT]
     refine tkH 3 oTx3 ?v3_2004 (.inl ⟨by rfl, ?h3_2004⟩) ?r3_2004
     case h3_2004 =>
      intro W hSW
      unfold oTx3
      try dsimp only at hSW
      go_simp
      try with_reducible rfl
     try simp only [oTx3, PT]
     refine tkH 4 oTx4 ?v4_2005 (.inl ⟨by rfl, ?h4_2005⟩) ?r4_2005
     case h4_2005 =>
      intro W hSW
      unfold oTx4
      try dsimp only at hSW
      have hcc : W.cell? ⟨br, 1, none⟩ = some (.int .i64 0) := (HZR.out.keep (hSW.block br HZR.out.lt (fun e : br = bo => by have := HZ.out.o; omega))).cell 1
      go_simp
      try with_reducible rfl
     try simp only [oTx4, PT]
     refine tkH 5 oTx5 ?v5_2006 (.inl ⟨by rfl, ?h5_2006⟩) ?r5_2006
     case h5_2006 =>
      intro W hSW
      unfold oTx5
      try dsimp only at hSW
      go_simp
      try with_reducible rfl
     try simp only [oTx5, PT]
     refine tkH 6 oTx6 ?v6_2007 (.inl ⟨by rfl, ?h6_2007⟩) ?r6_2007
     case h6_2007 =>
      intro W hSW
      unfold oTx6
      try dsimp only at hSW
      go_simp
      try with_reducible rfl
     try simp only [oTx6, PT]
     refine tkH 7 oTx7 ?v7_2008 (.inl ⟨by rfl, ?h7_2008⟩) ?r7_2008
     case h7_2008 =>
      intro W hSW
      unfold oTx7
      try dsimp only at hSW
      go_simp
      try with_reducible rfl
     try simp only [oTx7, PT]
     refine tkH 8 oTx8 ?v8_2009 (.inl ⟨by rfl, ?h8_2009⟩) ?r8_2009
     case h8_2009 =>
      intro W hSW
      unfold oTx8
      try dsimp only at hSW
      go_simp
      try with_reducible rfl
     try simp only [oTx8, PT]
     refine tkH 9 oTx9 ?v9_2010 (.inl ⟨by rfl, ?h9_2010⟩) ?r9_2010
     case h9_2010 =>
      intro W hSW
      unfold oTx9
      try dsimp only at hSW
      go_simp
      try with_reducible rfl
     try simp only [oTx9, PT]
     refine tkH 10 oTx10 ?v10_2011 (.inl ⟨by rfl, ?h10_2011⟩) ?r10_2011
     case h10_2011 =>
      intro W hSW
      unfold oTx10
      try dsimp only at hSW
      have hcc : W.cell? ⟨br, 0, none⟩ = some (.slice Az nz cz) := (HZR.out.keep (hSW.block br HZR.out.lt (fun e : br = bo => by have := HZ.out.o; omega))).cell 0
      go_simp
      try with_reducible rfl
     try simp only [oTx10, PT]
     refine tkH 11 oTx11 ?v11_2012 (.inl ⟨by rfl, ?h11_2012⟩) ?r11_2012
     case h11_2012 =>
      intro W hSW
      unfold oTx11
      try dsimp only at hSW
      go_simp
      try with_reducible rfl
     try simp only [oTx11, PT]
     refine tkH 12 oTx12 ?v12_2013 (.inl ⟨by rfl, ?h12_2013⟩) ?r12_2013
     case h12_2013 =>
      intro W hSW
      unfold oTx12
      try dsimp only at hSW
      go_simp
      try with_reducible rfl
     try simp only [oTx12, PT]
     refine tkH 13 oTx13 ?v13_2014 (.inl ⟨by rfl, ?h13_2014⟩) ?r13_2014
     case h13_2014 =>
      intro W hSW
      unfold oTx13
      try dsimp only at hSW
      go_simp
      try with_reducible rfl
     try simp only [oTx13, PT]
     refine tkH 14 oTx14 ?v14_2015 (.inl ⟨by rfl, ?h14_2015⟩) ?r14_2015
     case h14_2015 =>
      intro W hSW
      unfold oTx14
      try dsimp only at hSW
      go_simp
      try with_reducible rfl
     try simp only [oTx14, PT]
     refine tkH 15 oTx15 undef (.inr ⟨by rfl, rfl⟩) ?_
     try simp only [oTx15, PT]
     refine tkH 16 oTx16 undef (.inr ⟨by rfl, rfl⟩) ?_
     try simp only [oTx16, PT]
     refine tkH 17 oTx17 undef (.inr ⟨by rfl, rfl⟩) ?_
     try simp only [oTx17, PT]
     refine tkH 18 oTx18 undef (.inr ⟨by rfl, rfl⟩) ?_
     try simp only [oTx18, PT]
     refine tkH 19 oTx19 undef (.inr ⟨by rfl, rfl⟩) ?_
     try simp only [oTx19, PT]
     refine tkH 20 oTx20 undef (.inr ⟨by rfl, rfl⟩) ?_
     try simp only [oTx20, PT]
     refine tkH 21 oTx21 undef (.inr ⟨by rfl, rfl⟩) ?_
     try simp only [oTx21, PT]
     refine tkH 22 oTx22 undef (.inr ⟨by rfl, rfl⟩) ?_
     try simp only [oTx22, PT]
     refine tkH 23 oTx23 ?v23_2024 (.inl ⟨by rfl, ?h23_2024⟩) ?r23_2024
     case h23_2024 =>
      intro W hSW
      unfold oTx23
      try dsimp only at hSW
      go_simp
      try with_reducible rfl
     try simp only [oTx23, PT]
     refine rdyH [24] ?_
     refine AllReadyH.cons (o := oTx24) rfl (fun K hK => ?_) AllReadyH.nil
     unfold oTx24
     rw [if_pos (by rfl)]
     refine wp_storeRow 35 (.tmp 2) (.tmp 51) rfl (l' := [.int .i64 1, .int .i64 p, .int .i64 q, .int .i64 0, .slice A' l.length c']) (HZ.out.r2.below' hbl0) rfl rfl size5 rfl rfl ?_
     intro w200 r2f g2f z2f
     have hbz := hbl0
     have hv200 : Keep (fun q => q = bo) wz w200 := (hv0).grown g2f (fun k e => .inl (Option.some.inj e).symm)
     refine hK.out _ _ (hv200) (fun hHeld => ?_)
     clear hK K
     try simp only [PT]
     refine tkH 25 oTx25 ?v25_2025 (.inl ⟨by rfl, ?h25_2025⟩) ?r25_2025
     case h25_2025 =>
      intro W hSW
      unfold oTx25
      try dsimp only at hSW
      go_simp
      try with_reducible rfl
     try simp only [oTx25, PT]
     refine wpAnyH_done (by kernel_rfl) ?_ _
     go_wp2_with fail
     have hsz := HZ.out.below.size
     have hfin : Below w.heap.size w _ := (HZ.out.below.trans (hbz.mono hsz)).grown g2f (Nat.le_trans hsz hbz.size) (fun j hj => by have := Option.some.inj hj; have := HZ.out.o; omega)
     exact bodyPost_ret (resultRowST rfl _ _ r2f rfl Tryd.underlying35 size5) rfl ⟨hfin, .inl ⟨[.int .i64 1, .int .i64 p, .int .i64 q, .int .i64 0, .slice A' l.length c'], rfl, rfl, rfl, HNN.out⟩⟩

   ·
    have hen : (ee == 0) = false := by rw [beq_eq_false_iff_ne]; exact he
    have HNN : Hid (Bil.refTake b = none) := Lib.hid (by rw [HRF.out, if_pos (by trivial), HDI.out]; exact if_neg (fun hh => he (by rw [← HEE.out]; exact hh.2.1)))
    clear he
    have hbl0 : Below wz.heap.size wz wz.drew := (Below.refl _ _).drew
    go_wp2_with fail
    have hv0 : Keep (fun q => q = bo) wz wz.drew := Keep.of_below (Below.refl _ _).drew
    refine wp_region_held_drew (S := fun W => Keep (fun q => q = bo) wz W) (by kernel_rfl) (hv0) (fun hHeld => ?_)
    obtain ⟨wd, hwd⟩ : ∃ x, wz.drew = x := ⟨_, rfl⟩
    rw [hwd] at hv0 hHeld hbl0 ⊢
    clear hwd
    refine tkH 0 oTx0 (.agg #[.int .i64 1, .int .i64 p, .int .i64 q, .int .i64 0, .slice A' l.length c']) (yieldsIf_load_mid rfl _ (.tmp 5) rfl b5 0 rfl [.int .i64 1, .int .i64 p, .int .i64 q, .int .i64 0, .slice A' l.length c'] _ (fun W hSW => fun j v hv => by rw [(HZ.out.r5.keep (hSW.block b5 HZ.out.r5.lt (fun e : b5 = bo => by have := HZ.out.o; omega))).cell, Nat.zero_add]; exact hv) Tryd.underlying35 rfl size5) ?_
    try simp only [oTx0, PT]
    refine tkH 1 oTx1 ?v1_3002 (.inl ⟨by rfl, ?h1_3002⟩) ?r1_3002
    case h1_3002 =>
     intro W hSW
     unfold oTx1
     try dsimp only at hSW
     go_simp
     try with_reducible rfl
    try simp only [oTx1, PT]
    refine tkH 2 oTx2 ?v2_3003 (.inl ⟨by rfl, ?h2_3003⟩) ?r2_3003
    case h2_3003 =>
     intro W hSW
     unfold oTx2
     try dsimp only at hSW
     go_simp
     try with_reducible rfl
    try simp only [oTx2, PT]
    refine tkH 3 oTx3 ?v3_3004 (.inl ⟨by rfl, ?h3_3004⟩) ?r3_3004
    case h3_3004 =>
     intro W hSW
     unfold oTx3
     try dsimp only at hSW
     go_simp
     try with_reducible rfl
    try simp only [oTx3, PT]
    refine tkH 4 oTx4 ?v4_3005 (.inl ⟨by rfl, ?h4_3005⟩) ?r4_3005
    case h4_3005 =>
     intro W hSW
     unfold oTx4
     try dsimp only at hSW
     have hcc : W.cell? ⟨br, 1, none⟩ = some (.int .i64 ee) := (HZR.out.keep (hSW.block br HZR.out.lt (fun e : br = bo => by have := HZ.out.o; omega))).cell 1
     go_simp
     try with_reducible rfl
    try simp only [oTx4, PT]
    refine tkH 5 oTx5 ?v5_3006 (.inl ⟨by rfl, ?h5_3006⟩) ?r5_3006
    case h5_3006 =>
     intro W hSW
     unfold oTx5
     try dsimp only at hSW
     go_simp
     try with_reducible rfl
    try simp only [oTx5, PT]
    refine tkH 6 oTx6 ?v6_3007 (.inl ⟨by rfl, ?h6_3007⟩) ?r6_3007
    case h6_3007 =>
     intro W hSW
     unfold oTx6
     try dsimp only at hSW
     go_simp
     try with_reducible rfl
    try simp only [oTx6, PT]
    refine tkH 7 oTx7 undef (.inr ⟨by rfl, rfl⟩) ?_
    try simp only [oTx7, PT]
    refine tkH 8 oTx8 undef (.inr ⟨by rfl, rfl⟩) ?_
    try simp only [oTx8, PT]
    refine tkH 9 oTx9 undef (.inr ⟨by rfl, rfl⟩) ?_
    try simp only [oTx9, PT]
    refine tkH 10 oTx10 undef (.inr ⟨by rfl, rfl⟩) ?_
    try simp only [oTx10, PT]
    refine tkH 11 oTx11 undef (.inr ⟨by rfl, rfl⟩) ?_
    try simp only [oTx11, PT]
    refine tkH 12 oTx12 undef (.inr ⟨by rfl, rfl⟩) ?_
    try simp only [oTx12, PT]
    refine tkH 13 oTx13 ?v13_3014 (.inl ⟨by rfl, ?h13_3014⟩) ?r13_3014
    case h13_3014 =>
     intro W hSW
     unfold oTx13
     try dsimp only at hSW
     go_simp
     try with_reducible rfl
    try simp only [oTx13, PT]
    refine tkH 14 oTx14 ?v14_3015 (.inl ⟨by rfl, ?h14_3015⟩) ?r14_3015
    case h14_3015 =>
     intro W hSW
     unfold oTx14
     try dsimp only at hSW
     go_simp
     try with_reducible rfl
    try simp only [oTx14, PT]
    refine tkH 15 oTx15 undef (.inr ⟨by rfl, rfl⟩) ?_
    try simp only [oTx15, PT]
    refine tkH 16 oTx16 undef (.inr ⟨by rfl, rfl⟩) ?_
    try simp only [oTx16, PT]
    refine tkH 17 oTx17 undef (.inr ⟨by rfl, rfl⟩) ?_
    try simp only [oTx17, PT]
    refine tkH 18 oTx18 undef (.inr ⟨by rfl, rfl⟩) ?_
    try simp only [oTx18, PT]
    refine tkH 19 oTx19 undef (.inr ⟨by rfl, rfl⟩) ?_
    try simp only [oTx19, PT]
    refine tkH 20 oTx20 undef (.inr ⟨by rfl, rfl⟩) ?_
    try simp only [oTx20, PT]
    refine tkH 21 oTx21 undef (.inr ⟨by rfl, rfl⟩) ?_
    try simp only [oTx21, PT]
    refine tkH 22 oTx22 undef (.inr ⟨by rfl, rfl⟩) ?_
    try simp only [oTx22, PT]
    refine tkH 23 oTx23 ?v23_3024 (.inl ⟨by rfl, ?h23_3024⟩) ?r23_3024
    case h23_3024 =>
     intro W hSW
     unfold oTx23
     try dsimp only at hSW
     go_simp
     try with_reducible rfl
    try simp only [oTx23, PT]
    refine rdyH [24] ?_
    refine AllReadyH.cons (o := oTx24) rfl (fun K hK => ?_) AllReadyH.nil
    unfold oTx24
    rw [if_pos (by rfl)]
    refine wp_storeRow 35 (.tmp 2) (.tmp 51) rfl (l' := [.int .i64 1, .int .i64 p, .int .i64 q, .int .i64 0, .slice A' l.length c']) (HZ.out.r2.below' hbl0) rfl rfl size5 rfl rfl ?_
    intro w300 r2f g2f z2f
    have hbz := hbl0
    have hv300 : Keep (fun q => q = bo) wz w300 := (hv0).grown g2f (fun k e => .inl (Option.some.inj e).symm)
    refine hK.out _ _ (hv300) (fun hHeld => ?_)
    clear hK K
    try simp only [PT]
    refine tkH 25 oTx25 ?v25_3025 (.inl ⟨by rfl, ?h25_3025⟩) ?r25_3025
    case h25_3025 =>
     intro W hSW
     unfold oTx25
     try dsimp only at hSW
     go_simp
     try with_reducible rfl
    try simp only [oTx25, PT]
    refine wpAnyH_done (by kernel_rfl) ?_ _
    go_wp2_with fail
    have hsz := HZ.out.below.size
    have hfin : Below w.heap.size w _ := (HZ.out.below.trans (hbz.mono hsz)).grown g2f (Nat.le_trans hsz hbz.size) (fun j hj => by have := Option.some.inj hj; have := HZ.out.o; omega)
    exact bodyPost_ret (resultRowST rfl _ _ r2f rfl Tryd.underlying35 size5) rfl ⟨hfin, .inl ⟨[.int .i64 1, .int .i64 p, .int .i64 q, .int .i64 0, .slice A' l.length c'], rfl, rfl, rfl, HNN.out⟩⟩

  ·
   clear hrow hn hnc hcm hn40 hrd hdi
   have n1 : (er == 0) = false := by rw [beq_eq_false_iff_ne]; exact hz
   have HNN : Hid (Bil.refTake b = none) := Lib.hid (by rw [HRF.out, if_pos rfl, HDI.out, if_neg (fun hh => hz hh.1)])
   clear hz
   go_wp2_with (first
    | (go_at_call 82; refine HGI.out.mono ?_; rintro r w12 ⟨A', c', rfl, own, bw⟩; have HS12 := Lib.hid (HS11.out.down bw); clear own bw)
    | (refine wpList_storeRow rfl _ (.tmp 2) (.tmp 36) rfl (l' := Z5) HS12.out.r2 rfl rfl size5 rfl rfl ?_; intro w13 r13 g13 z13))
   exact bodyPost_ret (resultRowST rfl _ _ r13 rfl Tryd.underlying35 size5) rfl ⟨HS12.out.below.grown g13 HS12.out.below.size (fun j hj => by have := Option.some.inj hj; have := HS12.out.o; omega), .inl ⟨Z5, rfl, rfl, rfl, HNN.out⟩⟩
 ·
  have n1 : (k == 1) = false := by rw [beq_eq_false_iff_ne]; exact hk
  obtain ⟨r, b4', e4, h4⟩ : ∃ k b1' e1', Bil.any b3' e3 = (k, b1', e1') := ⟨_, _, _, rfl⟩
  have HT4 := Lib.hid (show Calls Tryd.prog 81 #[.pointer (some ⟨br, 0, none⟩)] w11 (fun r' w' => r' = .returned (.int .i64 r) ∧ RSt w' br b4' e4 ∧ Keep (fun q => q = br) w11 w') from by have := rtake_any br b3' e3 w11 HS11.out.st; rw [h4] at this; exact this)
  have HH4 := Lib.hid h4
  clear hrow hn hnc hcm hn40 hrd h4 qb
  go_upto_region 12 with (go_at_call 81; refine HT4.out.mono ?_; rintro r' w12 ⟨rfl, s8, k8⟩; have HS12 := Lib.hid (HS11.out.next s8 k8); have q3 : w12.cell? ⟨b5, 3, none⟩ = some (.int .i64 0) := HS12.out.r5.cell 3; have f3 : w12.frozen? ⟨b5, 3, none⟩ = false := HS12.out.r5.frozen 3; clear s8 k8)
  obtain ⟨w13, hw13⟩ : ∃ x, w12.setCell ⟨b5, 3, none⟩ (.int .i64 r) = x := ⟨_, rfl⟩
  have HS13 := Lib.hid (HS12.out.put 3 (.int .i64 r))
  rw [hw13] at HS13 ⊢
  clear hw13 q3 f3 HS11 HS12 q0 hbl
  obtain ⟨Az, nz, cz, hrz, hnz, _, _, _, _⟩ := HS13.out.st.row
  have HZR := Lib.hid hrz
  have HNZ := Lib.hid hnz
  obtain ⟨wz, hwz⟩ : ∃ x, w13 = x := ⟨_, rfl⟩
  rw [hwz] at HS13 HZR ⊢
  have HZ : Hid (TkS w wz bo br b5 b4' e4 [.int .i64 k, .int .i64 p, .int .i64 q, .int .i64 r, .slice none 0 0]) := HS13
  obtain ⟨ee, hee⟩ : ∃ x, e4 = x := ⟨_, rfl⟩
  have HEE := Lib.hid hee
  rw [hee] at HZ HZR
  obtain ⟨kk, hkk⟩ : ∃ x, k = x := ⟨_, rfl⟩
  subst hkk
  clear hrz hnz hwz hee
  by_cases he : ee = 0
  ·
   by_cases hbe : b4' = []
   ·
    have hz0 : nz = 0 := by rw [← HNZ.out, hbe]; rfl
    subst hz0
    have hz1 := he
    subst hz1
    by_cases hk2 : k = 2
    ·
     subst hk2
     have HSS : Hid (Bil.refTake b = some ⟨2, p, q, r, []⟩) := Lib.hid (by rw [HRF.out, if_neg (by decide), HH4.out]; exact if_pos ⟨HEE.out, hbe, rfl⟩)
     clear hbe he hk
     have hbl0 : Below wz.heap.size wz wz.drew := (Below.refl _ _).drew
     go_wp2_with fail
     have hv0 : Keep (fun q => q = bo) wz wz.drew := Keep.of_below (Below.refl _ _).drew
     refine wp_region_held_drew (S := fun W => Keep (fun q => q = bo) wz W) (by kernel_rfl) (hv0) (fun hHeld => ?_)
     obtain ⟨wd, hwd⟩ : ∃ x, wz.drew = x := ⟨_, rfl⟩
     rw [hwd] at hv0 hHeld hbl0 ⊢
     clear hwd
     refine tkH 0 oTx0 (.agg #[.int .i64 2, .int .i64 p, .int .i64 q, .int .i64 r, .slice none 0 0]) (yieldsIf_load_mid rfl _ (.tmp 5) rfl b5 0 rfl [.int .i64 2, .int .i64 p, .int .i64 q, .int .i64 r, .slice none 0 0] _ (fun W hSW => fun j v hv => by rw [(HZ.out.r5.keep (hSW.block b5 HZ.out.r5.lt (fun e : b5 = bo => by have := HZ.out.o; omega))).cell, Nat.zero_add]; exact hv) Tryd.underlying35 rfl size5) ?_
     try simp only [oTx0, PT]
     refine tkH 1 oTx1 ?v1_4002 (.inl ⟨by rfl, ?h1_4002⟩) ?r1_4002
     case h1_4002 =>
      intro W hSW
      unfold oTx1
      try dsimp only at hSW
      go_simp
      try with_reducible rfl
     try simp only [oTx1, PT]
     refine tkH 2 oTx2 ?v2_4003 (.inl ⟨by rfl, ?h2_4003⟩) ?r2_4003
     case h2_4003 =>
      intro W hSW
      unfold oTx2
      try dsimp only at hSW
      go_simp
      try with_reducible rfl
     try simp only [oTx2, PT]
     refine tkH 3 oTx3 ?v3_4004 (.inl ⟨by rfl, ?h3_4004⟩) ?r3_4004
     case h3_4004 =>
      intro W hSW
      unfold oTx3
      try dsimp only at hSW
      go_simp
      try with_reducible rfl
     try simp only [oTx3, PT]
     refine tkH 4 oTx4 ?v4_4005 (.inl ⟨by rfl, ?h4_4005⟩) ?r4_4005
     case h4_4005 =>
      intro W hSW
      unfold oTx4
      try dsimp only at hSW
      have hcc : W.cell? ⟨br, 1, none⟩ = some (.int .i64 0) := (HZR.out.keep (hSW.block br HZR.out.lt (fun e : br = bo => by have := HZ.out.o; omega))).cell 1
      go_simp
      try with_reducible rfl
     try simp only [oTx4, PT]
     refine tkH 5 oTx5 ?v5_4006 (.inl ⟨by rfl, ?h5_4006⟩) ?r5_4006
     case h5_4006 =>
      intro W hSW
      unfold oTx5
      try dsimp only at hSW
      go_simp
      try with_reducible rfl
     try simp only [oTx5, PT]
     refine tkH 6 oTx6 ?v6_4007 (.inl ⟨by rfl, ?h6_4007⟩) ?r6_4007
     case h6_4007 =>
      intro W hSW
      unfold oTx6
      try dsimp only at hSW
      go_simp
      try with_reducible rfl
     try simp only [oTx6, PT]
     refine tkH 7 oTx7 ?v7_4008 (.inl ⟨by rfl, ?h7_4008⟩) ?r7_4008
     case h7_4008 =>
      intro W hSW
      unfold oTx7
      try dsimp only at hSW
      go_simp
      try with_reducible rfl
     try simp only [oTx7, PT]
     refine tkH 8 oTx8 ?v8_4009 (.inl ⟨by rfl, ?h8_4009⟩) ?r8_4009
     case h8_4009 =>
      intro W hSW
      unfold oTx8
      try dsimp only at hSW
      go_simp
      try with_reducible rfl
     try simp only [oTx8, PT]
     refine tkH 9 oTx9 ?v9_4010 (.inl ⟨by rfl, ?h9_4010⟩) ?r9_4010
     case h9_4010 =>
      intro W hSW
      unfold oTx9
      try dsimp only at hSW
      go_simp
      try with_reducible rfl
     try simp only [oTx9, PT]
     refine tkH 10 oTx10 ?v10_4011 (.inl ⟨by rfl, ?h10_4011⟩) ?r10_4011
     case h10_4011 =>
      intro W hSW
      unfold oTx10
      try dsimp only at hSW
      have hcc : W.cell? ⟨br, 0, none⟩ = some (.slice Az 0 cz) := (HZR.out.keep (hSW.block br HZR.out.lt (fun e : br = bo => by have := HZ.out.o; omega))).cell 0
      go_simp
      try with_reducible rfl
     try simp only [oTx10, PT]
     refine tkH 11 oTx11 ?v11_4012 (.inl ⟨by rfl, ?h11_4012⟩) ?r11_4012
     case h11_4012 =>
      intro W hSW
      unfold oTx11
      try dsimp only at hSW
      go_simp
      try with_reducible rfl
     try simp only [oTx11, PT]
     refine tkH 12 oTx12 ?v12_4013 (.inl ⟨by rfl, ?h12_4013⟩) ?r12_4013
     case h12_4013 =>
      intro W hSW
      unfold oTx12
      try dsimp only at hSW
      go_simp
      try with_reducible rfl
     try simp only [oTx12, PT]
     refine tkH 13 oTx13 ?v13_4014 (.inl ⟨by rfl, ?h13_4014⟩) ?r13_4014
     case h13_4014 =>
      intro W hSW
      unfold oTx13
      try dsimp only at hSW
      go_simp
      try with_reducible rfl
     try simp only [oTx13, PT]
     refine tkH 14 oTx14 ?v14_4015 (.inl ⟨by rfl, ?h14_4015⟩) ?r14_4015
     case h14_4015 =>
      intro W hSW
      unfold oTx14
      try dsimp only at hSW
      go_simp
      try with_reducible rfl
     try simp only [oTx14, PT]
     refine tkH 15 oTx15 ?v15_4016 (.inl ⟨by rfl, ?h15_4016⟩) ?r15_4016
     case h15_4016 =>
      intro W hSW
      unfold oTx15
      try dsimp only at hSW
      go_simp
      try with_reducible rfl
     try simp only [oTx15, PT]
     refine tkH 16 oTx16 ?v16_4017 (.inl ⟨by rfl, ?h16_4017⟩) ?r16_4017
     case h16_4017 =>
      intro W hSW
      unfold oTx16
      try dsimp only at hSW
      have hcc : W.cell? ⟨b5, 0, none⟩ = some (.int .i64 2) := (HZ.out.r5.keep (hSW.block b5 HZ.out.r5.lt (fun e : b5 = bo => by have := HZ.out.o; omega))).cell 0
      go_simp
      try with_reducible rfl
     try simp only [oTx16, PT]
     refine tkH 17 oTx17 ?v17_4018 (.inl ⟨by rfl, ?h17_4018⟩) ?r17_4018
     case h17_4018 =>
      intro W hSW
      unfold oTx17
      try dsimp only at hSW
      go_simp
      try with_reducible rfl
     try simp only [oTx17, PT]
     refine tkH 18 oTx18 ?v18_4019 (.inl ⟨by rfl, ?h18_4019⟩) ?r18_4019
     case h18_4019 =>
      intro W hSW
      unfold oTx18
      try dsimp only at hSW
      go_simp
      try with_reducible rfl
     try simp only [oTx18, PT]
     refine tkH 19 oTx19 ?v19_4020 (.inl ⟨by rfl, ?h19_4020⟩) ?r19_4020
     case h19_4020 =>
      intro W hSW
      unfold oTx19
      try dsimp only at hSW
      go_simp
      try with_reducible rfl
     try simp only [oTx19, PT]
     refine tkH 20 oTx20 ?v20_4021 (.inl ⟨by rfl, ?h20_4021⟩) ?r20_4021
     case h20_4021 =>
      intro W hSW
      unfold oTx20
      try dsimp only at hSW
      have hcc : W.cell? ⟨b5, 0, none⟩ = some (.int .i64 2) := (HZ.out.r5.keep (hSW.block b5 HZ.out.r5.lt (fun e : b5 = bo => by have := HZ.out.o; omega))).cell 0
      go_simp
      try with_reducible rfl
     try simp only [oTx20, PT]
     refine tkH 21 oTx21 ?v21_4022 (.inl ⟨by rfl, ?h21_4022⟩) ?r21_4022
     case h21_4022 =>
      intro W hSW
      unfold oTx21
      try dsimp only at hSW
      go_simp
      try with_reducible rfl
     try simp only [oTx21, PT]
     refine tkH 22 oTx22 ?v22_4023 (.inl ⟨by rfl, ?h22_4023⟩) ?r22_4023
     case h22_4023 =>
      intro W hSW
      unfold oTx22
      try dsimp only at hSW
      go_simp
      try with_reducible rfl
     try simp only [oTx22, PT]
     refine tkH 23 oTx23 ?v23_4024 (.inl ⟨by rfl, ?h23_4024⟩) ?r23_4024
     case h23_4024 =>
      intro W hSW
      unfold oTx23
      try dsimp only at hSW
      go_simp
      try with_reducible rfl
     try simp only [oTx23, PT]
     refine rdyH [24] ?_
     refine AllReadyH.cons (o := oTx24) rfl (fun K hK => ?_) AllReadyH.nil
     unfold oTx24
     rw [if_pos (by rfl)]
     refine wp_storeRow 35 (.tmp 2) (.tmp 51) rfl (l' := [.int .i64 2, .int .i64 p, .int .i64 q, .int .i64 r, .slice none 0 0]) (HZ.out.r2.below' hbl0) rfl rfl size5 rfl rfl ?_
     intro w400 r2f g2f z2f
     have hbz := hbl0
     have hv400 : Keep (fun q => q = bo) wz w400 := (hv0).grown g2f (fun k e => .inl (Option.some.inj e).symm)
     refine hK.out _ _ (hv400) (fun hHeld => ?_)
     clear hK K
     try simp only [PT]
     refine tkH 25 oTx25 ?v25_4025 (.inl ⟨by rfl, ?h25_4025⟩) ?r25_4025
     case h25_4025 =>
      intro W hSW
      unfold oTx25
      try dsimp only at hSW
      go_simp
      try with_reducible rfl
     try simp only [oTx25, PT]
     refine wpAnyH_done (by kernel_rfl) ?_ _
     go_wp2_with fail
     have hsz := HZ.out.below.size
     have hfin : Below w.heap.size w _ := (HZ.out.below.trans (hbz.mono hsz)).grown g2f (Nat.le_trans hsz hbz.size) (fun j hj => by have := Option.some.inj hj; have := HZ.out.o; omega)
     exact bodyPost_ret (resultRowST rfl _ _ r2f rfl Tryd.underlying35 size5) rfl ⟨hfin, .inr ⟨⟨2, p, q, r, []⟩, none, 0, 0, HSS.out, rfl, rfl, ⟨rfl, fun h => absurd h (by omega)⟩, fun a ha => by cases ha⟩⟩

    ·
     have hkn : (k == 2) = false := by rw [beq_eq_false_iff_ne]; exact hk2
     have HNN : Hid (Bil.refTake b = none) := Lib.hid (by rw [HRF.out, if_neg hk]; exact if_neg (fun hh => hk2 hh.2.2))
     clear hbe he hk hk2
     have hbl0 : Below wz.heap.size wz wz.drew := (Below.refl _ _).drew
     go_wp2_with fail
     have hv0 : Keep (fun q => q = bo) wz wz.drew := Keep.of_below (Below.refl _ _).drew
     refine wp_region_held_drew (S := fun W => Keep (fun q => q = bo) wz W) (by kernel_rfl) (hv0) (fun hHeld => ?_)
     obtain ⟨wd, hwd⟩ : ∃ x, wz.drew = x := ⟨_, rfl⟩
     rw [hwd] at hv0 hHeld hbl0 ⊢
     clear hwd
     refine tkH 0 oTx0 (.agg #[.int .i64 k, .int .i64 p, .int .i64 q, .int .i64 r, .slice none 0 0]) (yieldsIf_load_mid rfl _ (.tmp 5) rfl b5 0 rfl [.int .i64 k, .int .i64 p, .int .i64 q, .int .i64 r, .slice none 0 0] _ (fun W hSW => fun j v hv => by rw [(HZ.out.r5.keep (hSW.block b5 HZ.out.r5.lt (fun e : b5 = bo => by have := HZ.out.o; omega))).cell, Nat.zero_add]; exact hv) Tryd.underlying35 rfl size5) ?_
     try simp only [oTx0, PT]
     refine tkH 1 oTx1 ?v1_5002 (.inl ⟨by rfl, ?h1_5002⟩) ?r1_5002
     case h1_5002 =>
      intro W hSW
      unfold oTx1
      try dsimp only at hSW
      go_simp
      try with_reducible rfl
     try simp only [oTx1, PT]
     refine tkH 2 oTx2 ?v2_5003 (.inl ⟨by rfl, ?h2_5003⟩) ?r2_5003
     case h2_5003 =>
      intro W hSW
      unfold oTx2
      try dsimp only at hSW
      go_simp
      try with_reducible rfl
     try simp only [oTx2, PT]
     refine tkH 3 oTx3 ?v3_5004 (.inl ⟨by rfl, ?h3_5004⟩) ?r3_5004
     case h3_5004 =>
      intro W hSW
      unfold oTx3
      try dsimp only at hSW
      go_simp
      try with_reducible rfl
     try simp only [oTx3, PT]
     refine tkH 4 oTx4 ?v4_5005 (.inl ⟨by rfl, ?h4_5005⟩) ?r4_5005
     case h4_5005 =>
      intro W hSW
      unfold oTx4
      try dsimp only at hSW
      have hcc : W.cell? ⟨br, 1, none⟩ = some (.int .i64 0) := (HZR.out.keep (hSW.block br HZR.out.lt (fun e : br = bo => by have := HZ.out.o; omega))).cell 1
      go_simp
      try with_reducible rfl
     try simp only [oTx4, PT]
     refine tkH 5 oTx5 ?v5_5006 (.inl ⟨by rfl, ?h5_5006⟩) ?r5_5006
     case h5_5006 =>
      intro W hSW
      unfold oTx5
      try dsimp only at hSW
      go_simp
      try with_reducible rfl
     try simp only [oTx5, PT]
     refine tkH 6 oTx6 ?v6_5007 (.inl ⟨by rfl, ?h6_5007⟩) ?r6_5007
     case h6_5007 =>
      intro W hSW
      unfold oTx6
      try dsimp only at hSW
      go_simp
      try with_reducible rfl
     try simp only [oTx6, PT]
     refine tkH 7 oTx7 ?v7_5008 (.inl ⟨by rfl, ?h7_5008⟩) ?r7_5008
     case h7_5008 =>
      intro W hSW
      unfold oTx7
      try dsimp only at hSW
      go_simp
      try with_reducible rfl
     try simp only [oTx7, PT]
     refine tkH 8 oTx8 ?v8_5009 (.inl ⟨by rfl, ?h8_5009⟩) ?r8_5009
     case h8_5009 =>
      intro W hSW
      unfold oTx8
      try dsimp only at hSW
      go_simp
      try with_reducible rfl
     try simp only [oTx8, PT]
     refine tkH 9 oTx9 ?v9_5010 (.inl ⟨by rfl, ?h9_5010⟩) ?r9_5010
     case h9_5010 =>
      intro W hSW
      unfold oTx9
      try dsimp only at hSW
      go_simp
      try with_reducible rfl
     try simp only [oTx9, PT]
     refine tkH 10 oTx10 ?v10_5011 (.inl ⟨by rfl, ?h10_5011⟩) ?r10_5011
     case h10_5011 =>
      intro W hSW
      unfold oTx10
      try dsimp only at hSW
      have hcc : W.cell? ⟨br, 0, none⟩ = some (.slice Az 0 cz) := (HZR.out.keep (hSW.block br HZR.out.lt (fun e : br = bo => by have := HZ.out.o; omega))).cell 0
      go_simp
      try with_reducible rfl
     try simp only [oTx10, PT]
     refine tkH 11 oTx11 ?v11_5012 (.inl ⟨by rfl, ?h11_5012⟩) ?r11_5012
     case h11_5012 =>
      intro W hSW
      unfold oTx11
      try dsimp only at hSW
      go_simp
      try with_reducible rfl
     try simp only [oTx11, PT]
     refine tkH 12 oTx12 ?v12_5013 (.inl ⟨by rfl, ?h12_5013⟩) ?r12_5013
     case h12_5013 =>
      intro W hSW
      unfold oTx12
      try dsimp only at hSW
      go_simp
      try with_reducible rfl
     try simp only [oTx12, PT]
     refine tkH 13 oTx13 ?v13_5014 (.inl ⟨by rfl, ?h13_5014⟩) ?r13_5014
     case h13_5014 =>
      intro W hSW
      unfold oTx13
      try dsimp only at hSW
      go_simp
      try with_reducible rfl
     try simp only [oTx13, PT]
     refine tkH 14 oTx14 ?v14_5015 (.inl ⟨by rfl, ?h14_5015⟩) ?r14_5015
     case h14_5015 =>
      intro W hSW
      unfold oTx14
      try dsimp only at hSW
      go_simp
      try with_reducible rfl
     try simp only [oTx14, PT]
     refine tkH 15 oTx15 ?v15_5016 (.inl ⟨by rfl, ?h15_5016⟩) ?r15_5016
     case h15_5016 =>
      intro W hSW
      unfold oTx15
      try dsimp only at hSW
      go_simp
      try with_reducible rfl
     try simp only [oTx15, PT]
     refine tkH 16 oTx16 ?v16_5017 (.inl ⟨by rfl, ?h16_5017⟩) ?r16_5017
     case h16_5017 =>
      intro W hSW
      unfold oTx16
      try dsimp only at hSW
      have hcc : W.cell? ⟨b5, 0, none⟩ = some (.int .i64 k) := (HZ.out.r5.keep (hSW.block b5 HZ.out.r5.lt (fun e : b5 = bo => by have := HZ.out.o; omega))).cell 0
      go_simp
      try with_reducible rfl
     try simp only [oTx16, PT]
     refine tkH 17 oTx17 ?v17_5018 (.inl ⟨by rfl, ?h17_5018⟩) ?r17_5018
     case h17_5018 =>
      intro W hSW
      unfold oTx17
      try dsimp only at hSW
      go_simp
      try with_reducible rfl
     try simp only [oTx17, PT]
     refine tkH 18 oTx18 ?v18_5019 (.inl ⟨by rfl, ?h18_5019⟩) ?r18_5019
     case h18_5019 =>
      intro W hSW
      unfold oTx18
      try dsimp only at hSW
      go_simp
      try with_reducible rfl
     try simp only [oTx18, PT]
     refine tkH 19 oTx19 ?v19_5020 (.inl ⟨by rfl, ?h19_5020⟩) ?r19_5020
     case h19_5020 =>
      intro W hSW
      unfold oTx19
      try dsimp only at hSW
      go_simp
      try with_reducible rfl
     try simp only [oTx19, PT]
     refine tkH 20 oTx20 ?v20_5021 (.inl ⟨by rfl, ?h20_5021⟩) ?r20_5021
     case h20_5021 =>
      intro W hSW
      unfold oTx20
      try dsimp only at hSW
      have hcc : W.cell? ⟨b5, 0, none⟩ = some (.int .i64 k) := (HZ.out.r5.keep (hSW.block b5 HZ.out.r5.lt (fun e : b5 = bo => by have := HZ.out.o; omega))).cell 0
      go_simp
      try with_reducible rfl
     try simp only [oTx20, PT]
     refine tkH 21 oTx21 ?v21_5022 (.inl ⟨by rfl, ?h21_5022⟩) ?r21_5022
     case h21_5022 =>
      intro W hSW
      unfold oTx21
      try dsimp only at hSW
      go_simp
      try with_reducible rfl
     try simp only [oTx21, PT]
     refine tkH 22 oTx22 ?v22_5023 (.inl ⟨by rfl, ?h22_5023⟩) ?r22_5023
     case h22_5023 =>
      intro W hSW
      unfold oTx22
      try dsimp only at hSW
      go_simp
      try with_reducible rfl
     try simp only [oTx22, PT]
     refine tkH 23 oTx23 ?v23_5024 (.inl ⟨by rfl, ?h23_5024⟩) ?r23_5024
     case h23_5024 =>
      intro W hSW
      unfold oTx23
      try dsimp only at hSW
      go_simp
      try with_reducible rfl
     try simp only [oTx23, PT]
     refine rdyH [24] ?_
     refine AllReadyH.cons (o := oTx24) rfl (fun K hK => ?_) AllReadyH.nil
     unfold oTx24
     rw [if_pos (by rfl)]
     refine wp_storeRow 35 (.tmp 2) (.tmp 51) rfl (l' := [.int .i64 k, .int .i64 p, .int .i64 q, .int .i64 r, .slice none 0 0]) (HZ.out.r2.below' hbl0) rfl rfl size5 rfl rfl ?_
     intro w500 r2f g2f z2f
     have hbz := hbl0
     have hv500 : Keep (fun q => q = bo) wz w500 := (hv0).grown g2f (fun k e => .inl (Option.some.inj e).symm)
     refine hK.out _ _ (hv500) (fun hHeld => ?_)
     clear hK K
     try simp only [PT]
     refine tkH 25 oTx25 ?v25_5025 (.inl ⟨by rfl, ?h25_5025⟩) ?r25_5025
     case h25_5025 =>
      intro W hSW
      unfold oTx25
      try dsimp only at hSW
      go_simp
      try with_reducible rfl
     try simp only [oTx25, PT]
     refine wpAnyH_done (by kernel_rfl) ?_ _
     go_wp2_with fail
     have hsz := HZ.out.below.size
     have hfin : Below w.heap.size w _ := (HZ.out.below.trans (hbz.mono hsz)).grown g2f (Nat.le_trans hsz hbz.size) (fun j hj => by have := Option.some.inj hj; have := HZ.out.o; omega)
     exact bodyPost_ret (resultRowST rfl _ _ r2f rfl Tryd.underlying35 size5) rfl ⟨hfin, .inl ⟨[.int .i64 k, .int .i64 p, .int .i64 q, .int .i64 r, .slice none 0 0], rfl, rfl, rfl, HNN.out⟩⟩

   ·
    have hzn : ((nz : Int) == 0) = false := by rw [beq_eq_false_iff_ne]; intro h; exact hbe (List.eq_nil_of_length_eq_zero (by rw [HNZ.out]; omega))
    have hz1 := he
    subst hz1
    have HNN : Hid (Bil.refTake b = none) := Lib.hid (by rw [HRF.out, if_neg hk, HH4.out]; exact if_neg (fun hh => hbe hh.2.1))
    clear hbe he hk
    have hbl0 : Below wz.heap.size wz wz.drew := (Below.refl _ _).drew
    go_wp2_with fail
    have hv0 : Keep (fun q => q = bo) wz wz.drew := Keep.of_below (Below.refl _ _).drew
    refine wp_region_held_drew (S := fun W => Keep (fun q => q = bo) wz W) (by kernel_rfl) (hv0) (fun hHeld => ?_)
    obtain ⟨wd, hwd⟩ : ∃ x, wz.drew = x := ⟨_, rfl⟩
    rw [hwd] at hv0 hHeld hbl0 ⊢
    clear hwd
    refine tkH 0 oTx0 (.agg #[.int .i64 k, .int .i64 p, .int .i64 q, .int .i64 r, .slice none 0 0]) (yieldsIf_load_mid rfl _ (.tmp 5) rfl b5 0 rfl [.int .i64 k, .int .i64 p, .int .i64 q, .int .i64 r, .slice none 0 0] _ (fun W hSW => fun j v hv => by rw [(HZ.out.r5.keep (hSW.block b5 HZ.out.r5.lt (fun e : b5 = bo => by have := HZ.out.o; omega))).cell, Nat.zero_add]; exact hv) Tryd.underlying35 rfl size5) ?_
    try simp only [oTx0, PT]
    refine tkH 1 oTx1 ?v1_6002 (.inl ⟨by rfl, ?h1_6002⟩) ?r1_6002
    case h1_6002 =>
     intro W hSW
     unfold oTx1
     try dsimp only at hSW
     go_simp
     try with_reducible rfl
    try simp only [oTx1, PT]
    refine tkH 2 oTx2 ?v2_6003 (.inl ⟨by rfl, ?h2_6003⟩) ?r2_6003
    case h2_6003 =>
     intro W hSW
     unfold oTx2
     try dsimp only at hSW
     go_simp
     try with_reducible rfl
    try simp only [oTx2, PT]
    refine tkH 3 oTx3 ?v3_6004 (.inl ⟨by rfl, ?h3_6004⟩) ?r3_6004
    case h3_6004 =>
     intro W hSW
     unfold oTx3
     try dsimp only at hSW
     go_simp
     try with_reducible rfl
    try simp only [oTx3, PT]
    refine tkH 4 oTx4 ?v4_6005 (.inl ⟨by rfl, ?h4_6005⟩) ?r4_6005
    case h4_6005 =>
     intro W hSW
     unfold oTx4
     try dsimp only at hSW
     have hcc : W.cell? ⟨br, 1, none⟩ = some (.int .i64 0) := (HZR.out.keep (hSW.block br HZR.out.lt (fun e : br = bo => by have := HZ.out.o; omega))).cell 1
     go_simp
     try with_reducible rfl
    try simp only [oTx4, PT]
    refine tkH 5 oTx5 ?v5_6006 (.inl ⟨by rfl, ?h5_6006⟩) ?r5_6006
    case h5_6006 =>
     intro W hSW
     unfold oTx5
     try dsimp only at hSW
     go_simp
     try with_reducible rfl
    try simp only [oTx5, PT]
    refine tkH 6 oTx6 ?v6_6007 (.inl ⟨by rfl, ?h6_6007⟩) ?r6_6007
    case h6_6007 =>
     intro W hSW
     unfold oTx6
     try dsimp only at hSW
     go_simp
     try with_reducible rfl
    try simp only [oTx6, PT]
    refine tkH 7 oTx7 ?v7_6008 (.inl ⟨by rfl, ?h7_6008⟩) ?r7_6008
    case h7_6008 =>
     intro W hSW
     unfold oTx7
     try dsimp only at hSW
     go_simp
     try with_reducible rfl
    try simp only [oTx7, PT]
    refine tkH 8 oTx8 ?v8_6009 (.inl ⟨by rfl, ?h8_6009⟩) ?r8_6009
    case h8_6009 =>
     intro W hSW
     unfold oTx8
     try dsimp only at hSW
     go_simp
     try with_reducible rfl
    try simp only [oTx8, PT]
    refine tkH 9 oTx9 ?v9_6010 (.inl ⟨by rfl, ?h9_6010⟩) ?r9_6010
    case h9_6010 =>
     intro W hSW
     unfold oTx9
     try dsimp only at hSW
     go_simp
     try with_reducible rfl
    try simp only [oTx9, PT]
    refine tkH 10 oTx10 ?v10_6011 (.inl ⟨by rfl, ?h10_6011⟩) ?r10_6011
    case h10_6011 =>
     intro W hSW
     unfold oTx10
     try dsimp only at hSW
     have hcc : W.cell? ⟨br, 0, none⟩ = some (.slice Az nz cz) := (HZR.out.keep (hSW.block br HZR.out.lt (fun e : br = bo => by have := HZ.out.o; omega))).cell 0
     go_simp
     try with_reducible rfl
    try simp only [oTx10, PT]
    refine tkH 11 oTx11 ?v11_6012 (.inl ⟨by rfl, ?h11_6012⟩) ?r11_6012
    case h11_6012 =>
     intro W hSW
     unfold oTx11
     try dsimp only at hSW
     go_simp
     try with_reducible rfl
    try simp only [oTx11, PT]
    refine tkH 12 oTx12 ?v12_6013 (.inl ⟨by rfl, ?h12_6013⟩) ?r12_6013
    case h12_6013 =>
     intro W hSW
     unfold oTx12
     try dsimp only at hSW
     go_simp
     try with_reducible rfl
    try simp only [oTx12, PT]
    refine tkH 13 oTx13 ?v13_6014 (.inl ⟨by rfl, ?h13_6014⟩) ?r13_6014
    case h13_6014 =>
     intro W hSW
     unfold oTx13
     try dsimp only at hSW
     go_simp
     try with_reducible rfl
    try simp only [oTx13, PT]
    refine tkH 14 oTx14 ?v14_6015 (.inl ⟨by rfl, ?h14_6015⟩) ?r14_6015
    case h14_6015 =>
     intro W hSW
     unfold oTx14
     try dsimp only at hSW
     go_simp
     try with_reducible rfl
    try simp only [oTx14, PT]
    refine tkH 15 oTx15 undef (.inr ⟨by rfl, rfl⟩) ?_
    try simp only [oTx15, PT]
    refine tkH 16 oTx16 undef (.inr ⟨by rfl, rfl⟩) ?_
    try simp only [oTx16, PT]
    refine tkH 17 oTx17 undef (.inr ⟨by rfl, rfl⟩) ?_
    try simp only [oTx17, PT]
    refine tkH 18 oTx18 undef (.inr ⟨by rfl, rfl⟩) ?_
    try simp only [oTx18, PT]
    refine tkH 19 oTx19 undef (.inr ⟨by rfl, rfl⟩) ?_
    try simp only [oTx19, PT]
    refine tkH 20 oTx20 undef (.inr ⟨by rfl, rfl⟩) ?_
    try simp only [oTx20, PT]
    refine tkH 21 oTx21 undef (.inr ⟨by rfl, rfl⟩) ?_
    try simp only [oTx21, PT]
    refine tkH 22 oTx22 undef (.inr ⟨by rfl, rfl⟩) ?_
    try simp only [oTx22, PT]
    refine tkH 23 oTx23 ?v23_6024 (.inl ⟨by rfl, ?h23_6024⟩) ?r23_6024
    case h23_6024 =>
     intro W hSW
     unfold oTx23
     try dsimp only at hSW
     go_simp
     try with_reducible rfl
    try simp only [oTx23, PT]
    refine rdyH [24] ?_
    refine AllReadyH.cons (o := oTx24) rfl (fun K hK => ?_) AllReadyH.nil
    unfold oTx24
    rw [if_pos (by rfl)]
    refine wp_storeRow 35 (.tmp 2) (.tmp 51) rfl (l' := [.int .i64 k, .int .i64 p, .int .i64 q, .int .i64 r, .slice none 0 0]) (HZ.out.r2.below' hbl0) rfl rfl size5 rfl rfl ?_
    intro w600 r2f g2f z2f
    have hbz := hbl0
    have hv600 : Keep (fun q => q = bo) wz w600 := (hv0).grown g2f (fun k e => .inl (Option.some.inj e).symm)
    refine hK.out _ _ (hv600) (fun hHeld => ?_)
    clear hK K
    try simp only [PT]
    refine tkH 25 oTx25 ?v25_6025 (.inl ⟨by rfl, ?h25_6025⟩) ?r25_6025
    case h25_6025 =>
     intro W hSW
     unfold oTx25
     try dsimp only at hSW
     go_simp
     try with_reducible rfl
    try simp only [oTx25, PT]
    refine wpAnyH_done (by kernel_rfl) ?_ _
    go_wp2_with fail
    have hsz := HZ.out.below.size
    have hfin : Below w.heap.size w _ := (HZ.out.below.trans (hbz.mono hsz)).grown g2f (Nat.le_trans hsz hbz.size) (fun j hj => by have := Option.some.inj hj; have := HZ.out.o; omega)
    exact bodyPost_ret (resultRowST rfl _ _ r2f rfl Tryd.underlying35 size5) rfl ⟨hfin, .inl ⟨[.int .i64 k, .int .i64 p, .int .i64 q, .int .i64 r, .slice none 0 0], rfl, rfl, rfl, HNN.out⟩⟩

  ·
   have hen : (ee == 0) = false := by rw [beq_eq_false_iff_ne]; exact he
   have HNN : Hid (Bil.refTake b = none) := Lib.hid (by rw [HRF.out, if_neg hk, HH4.out]; exact if_neg (fun hh => he (by rw [← HEE.out]; exact hh.1)))
   clear he hk
   have hbl0 : Below wz.heap.size wz wz.drew := (Below.refl _ _).drew
   go_wp2_with fail
   have hv0 : Keep (fun q => q = bo) wz wz.drew := Keep.of_below (Below.refl _ _).drew
   refine wp_region_held_drew (S := fun W => Keep (fun q => q = bo) wz W) (by kernel_rfl) (hv0) (fun hHeld => ?_)
   obtain ⟨wd, hwd⟩ : ∃ x, wz.drew = x := ⟨_, rfl⟩
   rw [hwd] at hv0 hHeld hbl0 ⊢
   clear hwd
   refine tkH 0 oTx0 (.agg #[.int .i64 k, .int .i64 p, .int .i64 q, .int .i64 r, .slice none 0 0]) (yieldsIf_load_mid rfl _ (.tmp 5) rfl b5 0 rfl [.int .i64 k, .int .i64 p, .int .i64 q, .int .i64 r, .slice none 0 0] _ (fun W hSW => fun j v hv => by rw [(HZ.out.r5.keep (hSW.block b5 HZ.out.r5.lt (fun e : b5 = bo => by have := HZ.out.o; omega))).cell, Nat.zero_add]; exact hv) Tryd.underlying35 rfl size5) ?_
   try simp only [oTx0, PT]
   refine tkH 1 oTx1 ?v1_7002 (.inl ⟨by rfl, ?h1_7002⟩) ?r1_7002
   case h1_7002 =>
    intro W hSW
    unfold oTx1
    try dsimp only at hSW
    go_simp
    try with_reducible rfl
   try simp only [oTx1, PT]
   refine tkH 2 oTx2 ?v2_7003 (.inl ⟨by rfl, ?h2_7003⟩) ?r2_7003
   case h2_7003 =>
    intro W hSW
    unfold oTx2
    try dsimp only at hSW
    go_simp
    try with_reducible rfl
   try simp only [oTx2, PT]
   refine tkH 3 oTx3 ?v3_7004 (.inl ⟨by rfl, ?h3_7004⟩) ?r3_7004
   case h3_7004 =>
    intro W hSW
    unfold oTx3
    try dsimp only at hSW
    go_simp
    try with_reducible rfl
   try simp only [oTx3, PT]
   refine tkH 4 oTx4 ?v4_7005 (.inl ⟨by rfl, ?h4_7005⟩) ?r4_7005
   case h4_7005 =>
    intro W hSW
    unfold oTx4
    try dsimp only at hSW
    have hcc : W.cell? ⟨br, 1, none⟩ = some (.int .i64 ee) := (HZR.out.keep (hSW.block br HZR.out.lt (fun e : br = bo => by have := HZ.out.o; omega))).cell 1
    go_simp
    try with_reducible rfl
   try simp only [oTx4, PT]
   refine tkH 5 oTx5 ?v5_7006 (.inl ⟨by rfl, ?h5_7006⟩) ?r5_7006
   case h5_7006 =>
    intro W hSW
    unfold oTx5
    try dsimp only at hSW
    go_simp
    try with_reducible rfl
   try simp only [oTx5, PT]
   refine tkH 6 oTx6 ?v6_7007 (.inl ⟨by rfl, ?h6_7007⟩) ?r6_7007
   case h6_7007 =>
    intro W hSW
    unfold oTx6
    try dsimp only at hSW
    go_simp
    try with_reducible rfl
   try simp only [oTx6, PT]
   refine tkH 7 oTx7 undef (.inr ⟨by rfl, rfl⟩) ?_
   try simp only [oTx7, PT]
   refine tkH 8 oTx8 undef (.inr ⟨by rfl, rfl⟩) ?_
   try simp only [oTx8, PT]
   refine tkH 9 oTx9 undef (.inr ⟨by rfl, rfl⟩) ?_
   try simp only [oTx9, PT]
   refine tkH 10 oTx10 undef (.inr ⟨by rfl, rfl⟩) ?_
   try simp only [oTx10, PT]
   refine tkH 11 oTx11 undef (.inr ⟨by rfl, rfl⟩) ?_
   try simp only [oTx11, PT]
   refine tkH 12 oTx12 undef (.inr ⟨by rfl, rfl⟩) ?_
   try simp only [oTx12, PT]
   refine tkH 13 oTx13 ?v13_7014 (.inl ⟨by rfl, ?h13_7014⟩) ?r13_7014
   case h13_7014 =>
    intro W hSW
    unfold oTx13
    try dsimp only at hSW
    go_simp
    try with_reducible rfl
   try simp only [oTx13, PT]
   refine tkH 14 oTx14 ?v14_7015 (.inl ⟨by rfl, ?h14_7015⟩) ?r14_7015
   case h14_7015 =>
    intro W hSW
    unfold oTx14
    try dsimp only at hSW
    go_simp
    try with_reducible rfl
   try simp only [oTx14, PT]
   refine tkH 15 oTx15 undef (.inr ⟨by rfl, rfl⟩) ?_
   try simp only [oTx15, PT]
   refine tkH 16 oTx16 undef (.inr ⟨by rfl, rfl⟩) ?_
   try simp only [oTx16, PT]
   refine tkH 17 oTx17 undef (.inr ⟨by rfl, rfl⟩) ?_
   try simp only [oTx17, PT]
   refine tkH 18 oTx18 undef (.inr ⟨by rfl, rfl⟩) ?_
   try simp only [oTx18, PT]
   refine tkH 19 oTx19 undef (.inr ⟨by rfl, rfl⟩) ?_
   try simp only [oTx19, PT]
   refine tkH 20 oTx20 undef (.inr ⟨by rfl, rfl⟩) ?_
   try simp only [oTx20, PT]
   refine tkH 21 oTx21 undef (.inr ⟨by rfl, rfl⟩) ?_
   try simp only [oTx21, PT]
   refine tkH 22 oTx22 undef (.inr ⟨by rfl, rfl⟩) ?_
   try simp only [oTx22, PT]
   refine tkH 23 oTx23 ?v23_7024 (.inl ⟨by rfl, ?h23_7024⟩) ?r23_7024
   case h23_7024 =>
    intro W hSW
    unfold oTx23
    try dsimp only at hSW
    go_simp
    try with_reducible rfl
   try simp only [oTx23, PT]
   refine rdyH [24] ?_
   refine AllReadyH.cons (o := oTx24) rfl (fun K hK => ?_) AllReadyH.nil
   unfold oTx24
   rw [if_pos (by rfl)]
   refine wp_storeRow 35 (.tmp 2) (.tmp 51) rfl (l' := [.int .i64 k, .int .i64 p, .int .i64 q, .int .i64 r, .slice none 0 0]) (HZ.out.r2.below' hbl0) rfl rfl size5 rfl rfl ?_
   intro w700 r2f g2f z2f
   have hbz := hbl0
   have hv700 : Keep (fun q => q = bo) wz w700 := (hv0).grown g2f (fun k e => .inl (Option.some.inj e).symm)
   refine hK.out _ _ (hv700) (fun hHeld => ?_)
   clear hK K
   try simp only [PT]
   refine tkH 25 oTx25 ?v25_7025 (.inl ⟨by rfl, ?h25_7025⟩) ?r25_7025
   case h25_7025 =>
    intro W hSW
    unfold oTx25
    try dsimp only at hSW
    go_simp
    try with_reducible rfl
   try simp only [oTx25, PT]
   refine wpAnyH_done (by kernel_rfl) ?_ _
   go_wp2_with fail
   have hsz := HZ.out.below.size
   have hfin : Below w.heap.size w _ := (HZ.out.below.trans (hbz.mono hsz)).grown g2f (Nat.le_trans hsz hbz.size) (fun j hj => by have := Option.some.inj hj; have := HZ.out.o; omega)
   exact bodyPost_ret (resultRowST rfl _ _ r2f rfl Tryd.underlying35 size5) rfl ⟨hfin, .inl ⟨[.int .i64 k, .int .i64 p, .int .i64 q, .int .i64 r, .slice none 0 0], rfl, rfl, rfl, HNN.out⟩⟩

end Go.Proofs.YtkjomnakolhdcaaDoor
