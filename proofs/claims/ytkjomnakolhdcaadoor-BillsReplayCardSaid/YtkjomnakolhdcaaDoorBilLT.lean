/- The walk of BillsReplay: it returns true. Conditions: what the arguments are, the tables of SHA-256. -/
import Derived.Test.YtkjomnakolhdcaaDoorHeld2
import Derived.Test.YtkjomnakolhdcaaDoorBilLS
import Derived.Test.YtkjomnakolhdcaaDoorBilLR
namespace Go.Proofs.YtkjomnakolhdcaaDoor
set_option linter.unusedVariables false
set_option linter.unusedSimpArgs false
open Go.RowKit
abbrev oLT0 : Oper := { dst := some 84, op := Op.move (Operand.tmp 12), type := 25, pos := "law.go:200", after := #[], guard := none }
abbrev oLT1 : Oper := { dst := some 85, op := Op.fieldAddr 56 (Operand.tmp 15) 0, type := 0, pos := "law.go:200", after := #[], guard := none }
abbrev oLT2 : Oper := { dst := some 86, op := Op.load 40 (Operand.tmp 85), type := 40, pos := "law.go:200", after := #[{ on := 1, ground := Ground.data }], guard := none }
abbrev oLT3 : Oper := { dst := some 87, op := Op.call { callee := Callee.value (Operand.func 22), args := #[Operand.tmp 84, Operand.tmp 86], argTypes := #[25, 40] }, type := 4, pos := "law.go:200", after := #[{ on := 0, ground := Ground.data }, { on := 2, ground := Ground.data }], guard := none }
abbrev oLT4 : Oper := { dst := some 88, op := Op.move (Operand.tmp 87), type := 4, pos := "law.go:200", after := #[{ on := 3, ground := Ground.data }, { on := 3, ground := Ground.chain }], guard := none }
abbrev oLT5 : Oper := { dst := some 89, op := Op.move (Operand.tmp 16), type := 25, pos := "law.go:200", after := #[{ on := 4, ground := Ground.guard }], guard := some (4, true) }
abbrev oLT6 : Oper := { dst := some 92, op := Op.move (Operand.tmp 8), type := 25, pos := "law.go:200", after := #[{ on := 4, ground := Ground.guard }], guard := some (4, true) }
abbrev oLT7 : Oper := { dst := some 90, op := Op.call { callee := Callee.value (Operand.func 26), args := #[Operand.tmp 89], argTypes := #[25] }, type := 58, pos := "law.go:200", after := #[{ on := 5, ground := Ground.data }, { on := 4, ground := Ground.chain }, { on := 4, ground := Ground.guard }], guard := some (4, true) }
abbrev oLT8 : Oper := { dst := some 91, op := Op.convert 58 9 (Operand.tmp 90), type := 9, pos := "law.go:200", after := #[{ on := 6, ground := Ground.data }, { on := 4, ground := Ground.guard }], guard := some (4, true) }
abbrev oLT9 : Oper := { dst := some 93, op := Op.call { callee := Callee.value (Operand.func 26), args := #[Operand.tmp 92], argTypes := #[25] }, type := 58, pos := "law.go:200", after := #[{ on := 8, ground := Ground.data }, { on := 6, ground := Ground.chain }, { on := 4, ground := Ground.guard }], guard := some (4, true) }
abbrev oLT10 : Oper := { dst := some 94, op := Op.convert 58 9 (Operand.tmp 93), type := 9, pos := "law.go:200", after := #[{ on := 9, ground := Ground.data }, { on := 4, ground := Ground.guard }], guard := some (4, true) }
abbrev oLT11 : Oper := { dst := some 95, op := Op.binOp BinOp.eql 9 (Operand.tmp 91) (Operand.tmp 94) 9, type := 4, pos := "law.go:200", after := #[{ on := 7, ground := Ground.data }, { on := 10, ground := Ground.data }, { on := 4, ground := Ground.guard }], guard := some (4, true) }
abbrev oLT12 : Oper := { dst := some 96, op := Op.pick (Operand.tmp 88) (Operand.tmp 95) (Operand.const (Value.bool false)), type := 4, pos := "law.go:200", after := #[{ on := 4, ground := Ground.data }, { on := 11, ground := Ground.data }], guard := none }
abbrev oLT13 : Oper := { dst := some 6, op := Op.assign (Operand.tmp 96), type := 4, pos := "law.go:200", after := #[{ on := 12, ground := Ground.data }, { on := 9, ground := Ground.chain }, { on := 0, ground := Ground.phase }, { on := 1, ground := Ground.phase }, { on := 2, ground := Ground.phase }, { on := 3, ground := Ground.phase }, { on := 4, ground := Ground.phase }, { on := 5, ground := Ground.phase }, { on := 6, ground := Ground.phase }, { on := 7, ground := Ground.phase }, { on := 8, ground := Ground.phase }, { on := 9, ground := Ground.phase }, { on := 10, ground := Ground.phase }, { on := 11, ground := Ground.phase }, { on := 12, ground := Ground.phase }], guard := none }
theorem own_add0 {W : World} {base e j c : Nat} {A : Option Addr} {xs : List Value} (h : W.ownsRow base e 1 (.slice A j c) j xs) : (if c = 0 then A else A.map (·.add 0)) = A := by
 rcases h.2 with ⟨h0, _⟩ | ⟨g, cap, cur, hv, _⟩
 ·
  injection h0 with hA _ hc
  rw [hA]; split <;> rfl
 ·
  injection hv with hA _ hc
  rw [hA]
  split <;> rfl
theorem run_cutToS {P : Program} (w : World) {t e : TypeId} {z : Value} {size bytes : Nat} (E : ElemT P t e z size bytes) (A : Option Addr) (n c h : Nat) (kh : IntKind) (hh : h ≤ c) :
  (Instr.sliceAt t (.slice A n c) none (some (.int kh h)) none).run P w = .ok (.slice (if c = 0 then A else A.map (·.add 0)) h c) w := by
 obtain ⟨i, hi, hz, hsize, hby⟩ := info_parts E.info
 simp [Instr.sliceAt, run_underlying E.sl, Instr.slice, Instr.sliceBounds, run_sliceBound, hh, sizeOf, typeInfo, hi, hsize]
set_option maxRecDepth 100000 in
set_option maxHeartbeats 1600000 in
theorem play_bad (tn : Int) (A : Option Addr) (n c : Nat) (L : List BkM) (hL : L.length = n) (w : World) (rd : Rd w w.heap.size 5 A n (L.flatMap bkc)) (hT : Tabs w) (hb : ¬ (1 ≤ tn ∧ tn ≤ 16) ∨ fewB L = false) :
  Calls Tryd.prog 23 #[.int .i64 tn, .slice A n c] w fun e w' => e = .returned (.tuple #[.pointer none, .slice none 0 0, .bool false]) ∧ Below w.heap.size w w' := by
 by_cases ht : 1 ≤ tn ∧ tn ≤ 16
 ·
  have hf : fewB L = false := hb.elim (fun h => absurd ht h) id
  obtain ⟨N, rfl⟩ : ∃ N : Nat, tn = (N : Int) := ⟨tn.toNat, by omega⟩
  have HF := Lib.hid (fun W (hW : Below w.heap.size w W) => few_any A n c L hL w.heap.size W (rd.below hW))
  rw [hf] at HF
  have HNW := Lib.hid (new_any N (by omega) (by omega) w hT (RG.of hT))
  clear hb ht hf hL rd hT
  go_enter Tryd.func23, Tryd.ntmps23
  go_wp2_with (first
   | (go_at_call 11; refine HNW.out.mono ?_; rintro e w1 ⟨bl, col0, m0, rfl, hl1, hf1, hb1⟩; have HB1 := Lib.hid hb1; clear hl1 hf1 hb1)
   | (go_at_call 10; refine (HF.out w1 HB1.out).mono ?_; rintro e w2 ⟨rfl, hw2⟩; rw [hw2]; clear hw2 w2))
  go_ret3
  exact ⟨rfl, HB1.out⟩
 ·
  have HNW := Lib.hid (new_bad tn ht w)
  clear hb ht rd hT
  go_enter Tryd.func23, Tryd.ntmps23
  go_wp2_with (go_at_call 11; refine HNW.out.mono ?_; rintro e w1 ⟨rfl, hw1⟩; rw [hw1]; clear hw1 w1)
  go_ret3
  exact ⟨rfl, Below.refl _ _⟩
set_option maxRecDepth 100000 in
set_option maxHeartbeats 3200000 in
theorem lawRep (tn : Int) (t1 : -9223372036854775808 ≤ tn) (t2 : tn ≤ 9223372036854775807) (A : Option Addr) (n c : Nat) (L : List BkM) (hL : L.length = n) (hnc : n ≤ c) (hcc : c ≤ 140737488355328) (q : Int) (q1 : 0 ≤ q) (q2 : q ≤ 255) (w : World) (hok : ∀ y ∈ L, BkOk w w.heap.size y) (rd : Rd w w.heap.size 5 A n (L.flatMap bkc)) (hT : Tabs w) (hR : RTab w) :
  Calls Tryd.prog 6 #[.int .i64 tn, .slice A n c, .int .u8 q] w fun e w' => e = .returned (.bool true) ∧ Below w.heap.size w w' := by
 have HS := Lib.hid (sanity_any w hT (RG.of hT))
 by_cases hg : (1 ≤ tn ∧ tn ≤ 16) ∧ fewB L = true
 ·
  obtain ⟨⟨ht1, ht2⟩, hfew⟩ := hg
  obtain ⟨N, rfl⟩ : ∃ N : Nat, tn = (N : Int) := ⟨tn.toNat, by omega⟩
  obtain ⟨xs, hxs⟩ : ∃ xs, L.map BkM.x = xs := ⟨_, rfl⟩
  have HPL := Lib.hid (fun W (hW : Below w.heap.size w W) => play_any (N : Int) A n c L hL W (fun y hy => have h := belowBS (hok y hy) hW; ⟨h.a, h.b, h.c, h.len, h.rd.more hW.size⟩) ((rd.below hW).more hW.size) (hT.below hW) N rfl (by omega) (by omega) hfew)
  rw [hxs] at HPL
  have HXI : Hid (∀ x ∈ xs, Bil.BkI x) := Lib.hid (fun x hx => by
   rw [← hxs] at hx
   obtain ⟨y, hy, rfl⟩ := List.mem_map.1 hx
   have := hok y hy
   exact ⟨this.a, this.b, this.c, by rw [this.len]; have := (fewB_true hfew).2 y hy; omega⟩)
  have HTT := Lib.hid (And.intro hT hR)
  have HNN : Hid (1 ≤ (N : Int) ∧ (N : Int) ≤ 16) := Lib.hid ⟨ht1, ht2⟩
  obtain ⟨qn, rfl⟩ : ∃ qn : Nat, q = (qn : Int) := ⟨q.toNat, by omega⟩
  have hq2 : qn ≤ 255 := by omega
  have mq : IntKind.i64.wrap (qn : Int) = (qn : Int) := IntWalk.i64_in _ (by omega)
  clear ht1 ht2 hfew hL hnc hcc hok rd hT hR t1 t2 q1 q2 hxs
  go_enter Tryd.func6, Tryd.ntmps6
  go_upto_region 5 with (first
   | (go_at_call 9; refine HS.out.mono ?_; rintro e w1 ⟨rfl, b1⟩; have HB1 := Lib.hid b1; clear b1)
   | (go_at_call 23; refine (HPL.out w1 HB1.out).mono ?_; rintro e w2 ⟨bl, col, m, A2, j, c2, H, rfl, hps, hH, hHl, hj, hHs⟩; have HPS := Lib.hid hps; have HH := Lib.hid (And.intro hH (And.intro hHl (And.intro hj hHs))); clear hps hH hHl hj hHs))
  have HB2 : Hid (Below w.heap.size w w2) := Lib.hid (HB1.out.trans (HPS.out.b.mono HB1.out.size))
  have hjb := HH.out.2.2.1
  obtain ⟨kk, hkk⟩ : ∃ kk : Nat, qn % (j + 1) = kk := ⟨_, rfl⟩
  have hkj : kk ≤ j := by have := Nat.mod_lt qn (show 0 < j + 1 by omega); omega
  have mj : IntKind.i64.wrap ((j : Int) + 1) = (j : Int) + 1 := IntWalk.i64_in _ (by omega)
  have mr : (qn : Int) % ((j : Int) + 1) = (kk : Int) := by rw [← hkk]; rfl
  have mr2 : Int.tmod (qn : Int) ((j : Int) + 1) = (kk : Int) := by rw [Int.tmod_eq_emod_of_nonneg (by omega)]; exact mr
  have mk : IntKind.i64.wrap (kk : Int) = (kk : Int) := IntWalk.i64_in _ (by omega)
  have mz : (((j : Int) + 1) == 0) = false := by rw [beq_eq_false_iff_ne]; omega
  have mz2 : ¬ ((j : Int) + 1 = 0) := by omega
  have HKJ := Lib.hid hkj
  clear hjb hkk hkj
  go_upto_region 6 with fail
  clear mq mj mr mr2 mk mz mz2
  obtain ⟨l, hl⟩ : ∃ l, Bil.run (Bil.newOf N (newHead N)) xs = l := ⟨_, rfl⟩
  have hps := HPS.out
  rw [hl] at hps
  have hrp : Bil.replay (Bil.newOf N (newHead N)) 0 (Bil.encs (Bil.newOf N (newHead N)) xs) = .inl l := by rw [Bil.replay_encs xs _ 0 HXI.out, hl]
  obtain ⟨l1, hl1⟩ := Bil.replay_take _ _ 0 l hrp kk
  have hrd0 : ∀ hs, Bil.replayed (N : Int) hs = Bil.replay (Bil.newOf N (newHead N)) 0 hs := fun hs => by unfold Bil.replayed; rw [if_pos HNN.out, Int.toNat_natCast]
  have hwh : Bil.replayed (N : Int) (H.map fun s => s.data.toList) = .inl l := by rw [hrd0, HH.out.1, hrp]
  have hpa : Bil.replayed (N : Int) ((H.take kk).map fun s => s.data.toList) = .inl l1 := by rw [hrd0, List.map_take, HH.out.1, hl1]
  have hjl := HH.out.2.1
  have hj60 := HH.out.2.2.1
  have hsz := HH.out.2.2.2
  have hkj := HKJ.out
  have hrdH := Rd.of_own hps.own
  have hT2 : Tabs w2 ∧ RTab w2 := ⟨HTT.out.1.below HB2.out, HTT.out.2.below HB2.out⟩
  have hTk := hT2.1.k.lt
  have hTs := hT2.1.s.lt
  have hTr := hT2.2.r.lt
  have htk : Rd w2 w2.heap.size 1 A2 kk (svs (H.take kk)) := by
   have := hrdH.take hkj
   rw [Nat.mul_one, show (svs H).take kk = svs (H.take kk) from (List.map_take).symm] at this
   exact this
  have HPA := Lib.hid (fun W (hW : Below w2.heap.size w2 W) => replay_any (N : Int) A2 kk c2 (H.take kk) (by rw [List.length_take, hjl]; omega) (by omega) (fun s hs => hsz s (List.mem_of_mem_take hs)) W w2.heap.size hW.size (htk.below hW) (hT2.1.below hW) ⟨hTk, hTs⟩)
  have HRA := Lib.hid (fun W (hW : Below w2.heap.size w2 W) => rreplay_any (N : Int) A2 kk c2 (H.take kk) (by rw [List.length_take, hjl]; omega) (by omega) (fun s hs => hsz s (List.mem_of_mem_take hs)) W w2.heap.size hW.size (htk.below hW) (hT2.1.below hW) (hT2.2.below hW) ⟨hTk, hTs, hTr⟩)
  have HWA := Lib.hid (fun W (hW : Below w2.heap.size w2 W) => replay_any (N : Int) A2 j c2 H hjl hj60 hsz W w2.heap.size hW.size (hrdH.below hW) (hT2.1.below hW) ⟨hTk, hTs⟩)
  rw [hpa] at HPA HRA
  rw [hwh] at HWA
  have HPS2 := Lib.hid hps
  have hc2 : kk ≤ c2 := by have := own_cap hps.own; omega
  have hcut : ∀ W : World, (Instr.sliceAt 50 (.slice A2 j c2) none (some (.int .i64 (kk : Int))) none).run Tryd.prog W = .ok (.slice A2 kk c2) W := fun W => by
   have h1 := run_cutToS (P := Tryd.prog) W strE A2 j c2 kk .i64 hc2
   rwa [own_add0 hps.own] at h1
  clear hps hrp hl1 hrd0 hwh hpa hjl hj60 hsz hkj hrdH hT2 hTk hTs hTr htk hc2 hl HPS
  go_upto_region 11 with (first
   | (have hgd := r4; refine wpList_storeRow rfl _ (.tmp 15) (.tmp 53) rfl (l' := [.pointer (some ⟨bt, 0, none⟩), .int .i64 0, .int .i64 0]) r4 rfl rfl sizeRp rfl rfl ?_; intro w5 r5 g5 z5; have HB5 := Lib.hid ((HB3t.out.trans (b4.mono HB3t.out.size)).grown g5 (Nat.le_trans HB3t.out.size b4.size) (fun j hj => by have := Option.some.inj hj; have := HB3t.out.size; omega)); have HR5 := Lib.hid r5; have q2 : w5.cell? ⟨w3t.heap.size, 2, none⟩ = some (.int .i64 0) := r5.cell 2; (have hk5 : Keep (fun q => q = w3t.heap.size) w4 w5 := Keep.of_grown g5 fun k e => (Option.some.inj e).symm); have HL5 := Lib.hid ((HL3.out.below b4).keeps hk5 (fun b e => by subst e; exact col_zero HL3.out (Nat.le_refl _))); have HT5 := Lib.hid ((ht.out.below b4).keeps hk5 (fun b e => by subst e; exact rat_zero ht.out (Nat.le_refl _))); clear r4 r5 b4 g5 z4 z5 hk5)
   | (have hgd := HB5; go_at_call 24; refine (HWA.out _ HB5.out).mono ?_; rintro e w6 ⟨b6, hh⟩; (obtain ⟨bw, cw, mw, rfl, hw⟩ : ∃ bl cl ml, e = .returned (.tuple #[.pointer (some ⟨bl, 0, none⟩), .int .i64 0, .int .i64 0]) ∧ Hid (LAt w6 bl cl ml l) := hh.elim (fun ⟨l', bl, col, m, h1, h2, h3, h4, h5⟩ => by cases h1; exact ⟨bl, col, m, h2, Lib.hid h3⟩) (fun ⟨i, er', h1, h2, h3⟩ => by cases h1)); have HB6 := Lib.hid b6; have q26 : w6.cell? ⟨w3t.heap.size, 2, none⟩ = some (.int .i64 0) := (b6.cell (p := ⟨w3t.heap.size, 2, none⟩) HR5.out.lt).trans q2; clear b6 hh q2)
   | (go_at_call 24; refine (HPA.out _ (Below.refl _ _)).mono ?_; rintro e w3 ⟨b3, hh⟩; (obtain ⟨b_l, cl, ml, rfl, hl⟩ : ∃ bl cl ml, e = .returned (.tuple #[.pointer (some ⟨bl, 0, none⟩), .int .i64 0, .int .i64 0]) ∧ Hid (LAt w3 bl cl ml l1 ∧ Bil.Inv l1 BIG) := hh.elim (fun ⟨l', bl, col, m, h1, h2, h3, h4, h5⟩ => by cases h1; exact ⟨bl, col, m, h2, Lib.hid ⟨h3, h5⟩⟩) (fun ⟨i, er', h1, h2, h3⟩ => by cases h1)); have HB3 := Lib.hid b3; clear b3 hh)
   | (go_at_call 25; refine (HRA.out _ HB3.out).mono ?_; rintro e w3t ⟨b3, hh⟩; (obtain ⟨bt, ct, mt, rfl, ht⟩ : ∃ bl cl ml, e = .returned (.agg #[.pointer (some ⟨bl, 0, none⟩), .int .i64 0, .int .i64 0]) ∧ Hid (RAt w3t bl cl ml l1) := hh.elim (fun ⟨l', bl, col, m, h1, h2, h3, h4⟩ => by cases h1; exact ⟨bl, col, m, h2, Lib.hid h3⟩) (fun ⟨i, er', h1, h2, h3⟩ => by cases h1)); have HL3 := Lib.hid (hl.out.1.below b3); have HB3t := Lib.hid (HB3.out.trans (b3.mono HB3.out.size)); clear b3 hh)
   | (refine wpList_allocRow rfl _ rfl _ infoRp ?_; intro w4 r4 b4 z4))
  have HB26 := Lib.hid (HB5.out.trans (HB6.out.mono HB5.out.size))
  obtain ⟨b15, hb15⟩ : ∃ x, w3t.heap.size = x := ⟨_, rfl⟩
  rw [hb15] at HR5 q26 ⊢
  have HAL := Lib.hid (fun W (hW : Below w6.heap.size w6 W) => alike_any b_l cl ml bt ct mt l1 W ((HL5.out.below HB6.out).below hW) ((HT5.out.below HB6.out).below hW) hl.out.2.ok (inv_encR hl.out.2).1 (inv_encR hl.out.2).2 hl.out.2.ke)
  have HEW := Lib.hid (fun W (hW : Below w6.heap.size w6 W) => encode_any bw cw mw l W (hw.out.below hW) (inv_encR HPS2.out.inv).1 (inv_encR HPS2.out.inv).2 HPS2.out.inv.ke)
  have HEL := Lib.hid (fun W (hW : Below w6.heap.size w6 W) => encode_any bl col m l W ((HPS2.out.lat.below HB26.out).below hW) (inv_encR HPS2.out.inv).1 (inv_encR HPS2.out.inv).2 HPS2.out.inv.ke)
  obtain ⟨E, hE⟩ : ∃ x, Bil.enc l = x := ⟨_, rfl⟩
  rw [hE] at HEW HEL
  have HC0 : Hid (∀ W, Below w6.heap.size w6 W → W.cell? ⟨b15, 0, none⟩ = some (.pointer (some ⟨bt, 0, none⟩))) := Lib.hid fun W hW => (hW.cell (p := ⟨b15, 0, none⟩) (Nat.lt_of_lt_of_le HR5.out.lt HB6.out.size)).trans ((HB6.out.cell (p := ⟨b15, 0, none⟩) HR5.out.lt).trans (HR5.out.cell 0))
  have HBW : Hid (Below w.heap.size w w6) := Lib.hid (HB2.out.trans (HB26.out.mono HB2.out.size))
  clear hE hb15 q26
  go_wp2_with fail
  have hv0 : Below w6.heap.size w6 w6.drew := (Below.refl _ _).drew
  refine wp_region_held_drew (S := fun W => Below w6.heap.size w6 W) (by kernel_rfl) (hv0) (fun hHeld => ?_)
  obtain ⟨wd, hwd⟩ : ∃ x, w6.drew = x := ⟨_, rfl⟩
  rw [hwd] at hv0 hHeld  ⊢
  clear hwd
  refine tkH 0 oLT0 ?v0_1 (.inl ⟨by rfl, ?h0_1⟩) ?r0_1
  case h0_1 =>
   intro W hSW
   unfold oLT0
   try dsimp only at hSW
   go_simp
   try with_reducible rfl
  try simp only [PT]
  refine tkH 1 oLT1 ?v1_2 (.inl ⟨by rfl, ?h1_2⟩) ?r1_2
  case h1_2 =>
   intro W hSW
   unfold oLT1
   try dsimp only at hSW
   go_simp
   try with_reducible rfl
  try simp only [PT]
  refine tkH 2 oLT2 ?v2_3 (.inl ⟨by rfl, ?h2_3⟩) ?r2_3
  case h2_3 =>
   intro W hSW
   unfold oLT2
   try dsimp only at hSW
   have hcc := HC0.out W hSW
   go_simp
   try with_reducible rfl
  try simp only [PT]
  refine rdyH [3] ?_
  refine AllReadyH.cons (o := oLT3) rfl (fun K hK => ?_) AllReadyH.nil
  unfold oLT3
  go_simp
  refine (HAL.out _ hv0).mono ?_
  rintro e w60 ⟨rfl, b60⟩
  have hv60 : Below w6.heap.size w6 w60 := hv0.trans (b60.mono hv0.size)
  clear b60
  refine hK.out _ _ (hv60) (fun hHeld => ?_)
  clear hK K
  try simp only [PT]
  refine tkH 4 oLT4 ?v4_4 (.inl ⟨by rfl, ?h4_4⟩) ?r4_4
  case h4_4 =>
   intro W hSW
   unfold oLT4
   try dsimp only at hSW
   go_simp
   try with_reducible rfl
  try simp only [PT]
  refine tkH 5 oLT5 ?v5_5 (.inl ⟨by rfl, ?h5_5⟩) ?r5_5
  case h5_5 =>
   intro W hSW
   unfold oLT5
   try dsimp only at hSW
   go_simp
   try with_reducible rfl
  try simp only [PT]
  refine tkH 8 oLT6 ?v8_6 (.inl ⟨by rfl, ?h8_6⟩) ?r8_6
  case h8_6 =>
   intro W hSW
   unfold oLT6
   try dsimp only at hSW
   go_simp
   try with_reducible rfl
  try simp only [PT]
  refine rdyH [6] ?_
  refine AllReadyH.cons (o := oLT7) rfl (fun K hK => ?_) AllReadyH.nil
  unfold oLT7
  go_simp
  refine (HEW.out _ hv60).mono ?_
  rintro e w61 ⟨A1_, n1, c1_, rfl, hn1, rd1, b61⟩
  have hv61 : Below w6.heap.size w6 w61 := hv60.trans (b61.mono hv60.size)
  have hcv1 := run_toS w61 58 9 5 Tryd.underlying58 Tryd.underlying5 Tryd.underlying9 A1_ n1 c1_ _ E rd1
  skip
  clear b61 hn1
  refine hK.out _ _ (hv61) (fun hHeld => ?_)
  clear hK K
  try simp only [PT]
  refine rdyH [7, 9] ?_
  refine AllReadyH.cons (o := oLT8) rfl (fun K hK => ?_) ?_
  ·
   skip
   unfold oLT8
   go_simp
   refine hK.out _ _ (hv61) (fun hHeld => ?_)
   clear hK K
   try simp only [PT]
   refine rdyH [9] ?_
   refine AllReadyH.cons (o := oLT9) rfl (fun K hK => ?_) AllReadyH.nil
   unfold oLT9
   go_simp
   refine (HEL.out _ hv61).mono ?_
   rintro e w63 ⟨A2_, n2, c2_, rfl, hn2, rd2, b63⟩
   have hv63 : Below w6.heap.size w6 w63 := hv61.trans (b63.mono hv61.size)
   have hcv2 := run_toS w63 58 9 5 Tryd.underlying58 Tryd.underlying5 Tryd.underlying9 A2_ n2 c2_ _ E rd2
   try have hcv1b := run_toS w63 58 9 5 Tryd.underlying58 Tryd.underlying5 Tryd.underlying9 A1_ n1 c1_ _ E (rd1.below b63)
   clear b63 hn2
   refine hK.out _ _ (hv63) (fun hHeld => ?_)
   clear hK K
   try simp only [PT]
   refine rdyH [10] ?_
   refine AllReadyH.cons (o := oLT10) rfl (fun K hK => ?_) AllReadyH.nil
   unfold oLT10
   go_simp
   refine hK.out _ _ (hv63) (fun hHeld => ?_)
   clear hK K
   try simp only [PT]
   refine tkH 11 oLT11 ?v11_7 (.inl ⟨by rfl, ?h11_7⟩) ?r11_7
   case h11_7 =>
    intro W hSW
    unfold oLT11
    try dsimp only at hSW
    go_simp
    try with_reducible rfl
   try simp only [PT]
   refine tkH 12 oLT12 ?v12_8 (.inl ⟨by rfl, ?h12_8⟩) ?r12_8
   case h12_8 =>
    intro W hSW
    unfold oLT12
    try dsimp only at hSW
    go_simp
    try with_reducible rfl
   try simp only [PT]
   refine tkH 13 oLT13 ?v13_9 (.inl ⟨by rfl, ?h13_9⟩) ?r13_9
   case h13_9 =>
    intro W hSW
    unfold oLT13
    try dsimp only at hSW
    go_simp
    try with_reducible rfl
   try simp only [PT]
   refine wpAnyH_done (by kernel_rfl) ?_ _
   have HVF := Lib.hid hv63
   clear hv63
   go_wp2_with fail
   go_ret
   exact ⟨by first | rfl | simp, HBW.out.trans (HVF.out.mono HBW.out.size)⟩
  ·
   skip
   refine AllReadyH.cons (o := oLT9) rfl (fun K hK => ?_) AllReadyH.nil
   unfold oLT9
   go_simp
   refine (HEL.out _ hv61).mono ?_
   rintro e w62 ⟨A2_, n2, c2_, rfl, hn2, rd2, b62⟩
   have hv62 : Below w6.heap.size w6 w62 := hv61.trans (b62.mono hv61.size)
   have hcv2 := run_toS w62 58 9 5 Tryd.underlying58 Tryd.underlying5 Tryd.underlying9 A2_ n2 c2_ _ E rd2
   try have hcv1b := run_toS w62 58 9 5 Tryd.underlying58 Tryd.underlying5 Tryd.underlying9 A1_ n1 c1_ _ E (rd1.below b62)
   clear b62 hn2
   refine hK.out _ _ (hv62) (fun hHeld => ?_)
   clear hK K
   try simp only [PT]
   refine rdyH [7, 10] ?_
   refine AllReadyH.cons (o := oLT8) rfl (fun K hK => ?_) ?_
   ·
    skip
    unfold oLT8
    go_simp
    refine hK.out _ _ (hv62) (fun hHeld => ?_)
    clear hK K
    try simp only [PT]
    refine rdyH [10] ?_
    refine AllReadyH.cons (o := oLT10) rfl (fun K hK => ?_) AllReadyH.nil
    unfold oLT10
    go_simp
    refine hK.out _ _ (hv62) (fun hHeld => ?_)
    clear hK K
    try simp only [PT]
    refine tkH 11 oLT11 ?v11_10 (.inl ⟨by rfl, ?h11_10⟩) ?r11_10
    case h11_10 =>
     intro W hSW
     unfold oLT11
     try dsimp only at hSW
     go_simp
     try with_reducible rfl
    try simp only [PT]
    refine tkH 12 oLT12 ?v12_11 (.inl ⟨by rfl, ?h12_11⟩) ?r12_11
    case h12_11 =>
     intro W hSW
     unfold oLT12
     try dsimp only at hSW
     go_simp
     try with_reducible rfl
    try simp only [PT]
    refine tkH 13 oLT13 ?v13_12 (.inl ⟨by rfl, ?h13_12⟩) ?r13_12
    case h13_12 =>
     intro W hSW
     unfold oLT13
     try dsimp only at hSW
     go_simp
     try with_reducible rfl
    try simp only [PT]
    refine wpAnyH_done (by kernel_rfl) ?_ _
    have HVF := Lib.hid hv62
    clear hv62
    go_wp2_with fail
    go_ret
    exact ⟨by first | rfl | simp, HBW.out.trans (HVF.out.mono HBW.out.size)⟩
   ·
    skip
    refine AllReadyH.cons (o := oLT10) rfl (fun K hK => ?_) AllReadyH.nil
    unfold oLT10
    go_simp
    refine hK.out _ _ (hv62) (fun hHeld => ?_)
    clear hK K
    try simp only [PT]
    refine rdyH [7] ?_
    refine AllReadyH.cons (o := oLT8) rfl (fun K hK => ?_) AllReadyH.nil
    unfold oLT8
    go_simp
    refine hK.out _ _ (hv62) (fun hHeld => ?_)
    clear hK K
    try simp only [PT]
    refine tkH 11 oLT11 ?v11_13 (.inl ⟨by rfl, ?h11_13⟩) ?r11_13
    case h11_13 =>
     intro W hSW
     unfold oLT11
     try dsimp only at hSW
     go_simp
     try with_reducible rfl
    try simp only [PT]
    refine tkH 12 oLT12 ?v12_14 (.inl ⟨by rfl, ?h12_14⟩) ?r12_14
    case h12_14 =>
     intro W hSW
     unfold oLT12
     try dsimp only at hSW
     go_simp
     try with_reducible rfl
    try simp only [PT]
    refine tkH 13 oLT13 ?v13_15 (.inl ⟨by rfl, ?h13_15⟩) ?r13_15
    case h13_15 =>
     intro W hSW
     unfold oLT13
     try dsimp only at hSW
     go_simp
     try with_reducible rfl
    try simp only [PT]
    refine wpAnyH_done (by kernel_rfl) ?_ _
    have HVF := Lib.hid hv62
    clear hv62
    go_wp2_with fail
    go_ret
    exact ⟨by first | rfl | simp, HBW.out.trans (HVF.out.mono HBW.out.size)⟩
 ·
  have hb : ¬ (1 ≤ tn ∧ tn ≤ 16) ∨ fewB L = false := by
   by_cases h : 1 ≤ tn ∧ tn ≤ 16
   ·
    right
    cases hf : fewB L with
    | false => rfl
    | true => exact absurd ⟨h, hf⟩ hg
   ·
    exact .inl h
  have HPL := Lib.hid (fun W (hW : Below w.heap.size w W) => play_bad tn A n c L hL W ((rd.below hW).more hW.size) (hT.below hW) hb)
  clear hb hg hL hnc hcc hok rd hT hR t1 t2
  go_enter Tryd.func6, Tryd.ntmps6
  go_wp2_with (first
   | (go_at_call 9; refine HS.out.mono ?_; rintro e w1 ⟨rfl, b1⟩; have HB1 := Lib.hid b1; clear b1)
   | (go_at_call 23; refine (HPL.out w1 HB1.out).mono ?_; rintro e w2 ⟨rfl, b2⟩; have HB2 := Lib.hid (HB1.out.trans (b2.mono HB1.out.size)); clear b2))
  go_ret
  exact ⟨rfl, HB2.out⟩
end Go.Proofs.YtkjomnakolhdcaaDoor
