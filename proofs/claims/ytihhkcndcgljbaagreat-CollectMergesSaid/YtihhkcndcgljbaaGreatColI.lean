/- collect.Next: the two stripes with the fewest live chunks, if they fit together. Conditions: at most 65536 rows, at most 100000 stripes. -/
import Derived.Test.YtihhkcndcgljbaaGreatHeld2
import Derived.Test.YtihhkcndcgljbaaGreatColH
namespace Go.Proofs.YtihhkcndcgljbaaGreat
set_option linter.unusedVariables false
set_option linter.unusedSimpArgs false
open Go.RowKit
abbrev oColI0 : Oper := { dst := some 27, op := Op.move (Operand.tmp 13), type := 3, pos := "collect.go:83", after := #[], guard := none }
abbrev oColI1 : Oper := { dst := some 28, op := Op.binOp BinOp.lss 3 (Operand.tmp 27) (Operand.const (Value.int IntKind.i64 0)) 3, type := 4, pos := "collect.go:83", after := #[{ on := 0, ground := Ground.data }], guard := none }
abbrev oColI2 : Oper := { dst := some 29, op := Op.move (Operand.tmp 28), type := 4, pos := "collect.go:83", after := #[{ on := 1, ground := Ground.data }], guard := none }
abbrev oColI3 : Oper := { dst := some 30, op := Op.move (Operand.tmp 14), type := 3, pos := "collect.go:83", after := #[{ on := 2, ground := Ground.guard }], guard := some (2, false) }
abbrev oColI4 : Oper := { dst := some 31, op := Op.binOp BinOp.lss 3 (Operand.tmp 30) (Operand.const (Value.int IntKind.i64 0)) 3, type := 4, pos := "collect.go:83", after := #[{ on := 3, ground := Ground.data }, { on := 2, ground := Ground.guard }], guard := some (2, false) }
abbrev oColI5 : Oper := { dst := some 32, op := Op.pick (Operand.tmp 29) (Operand.const (Value.bool true)) (Operand.tmp 31), type := 4, pos := "collect.go:83", after := #[{ on := 2, ground := Ground.data }, { on := 4, ground := Ground.data }], guard := none }
abbrev oColI6 : Oper := { dst := some 33, op := Op.move (Operand.tmp 32), type := 4, pos := "collect.go:83", after := #[{ on := 5, ground := Ground.data }, { on := 2, ground := Ground.chain }], guard := none }
abbrev oColI7 : Oper := { dst := some 34, op := Op.move (Operand.tmp 3), type := 3, pos := "collect.go:83", after := #[{ on := 6, ground := Ground.guard }], guard := some (6, false) }
abbrev oColI8 : Oper := { dst := some 35, op := Op.call { callee := Callee.value (Operand.func 37), args := #[Operand.tmp 34], argTypes := #[3] }, type := 4, pos := "collect.go:83", after := #[{ on := 7, ground := Ground.data }, { on := 6, ground := Ground.chain }, { on := 6, ground := Ground.guard }], guard := some (6, false) }
abbrev oColI9 : Oper := { dst := some 36, op := Op.unOp UnOp.not 4 (Operand.tmp 35), type := 4, pos := "collect.go:83", after := #[{ on := 8, ground := Ground.data }, { on := 6, ground := Ground.guard }], guard := some (6, false) }
abbrev oColI10 : Oper := { dst := some 37, op := Op.pick (Operand.tmp 33) (Operand.const (Value.bool true)) (Operand.tmp 36), type := 4, pos := "collect.go:83", after := #[{ on := 6, ground := Ground.data }, { on := 9, ground := Ground.data }], guard := none }
abbrev oColI11 : Oper := { dst := some 38, op := Op.move (Operand.tmp 37), type := 4, pos := "collect.go:83", after := #[{ on := 10, ground := Ground.data }, { on := 8, ground := Ground.chain }], guard := none }
abbrev oColI12 : Oper := { dst := some 39, op := Op.move (Operand.tmp 11), type := 87, pos := "collect.go:83", after := #[{ on := 11, ground := Ground.guard }], guard := some (11, false) }
abbrev oColI13 : Oper := { dst := some 40, op := Op.move (Operand.tmp 13), type := 3, pos := "collect.go:83", after := #[{ on := 11, ground := Ground.guard }], guard := some (11, false) }
abbrev oColI14 : Oper := { dst := some 41, op := Op.indexAddr 87 (Operand.tmp 39) (Operand.tmp 40), type := 0, pos := "collect.go:83", after := #[{ on := 12, ground := Ground.data }, { on := 13, ground := Ground.data }, { on := 11, ground := Ground.guard }], guard := some (11, false) }
abbrev oColI15 : Oper := { dst := some 42, op := Op.fieldAddr 95 (Operand.tmp 41) 1, type := 0, pos := "collect.go:83", after := #[{ on := 14, ground := Ground.data }, { on := 11, ground := Ground.guard }], guard := some (11, false) }
abbrev oColI16 : Oper := { dst := some 43, op := Op.load 3 (Operand.tmp 42), type := 3, pos := "collect.go:83", after := #[{ on := 15, ground := Ground.data }, { on := 11, ground := Ground.guard }], guard := some (11, false) }
abbrev oColI17 : Oper := { dst := some 44, op := Op.move (Operand.tmp 11), type := 87, pos := "collect.go:83", after := #[{ on := 11, ground := Ground.guard }], guard := some (11, false) }
abbrev oColI18 : Oper := { dst := some 45, op := Op.move (Operand.tmp 14), type := 3, pos := "collect.go:83", after := #[{ on := 11, ground := Ground.guard }], guard := some (11, false) }
abbrev oColI19 : Oper := { dst := some 46, op := Op.indexAddr 87 (Operand.tmp 44) (Operand.tmp 45), type := 0, pos := "collect.go:83", after := #[{ on := 17, ground := Ground.data }, { on := 18, ground := Ground.data }, { on := 11, ground := Ground.guard }], guard := some (11, false) }
abbrev oColI20 : Oper := { dst := some 47, op := Op.fieldAddr 95 (Operand.tmp 46) 1, type := 0, pos := "collect.go:83", after := #[{ on := 19, ground := Ground.data }, { on := 11, ground := Ground.guard }], guard := some (11, false) }
abbrev oColI21 : Oper := { dst := some 48, op := Op.load 3 (Operand.tmp 47), type := 3, pos := "collect.go:83", after := #[{ on := 20, ground := Ground.data }, { on := 11, ground := Ground.guard }], guard := some (11, false) }
abbrev oColI22 : Oper := { dst := some 49, op := Op.binOp BinOp.add 3 (Operand.tmp 43) (Operand.tmp 48) 3, type := 3, pos := "collect.go:83", after := #[{ on := 16, ground := Ground.data }, { on := 21, ground := Ground.data }, { on := 11, ground := Ground.guard }], guard := some (11, false) }
abbrev oColI23 : Oper := { dst := some 50, op := Op.move (Operand.tmp 3), type := 3, pos := "collect.go:83", after := #[{ on := 11, ground := Ground.guard }], guard := some (11, false) }
abbrev oColI24 : Oper := { dst := some 51, op := Op.binOp BinOp.gtr 3 (Operand.tmp 49) (Operand.tmp 50) 3, type := 4, pos := "collect.go:83", after := #[{ on := 22, ground := Ground.data }, { on := 23, ground := Ground.data }, { on := 11, ground := Ground.guard }], guard := some (11, false) }
abbrev oColI25 : Oper := { dst := some 52, op := Op.pick (Operand.tmp 38) (Operand.const (Value.bool true)) (Operand.tmp 51), type := 4, pos := "collect.go:83", after := #[{ on := 11, ground := Ground.data }, { on := 24, ground := Ground.data }], guard := none }
abbrev oColI26 : Oper := { dst := some 55, op := Op.move (Operand.tmp 11), type := 87, pos := "collect.go:86", after := #[], guard := none }
abbrev oColI27 : Oper := { dst := some 56, op := Op.move (Operand.tmp 13), type := 3, pos := "collect.go:86", after := #[], guard := none }
abbrev oColI28 : Oper := { dst := some 57, op := Op.indexAddr 87 (Operand.tmp 55) (Operand.tmp 56), type := 0, pos := "collect.go:86", after := #[{ on := 0, ground := Ground.data }, { on := 1, ground := Ground.data }], guard := none }
abbrev oColI29 : Oper := { dst := some 58, op := Op.fieldAddr 95 (Operand.tmp 57) 0, type := 0, pos := "collect.go:86", after := #[{ on := 2, ground := Ground.data }], guard := none }
abbrev oColI30 : Oper := { dst := some 59, op := Op.load 35 (Operand.tmp 58), type := 35, pos := "collect.go:86", after := #[{ on := 3, ground := Ground.data }], guard := none }
abbrev oColI31 : Oper := { dst := some 60, op := Op.move (Operand.tmp 11), type := 87, pos := "collect.go:86", after := #[{ on := 10, ground := Ground.gcOnly Departure.lateStores }], guard := none }
abbrev oColI32 : Oper := { dst := some 61, op := Op.move (Operand.tmp 14), type := 3, pos := "collect.go:86", after := #[{ on := 10, ground := Ground.gcOnly Departure.lateStores }], guard := none }
abbrev oColI33 : Oper := { dst := some 62, op := Op.indexAddr 87 (Operand.tmp 60) (Operand.tmp 61), type := 0, pos := "collect.go:86", after := #[{ on := 5, ground := Ground.data }, { on := 6, ground := Ground.data }, { on := 10, ground := Ground.gcOnly Departure.lateStores }], guard := none }
abbrev oColI34 : Oper := { dst := some 63, op := Op.fieldAddr 95 (Operand.tmp 62) 0, type := 0, pos := "collect.go:86", after := #[{ on := 7, ground := Ground.data }, { on := 10, ground := Ground.gcOnly Departure.lateStores }], guard := none }
abbrev oColI35 : Oper := { dst := some 64, op := Op.load 35 (Operand.tmp 63), type := 35, pos := "collect.go:86", after := #[{ on := 8, ground := Ground.data }, { on := 10, ground := Ground.gcOnly Departure.lateStores }], guard := none }
abbrev oColI36 : Oper := { dst := none, op := Op.store 35 (Operand.tmp 8) (Operand.tmp 59), type := 0, pos := "collect.go:86", after := #[{ on := 4, ground := Ground.data }, { on := 0, ground := Ground.phase }, { on := 1, ground := Ground.phase }, { on := 2, ground := Ground.phase }, { on := 3, ground := Ground.phase }, { on := 4, ground := Ground.phase }, { on := 5, ground := Ground.textOnly Departure.lateStores }, { on := 6, ground := Ground.textOnly Departure.lateStores }, { on := 7, ground := Ground.textOnly Departure.lateStores }, { on := 8, ground := Ground.textOnly Departure.lateStores }, { on := 9, ground := Ground.textOnly Departure.lateStores }], guard := none }
abbrev oColI37 : Oper := { dst := none, op := Op.store 35 (Operand.tmp 9) (Operand.tmp 64), type := 0, pos := "collect.go:86", after := #[{ on := 9, ground := Ground.data }, { on := 10, ground := Ground.chain }, { on := 0, ground := Ground.phase }, { on := 1, ground := Ground.phase }, { on := 2, ground := Ground.phase }, { on := 3, ground := Ground.phase }, { on := 4, ground := Ground.phase }, { on := 5, ground := Ground.phase }, { on := 6, ground := Ground.phase }, { on := 7, ground := Ground.phase }, { on := 8, ground := Ground.phase }, { on := 9, ground := Ground.phase }, { on := 10, ground := Ground.phase }], guard := none }
abbrev oColI38 : Oper := { dst := some 10, op := Op.assign (Operand.const (Value.bool true)), type := 4, pos := "collect.go:86", after := #[{ on := 11, ground := Ground.chain }, { on := 0, ground := Ground.phase }, { on := 1, ground := Ground.phase }, { on := 2, ground := Ground.phase }, { on := 3, ground := Ground.phase }, { on := 4, ground := Ground.phase }, { on := 5, ground := Ground.phase }, { on := 6, ground := Ground.phase }, { on := 7, ground := Ground.phase }, { on := 8, ground := Ground.phase }, { on := 9, ground := Ground.phase }, { on := 10, ground := Ground.phase }, { on := 11, ground := Ground.phase }], guard := none }
theorem resultRRT {P : Program} {fn : Func} {p q u : Tmp} {t1 t2 : TypeId} (h : fn.results = #[.cell p t1, .cell q t2, .tmp u]) (tmps : Array Value) (w : World) {b1 b2 u1 u2 : Nat} {f1 f2 : Array Field} {l1 l2 : List Value}
    (hp : tmps.getD p undef = .pointer (some ⟨b1, 0, none⟩)) (hq : tmps.getD q undef = .pointer (some ⟨b2, 0, none⟩)) (c1 : IsRow w b1 u1 l1) (c2 : IsRow w b2 u2 l2)
    (hu1 : P.underlying t1 = some (.struct f1)) (hi1 : (P.info? t1).map (·.size) = some l1.length) (hu2 : P.underlying t2 = some (.struct f2)) (hi2 : (P.info? t2).map (·.size) = some l2.length) :
    (results fn tmps).run P w = .ok (.tuple #[.agg l1.toArray, .agg l2.toArray, tmps.getD u undef]) w := by
  have hp' : tmps[p]?.getD undef = .pointer (some ⟨b1, 0, none⟩) := by simpa using hp
  have hq' : tmps[q]?.getD undef = .pointer (some ⟨b2, 0, none⟩) := by simpa using hq
  simp [results, h, hp', hq', asAddr, run_loadVar_row w b1 u1 t1 l1.toArray (0, 0) _ c1 hu1 rfl (by simpa using hi1), run_loadVar_row w b2 u2 t2 l2.toArray (0, 0) _ c2 hu2 rfl (by simpa using hi2)]
abbrev st25 (s : Int × Int) : Value := .agg #[.int .i64 s.1, .int .i64 s.2]
def nextV : Option ((Int × Int) × (Int × Int)) → Value
  | none => .tuple #[st25 (0, 0), st25 (0, 0), .bool false]
  | some (a, b) => .tuple #[st25 a, st25 b, .bool true]
namespace Col
theorem nextF_0 {ss : List St} {l : List Chk.Ck} {d : Int} {v : Nat → Int} (hv : (fun k => cnt l ((nzl l ss).getD k (0, 0))) = v) {n : Nat} (hn : (nzl l ss).length = n) (h : sm v none n = none) : nextF ss l d = none := by
  unfold nextF two; rw [hv, hn, h]
theorem nextF_1 {ss : List St} {l : List Chk.Ck} {d : Int} {v : Nat → Int} (hv : (fun k => cnt l ((nzl l ss).getD k (0, 0))) = v) {n a : Nat} (hn : (nzl l ss).length = n) (h : sm v none n = some a) (h2 : sm v (some a) n = none) : nextF ss l d = none := by
  unfold nextF two; rw [hv, hn, h]; dsimp only; rw [h2]
theorem nextF_2 {ss : List St} {l : List Chk.Ck} {d : Int} {v : Nat → Int} (hv : (fun k => cnt l ((nzl l ss).getD k (0, 0))) = v) {n a b : Nat} (hn : (nzl l ss).length = n) (h : sm v none n = some a) (h2 : sm v (some a) n = some b) : nextF ss l d = if 1 ≤ d ∧ d ≤ 32 ∧ v a + v b ≤ d then some ((nzl l ss).getD a (0, 0), (nzl l ss).getD b (0, 0)) else none := by
  unfold nextF two; rw [hv, hn, h]; dsimp only; rw [h2]; subst hv; rfl
end Col
/-- DeleteFunc on what Loads gives -/
theorem delLds (base n : Nat) (l : List Chk.Ck) (ss : List (Int × Int)) (hss : ss.length = n) (hn9 : n ≤ 100000) (N : Nat) (hN : (Col.nzl l ss).length = N) (A : Option Addr) (c : Nat) (w : World) (hbase : base ≤ w.heap.size) (ho : w.ownsRow base 95 3 (.slice A n c) n (ldLs l ss)) :
    Calls Tryz.prog 33 #[.slice A n c, del25] w fun e w' => ∃ A2, e = .returned (.slice A2 N c) ∧ w'.ownsRow base 95 3 (.slice A2 N c) N ((lds l (Col.nzl l ss)).flatMap Ld.L) ∧ Below base w w' := by
  rw [ldLs_eq] at ho
  have := deleteLd base A n c (lds l ss) (by rw [lds_len, hss]) hn9 w hbase ho
  unfold DelLdIs at this
  rw [lds_nz, lds_len, hN] at this
  exact this
theorem lds_get (l : List Chk.Ck) (ss : List (Int × Int)) (k : Nat) (hk : k < (lds l ss).length) : (lds l ss)[k] = ⟨(ss.getD k (0, 0)).1, (ss.getD k (0, 0)).2, Col.cnt l (ss.getD k (0, 0))⟩ := by
  have h2 : k < ss.length := by rw [← lds_len l ss]; exact hk
  simp only [lds, List.getElem_map, Col.getD_get _ h2]
theorem ld_cells {w : World} {B N : Nat} {A : Option Addr} {l : List Chk.Ck} {ss : List (Int × Int)} (h : Rd w B 3 A N ((lds l ss).flatMap Ld.L)) {k : Nat} (hk : k < ss.length) (hn : k < N) {s : Int × Int} (hs : ss.getD k (0, 0) = s) : ∃ b off, A = some ⟨b, off, none⟩ ∧ b < B ∧ w.cell? ⟨b, off + k * 3, none⟩ = some (.int .i64 s.1) ∧ w.cell? ⟨b, off + k * 3 + 1, none⟩ = some (.int .i64 s.2) ∧ w.cell? ⟨b, off + k * 3 + 2, none⟩ = some (.int .i64 (Col.cnt l s)) := by
  have hk2 : k < (lds l ss).length := by rw [lds_len]; exact hk
  obtain ⟨b, off, hA, hb, hr⟩ := h.elem (f := Ld.L) (fun _ _ => rfl) hk2 hn
  rw [lds_get l ss k hk2, hs] at hr
  exact ⟨b, off, hA, hb, hr 0 _ rfl, hr 1 _ rfl, hr 2 _ rfl⟩
set_option maxRecDepth 100000 in
set_option maxHeartbeats 3200000 in
theorem next_any {w : World} {B m cp : Nat} {A : Option Addr} {D : List S.RR} {rs : List S.Str.Rw} (h : S.RowsAt w B A m D rs) (hB : B ≤ w.heap.size) (hmc : m ≤ cp) {F T : Nat → Prop} {a : Nat} {t : TM} {l : List Chk.Ck} (ht : TAt w F T a t l)
    (c : Int) (ss : List (Int × Int)) (hss : Col.lss c rs = ss) (hn9 : ss.length ≤ 100000) (d : Int) :
    Calls Tryz.prog 8 #[.slice A m cp, .pointer (some ⟨a, 0, none⟩), .int .i64 c, .int .i64 d] w fun e w' => e = .returned (nextV (Col.nextF ss l d)) ∧ Below w.heap.size w w' := by
  obtain ⟨n, hn⟩ : ∃ n, ss.length = n := ⟨_, rfl⟩
  rw [hn] at hn9
  have HLD := Lib.hid (fun (W : World) (hW : Below w.heap.size w W) => loads_any (h.below (hW.mono hB)) (Nat.le_trans hB hW.size) hmc (ht.below hW) c ss hss n hn hn9)
  obtain ⟨N, hN⟩ : ∃ N, (Col.nzl l ss).length = N := ⟨_, rfl⟩
  have hN9 : N ≤ 100000 := by rw [← hN]; have : (Col.nzl l ss).length ≤ ss.length := List.length_filter_le _ _; omega
  have HDL := Lib.hid (fun (base : Nat) (A : Option Addr) (c : Nat) (W : World) => delLds base n l ss hn hn9 N hN A c W)
  obtain ⟨v, hv⟩ : ∃ v, (fun k => Col.cnt l ((Col.nzl l ss).getD k (0, 0))) = v := ⟨_, rfl⟩
  have HVE := Lib.hid hv
  have HNN := Lib.hid hN
  have hDv : ∀ k (hk : k < (lds l (Col.nzl l ss)).length), (lds l (Col.nzl l ss))[k].n = v k := fun k hk => by
    rw [lds_get _ _ k hk, ← hv]
  have HSM := Lib.hid (fun (W : World) (A : Option Addr) (c : Nat) (hr : Rd W W.heap.size 3 A N ((lds l (Col.nzl l ss)).flatMap Ld.L)) (bo : Option Nat) (bi : Int) (hbi : Col.ix bo = bi) => smallestLd A N c (lds l (Col.nzl l ss)) (by rw [lds_len, hN]) hN9 v hDv bo W hr bi hbi)
  have HID := Lib.hid (fun W => isData_any d _ rfl W)
  have HVL : Hid (∀ k, v k ≤ 32 ∧ 0 ≤ v k) := Lib.hid fun k => by rw [← hv]; exact ⟨Col.cnt_le _ _, Col.cnt_nonneg _ _⟩
  obtain ⟨sa, hsa⟩ : ∃ x, Col.sm v none N = x := ⟨_, rfl⟩
  obtain ⟨sb, hsb⟩ : ∃ x, Col.sm v sa N = x := ⟨_, rfl⟩
  have HSA := Lib.hid hsa
  have HSB := Lib.hid hsb
  obtain ⟨NV, hNV⟩ : ∃ x, Col.nextF ss l d = x := ⟨_, rfl⟩
  rw [hNV]
  have HNV := Lib.hid hNV
  clear h hB ht hss hn hN hv hDv hsa hsb hNV
  go_enter Tryz.func8, Tryz.ntmps8
  go_upto_region 1 with (first
    | (have tk := rzA; refine wpList_allocRow rfl _ rfl _ infoS25 ?_; intro w2 rzB bB zB)
    | (refine wpList_allocRow rfl _ rfl _ infoS25 ?_; intro w1 rzA bA zA))
  have hb2 : Below w.heap.size w w2 := bA.trans (bB.mono bA.size)
  have rzA2 := rzA.below' bB
  obtain ⟨ba, hba⟩ : ∃ x, w.heap.size = x := ⟨_, rfl⟩
  have hab : ba < w1.heap.size := by rw [zA, hba]; omega
  obtain ⟨bb, hb1⟩ : ∃ x, ba + 1 = x := ⟨_, rfl⟩
  have hbb : w1.heap.size = bb := by rw [zA, hba, hb1]
  rw [hba] at rzA2
  rw [hbb] at rzB
  have hsz2 : bb < w2.heap.size := by rw [zB, hbb]; omega
  have HBX : Hid (w.heap.size = ba ∧ ba < bb ∧ bb < w2.heap.size ∧ Below w.heap.size w w2) := Lib.hid ⟨hba, by omega, hsz2, hb2⟩
  have HRA := Lib.hid rzA2
  have HRB := Lib.hid rzB
  rw [hba, hb1]
  clear rzA bA zA rzB bB zB hb2 rzA2 hba hab hbb hsz2 hb1
  go_upto_region 2 with (first
    | (go_at_call 27; refine (HLD.out _ HBX.out.2.2.2).mono ?_; rintro e w3 ⟨A3, c3, rfl, own3, b3⟩; clear HLD)
    | (go_at_call 33; refine (HDL.out _ _ _ _ b3.size own3).mono ?_; rintro e w4 ⟨A4, rfl, own4, b4⟩))
  have HR4 := Lib.hid (Rd.of_own own4)
  have HB4 := Lib.hid (b3.trans b4)
  have HLO := Lib.hid (own_block_lt own4)
  clear own3 b3 own4 b4 HDL
  go_upto_region 4 with (go_at_call 36; refine (HSM.out _ _ _ HR4.out none (-1) rfl).mono ?_; rintro e w5 ⟨rfl, b5⟩; rw [HSA.out])
  have HB5 := Lib.hid b5
  clear b5
  go_upto_region 5 with (go_at_call 36; refine (HSM.out _ _ _ ((HR4.out.below HB5.out).more HB5.out.size) sa _ rfl).mono ?_; rintro e w6 ⟨rfl, b6⟩; rw [HSB.out])
  have HB6 := Lib.hid (HB4.out.trans ((HB5.out.trans (b6.mono HB5.out.size)).mono HB4.out.size))
  have HR6 := Lib.hid ((((HR4.out.below HB5.out).more HB5.out.size).below b6).more b6.size)
  replace HRA := Lib.hid (HRA.out.below' HB6.out)
  replace HRB := Lib.hid (HRB.out.below' HB6.out)
  have HLT6 : Hid (ba < w6.heap.size ∧ bb < w6.heap.size ∧ Below w.heap.size w w6) := Lib.hid ⟨HRA.out.lt, HRB.out.lt, HBX.out.2.2.2.trans (HB6.out.mono HBX.out.2.2.2.size)⟩
  clear b6 HB4 HB5 HR4 HSM
  cases sa with
  | none =>
    obtain rfl : sb = none := by rw [← HSB.out]; exact HSA.out
    obtain rfl : NV = none := by rw [← HNV.out]; exact Col.nextF_0 HVE.out HNN.out HSA.out
    unfold Col.ix
    dsimp only
    have hv0 : Below w6.heap.size w6 w6.drew := (Below.refl _ _).drew
    refine wp_region_held_drew (S := fun W => Below w6.heap.size w6 W) (by kernel_rfl) (hv0) (fun hHeld => ?_)
    obtain ⟨wd, hwd⟩ : ∃ x, w6.drew = x := ⟨_, rfl⟩
    rw [hwd] at hv0 hHeld  ⊢
    clear hwd
    refine tkH 0 oColI0 ?v0_1 (.inl ⟨by rfl, ?h0_1⟩) ?r0_1
    case h0_1 =>
      intro W hSW
      unfold oColI0
      try dsimp only at hSW
      go_simp
      try with_reducible rfl
    try simp only [oColI0, PT]
    refine tkH 1 oColI1 ?v1_2 (.inl ⟨by rfl, ?h1_2⟩) ?r1_2
    case h1_2 =>
      intro W hSW
      unfold oColI1
      try dsimp only at hSW
      go_simp
      try with_reducible rfl
    try simp only [oColI1, PT]
    refine tkH 2 oColI2 ?v2_3 (.inl ⟨by rfl, ?h2_3⟩) ?r2_3
    case h2_3 =>
      intro W hSW
      unfold oColI2
      try dsimp only at hSW
      go_simp
      try with_reducible rfl
    try simp only [oColI2, PT]
    refine tkH 3 oColI3 undef (.inr ⟨by rfl, rfl⟩) ?_
    try simp only [oColI3, PT]
    refine tkH 4 oColI4 undef (.inr ⟨by rfl, rfl⟩) ?_
    try simp only [oColI4, PT]
    refine tkH 5 oColI5 ?v5_6 (.inl ⟨by rfl, ?h5_6⟩) ?r5_6
    case h5_6 =>
      intro W hSW
      unfold oColI5
      try dsimp only at hSW
      go_simp
      try with_reducible rfl
    try simp only [oColI5, PT]
    refine tkH 6 oColI6 ?v6_7 (.inl ⟨by rfl, ?h6_7⟩) ?r6_7
    case h6_7 =>
      intro W hSW
      unfold oColI6
      try dsimp only at hSW
      go_simp
      try with_reducible rfl
    try simp only [oColI6, PT]
    refine tkH 7 oColI7 undef (.inr ⟨by rfl, rfl⟩) ?_
    try simp only [oColI7, PT]
    refine tkH 8 oColI8 undef (.inr ⟨by rfl, rfl⟩) ?_
    try simp only [oColI8, PT]
    refine tkH 9 oColI9 undef (.inr ⟨by rfl, rfl⟩) ?_
    try simp only [oColI9, PT]
    refine tkH 10 oColI10 ?v10_11 (.inl ⟨by rfl, ?h10_11⟩) ?r10_11
    case h10_11 =>
      intro W hSW
      unfold oColI10
      try dsimp only at hSW
      go_simp
      try with_reducible rfl
    try simp only [oColI10, PT]
    refine tkH 11 oColI11 ?v11_12 (.inl ⟨by rfl, ?h11_12⟩) ?r11_12
    case h11_12 =>
      intro W hSW
      unfold oColI11
      try dsimp only at hSW
      go_simp
      try with_reducible rfl
    try simp only [oColI11, PT]
    refine tkH 12 oColI12 undef (.inr ⟨by rfl, rfl⟩) ?_
    try simp only [oColI12, PT]
    refine tkH 13 oColI13 undef (.inr ⟨by rfl, rfl⟩) ?_
    try simp only [oColI13, PT]
    refine tkH 14 oColI14 undef (.inr ⟨by rfl, rfl⟩) ?_
    try simp only [oColI14, PT]
    refine tkH 15 oColI15 undef (.inr ⟨by rfl, rfl⟩) ?_
    try simp only [oColI15, PT]
    refine tkH 16 oColI16 undef (.inr ⟨by rfl, rfl⟩) ?_
    try simp only [oColI16, PT]
    refine tkH 17 oColI17 undef (.inr ⟨by rfl, rfl⟩) ?_
    try simp only [oColI17, PT]
    refine tkH 18 oColI18 undef (.inr ⟨by rfl, rfl⟩) ?_
    try simp only [oColI18, PT]
    refine tkH 19 oColI19 undef (.inr ⟨by rfl, rfl⟩) ?_
    try simp only [oColI19, PT]
    refine tkH 20 oColI20 undef (.inr ⟨by rfl, rfl⟩) ?_
    try simp only [oColI20, PT]
    refine tkH 21 oColI21 undef (.inr ⟨by rfl, rfl⟩) ?_
    try simp only [oColI21, PT]
    refine tkH 22 oColI22 undef (.inr ⟨by rfl, rfl⟩) ?_
    try simp only [oColI22, PT]
    refine tkH 23 oColI23 undef (.inr ⟨by rfl, rfl⟩) ?_
    try simp only [oColI23, PT]
    refine tkH 24 oColI24 undef (.inr ⟨by rfl, rfl⟩) ?_
    try simp only [oColI24, PT]
    refine tkH 25 oColI25 ?v25_26 (.inl ⟨by rfl, ?h25_26⟩) ?r25_26
    case h25_26 =>
      intro W hSW
      unfold oColI25
      try dsimp only at hSW
      go_simp
      try with_reducible rfl
    try simp only [oColI25, PT]
    refine wpAnyH_done (by kernel_rfl) ?_ _
    have HB7 := Lib.hid (hv0)
    replace HRA := Lib.hid (HRA.out.below' HB7.out)
    replace HRB := Lib.hid (HRB.out.below' HB7.out)
    replace HLT6 : Hid (ba < wd.heap.size ∧ bb < wd.heap.size ∧ Below w.heap.size w wd) := Lib.hid ⟨HRA.out.lt, HRB.out.lt, HLT6.out.2.2.trans (HB7.out.mono HLT6.out.2.2.size)⟩
    go_wp2_with (first
      | (refine wpList_storeRow rfl _ (.tmp 8) (.tmp 53) rfl (l' := [.int .i64 0, .int .i64 0]) HRA.out rfl rfl sizeS25 rfl rfl ?_; intro w8 rz8 g8 z8; have rB8 := HRB.out.grown g8 (fun e => by have := HBX.out.2.1; have := Option.some.inj e; omega))
      | (refine wpList_storeRow rfl _ (.tmp 9) (.tmp 54) rfl (l' := [.int .i64 0, .int .i64 0]) rB8 rfl rfl sizeS25 rfl rfl ?_; intro w9 rz9 g9 z9; have rA9 := rz8.grown g9 (fun e => by have := HBX.out.2.1; have := Option.some.inj e; omega)))
    refine bodyPost_ret (resultRRT rfl _ _ rfl rfl rA9 rz9 Tryz.underlying35 sizeS25 Tryz.underlying35 sizeS25) rfl ?_
    exact ⟨rfl, (HLT6.out.2.2.grown g8 HLT6.out.2.2.size (fun i hi => by have := Option.some.inj hi; have := HBX.out.1; omega)).grown g9 (by rw [z8]; exact HLT6.out.2.2.size) (fun i hi => by have := Option.some.inj hi; have := HBX.out.1; have := HBX.out.2.1; omega)⟩
  | some a =>
    cases sb with
    | none =>
      obtain rfl : NV = none := by rw [← HNV.out]; exact Col.nextF_1 HVE.out HNN.out HSA.out HSB.out
      have e5 : decide ((a : Int) < 0) = false := by rw [decide_eq_false_iff_not]; omega
      unfold Col.ix
      dsimp only
      have hv0 : Below w6.heap.size w6 w6.drew := (Below.refl _ _).drew
      refine wp_region_held_drew (S := fun W => Below w6.heap.size w6 W) (by kernel_rfl) (hv0) (fun hHeld => ?_)
      obtain ⟨wd, hwd⟩ : ∃ x, w6.drew = x := ⟨_, rfl⟩
      rw [hwd] at hv0 hHeld  ⊢
      clear hwd
      refine tkH 0 oColI0 ?v0_101 (.inl ⟨by rfl, ?h0_101⟩) ?r0_101
      case h0_101 =>
        intro W hSW
        unfold oColI0
        try dsimp only at hSW
        go_simp
        try with_reducible rfl
      try simp only [oColI0, PT]
      refine tkH 1 oColI1 ?v1_102 (.inl ⟨by rfl, ?h1_102⟩) ?r1_102
      case h1_102 =>
        intro W hSW
        unfold oColI1
        try dsimp only at hSW
        go_simp
        try with_reducible rfl
      try simp only [oColI1, PT]
      refine tkH 2 oColI2 ?v2_103 (.inl ⟨by rfl, ?h2_103⟩) ?r2_103
      case h2_103 =>
        intro W hSW
        unfold oColI2
        try dsimp only at hSW
        go_simp
        try with_reducible rfl
      try simp only [oColI2, PT]
      refine tkH 3 oColI3 ?v3_104 (.inl ⟨by rfl, ?h3_104⟩) ?r3_104
      case h3_104 =>
        intro W hSW
        unfold oColI3
        try dsimp only at hSW
        go_simp
        try with_reducible rfl
      try simp only [oColI3, PT]
      refine tkH 4 oColI4 ?v4_105 (.inl ⟨by rfl, ?h4_105⟩) ?r4_105
      case h4_105 =>
        intro W hSW
        unfold oColI4
        try dsimp only at hSW
        go_simp
        try with_reducible rfl
      try simp only [oColI4, PT]
      refine tkH 5 oColI5 ?v5_106 (.inl ⟨by rfl, ?h5_106⟩) ?r5_106
      case h5_106 =>
        intro W hSW
        unfold oColI5
        try dsimp only at hSW
        go_simp
        try with_reducible rfl
      try simp only [oColI5, PT]
      refine tkH 6 oColI6 ?v6_107 (.inl ⟨by rfl, ?h6_107⟩) ?r6_107
      case h6_107 =>
        intro W hSW
        unfold oColI6
        try dsimp only at hSW
        go_simp
        try with_reducible rfl
      try simp only [oColI6, PT]
      refine tkH 7 oColI7 undef (.inr ⟨by rfl, rfl⟩) ?_
      try simp only [oColI7, PT]
      refine tkH 8 oColI8 undef (.inr ⟨by rfl, rfl⟩) ?_
      try simp only [oColI8, PT]
      refine tkH 9 oColI9 undef (.inr ⟨by rfl, rfl⟩) ?_
      try simp only [oColI9, PT]
      refine tkH 10 oColI10 ?v10_111 (.inl ⟨by rfl, ?h10_111⟩) ?r10_111
      case h10_111 =>
        intro W hSW
        unfold oColI10
        try dsimp only at hSW
        go_simp
        try with_reducible rfl
      try simp only [oColI10, PT]
      refine tkH 11 oColI11 ?v11_112 (.inl ⟨by rfl, ?h11_112⟩) ?r11_112
      case h11_112 =>
        intro W hSW
        unfold oColI11
        try dsimp only at hSW
        go_simp
        try with_reducible rfl
      try simp only [oColI11, PT]
      refine tkH 12 oColI12 undef (.inr ⟨by rfl, rfl⟩) ?_
      try simp only [oColI12, PT]
      refine tkH 13 oColI13 undef (.inr ⟨by rfl, rfl⟩) ?_
      try simp only [oColI13, PT]
      refine tkH 14 oColI14 undef (.inr ⟨by rfl, rfl⟩) ?_
      try simp only [oColI14, PT]
      refine tkH 15 oColI15 undef (.inr ⟨by rfl, rfl⟩) ?_
      try simp only [oColI15, PT]
      refine tkH 16 oColI16 undef (.inr ⟨by rfl, rfl⟩) ?_
      try simp only [oColI16, PT]
      refine tkH 17 oColI17 undef (.inr ⟨by rfl, rfl⟩) ?_
      try simp only [oColI17, PT]
      refine tkH 18 oColI18 undef (.inr ⟨by rfl, rfl⟩) ?_
      try simp only [oColI18, PT]
      refine tkH 19 oColI19 undef (.inr ⟨by rfl, rfl⟩) ?_
      try simp only [oColI19, PT]
      refine tkH 20 oColI20 undef (.inr ⟨by rfl, rfl⟩) ?_
      try simp only [oColI20, PT]
      refine tkH 21 oColI21 undef (.inr ⟨by rfl, rfl⟩) ?_
      try simp only [oColI21, PT]
      refine tkH 22 oColI22 undef (.inr ⟨by rfl, rfl⟩) ?_
      try simp only [oColI22, PT]
      refine tkH 23 oColI23 undef (.inr ⟨by rfl, rfl⟩) ?_
      try simp only [oColI23, PT]
      refine tkH 24 oColI24 undef (.inr ⟨by rfl, rfl⟩) ?_
      try simp only [oColI24, PT]
      refine tkH 25 oColI25 ?v25_126 (.inl ⟨by rfl, ?h25_126⟩) ?r25_126
      case h25_126 =>
        intro W hSW
        unfold oColI25
        try dsimp only at hSW
        go_simp
        try with_reducible rfl
      try simp only [oColI25, PT]
      refine wpAnyH_done (by kernel_rfl) ?_ _
      have HB7 := Lib.hid (hv0)
      replace HRA := Lib.hid (HRA.out.below' HB7.out)
      replace HRB := Lib.hid (HRB.out.below' HB7.out)
      replace HLT6 : Hid (ba < wd.heap.size ∧ bb < wd.heap.size ∧ Below w.heap.size w wd) := Lib.hid ⟨HRA.out.lt, HRB.out.lt, HLT6.out.2.2.trans (HB7.out.mono HLT6.out.2.2.size)⟩
      go_wp2_with (first
        | (refine wpList_storeRow rfl _ (.tmp 8) (.tmp 53) rfl (l' := [.int .i64 0, .int .i64 0]) HRA.out rfl rfl sizeS25 rfl rfl ?_; intro w8 rz8 g8 z8; have rB8 := HRB.out.grown g8 (fun e => by have := HBX.out.2.1; have := Option.some.inj e; omega))
        | (refine wpList_storeRow rfl _ (.tmp 9) (.tmp 54) rfl (l' := [.int .i64 0, .int .i64 0]) rB8 rfl rfl sizeS25 rfl rfl ?_; intro w9 rz9 g9 z9; have rA9 := rz8.grown g9 (fun e => by have := HBX.out.2.1; have := Option.some.inj e; omega)))
      refine bodyPost_ret (resultRRT rfl _ _ rfl rfl rA9 rz9 Tryz.underlying35 sizeS25 Tryz.underlying35 sizeS25) rfl ?_
      exact ⟨rfl, (HLT6.out.2.2.grown g8 HLT6.out.2.2.size (fun i hi => by have := Option.some.inj hi; have := HBX.out.1; omega)).grown g9 (by rw [z8]; exact HLT6.out.2.2.size) (fun i hi => by have := Option.some.inj hi; have := HBX.out.1; have := HBX.out.2.1; omega)⟩
    | some b =>
      have HNX := Lib.hid (HNV.out.symm.trans (Col.nextF_2 (d := d) HVE.out HNN.out HSA.out HSB.out))
      have haN := (Col.sm_some HSA.out).1
      have hbN := (Col.sm_some HSB.out).1
      obtain ⟨g, off, hA, hgl, ca0, ca1, ca2⟩ := ld_cells HR6.out (k := a) (by rw [HNN.out]; exact haN) haN rfl
      obtain ⟨g', off', hA', -, cb0, cb1, cb2⟩ := ld_cells HR6.out (k := b) (by rw [HNN.out]; exact hbN) hbN rfl
      subst hA
      obtain ⟨rfl, rfl⟩ : g = g' ∧ off = off' := by have := Option.some.inj hA'; exact ⟨congrArg Addr.block this, congrArg Addr.off this⟩
      have hva := congrFun HVE.out a
      have hvb := congrFun HVE.out b
      rw [hva] at ca2
      rw [hvb] at cb2
      have hla := HVL.out a
      have hlb := HVL.out b
      obtain ⟨s1, hs1⟩ : ∃ x, (Col.nzl l ss).getD a (0, 0) = x := ⟨_, rfl⟩
      obtain ⟨s2, hs2⟩ : ∃ x, (Col.nzl l ss).getD b (0, 0) = x := ⟨_, rfl⟩
      rw [hs1] at ca0 ca1
      rw [hs2] at cb0 cb1
      rw [hs1, hs2] at HNX
      obtain ⟨x, hx⟩ : ∃ x, v a = x := ⟨_, rfl⟩
      obtain ⟨y, hy⟩ : ∃ y, v b = y := ⟨_, rfl⟩
      rw [hx] at ca2 hla
      rw [hy] at cb2 hlb
      rw [hx, hy] at HNX
      have HCA := Lib.hid (And.intro hgl (And.intro ca0 (And.intro ca1 ca2)))
      have HCB := Lib.hid (And.intro cb0 (And.intro cb1 cb2))
      have hxy : IntKind.i64.wrap (x + y) = x + y := IntWalk.i64_in _ (by omega)
      have e3 : (0 : Int) ≤ (a : Int) := by omega
      have e4 : (a : Int) < (N : Int) := by omega
      have e5 : decide ((a : Int) < 0) = false := by rw [decide_eq_false_iff_not]; omega
      have e6 : (0 : Int) ≤ (b : Int) := by omega
      have e7 : (b : Int) < (N : Int) := by omega
      have e8 : decide ((b : Int) < 0) = false := by rw [decide_eq_false_iff_not]; omega
      have HGN : Hid (g ≠ ba ∧ g ≠ bb) := Lib.hid (by
        have h1 := (HLO.out _ rfl).1
        have h2 := HBX.out
        dsimp only at h1
        omega)
      unfold Col.ix
      dsimp only
      clear hA' ca0 ca1 ca2 cb0 cb1 cb2 hva hvb hs1 hs2 hx hy hgl haN hbN
      by_cases hd : 1 ≤ d ∧ d ≤ 32
      · have hdd : decide (1 ≤ d ∧ d ≤ 32) = true := by simp [hd]
        rw [hdd] at HID
        clear hdd
        by_cases hgt : d < x + y
        · obtain rfl : NV = none := by rw [HNX.out, if_neg (by omega)]
          have e9 : decide (d < x + y) = true := by simp [hgt]
          clear hd
          have hv0 : Below w6.heap.size w6 w6.drew := (Below.refl _ _).drew
          refine wp_region_held_drew (S := fun W => Below w6.heap.size w6 W) (by kernel_rfl) (hv0) (fun hHeld => ?_)
          obtain ⟨wd, hwd⟩ : ∃ x, w6.drew = x := ⟨_, rfl⟩
          rw [hwd] at hv0 hHeld  ⊢
          clear hwd
          refine tkH 0 oColI0 ?v0_301 (.inl ⟨by rfl, ?h0_301⟩) ?r0_301
          case h0_301 =>
            intro W hSW
            unfold oColI0
            try dsimp only at hSW
            go_simp
            try with_reducible rfl
          try simp only [oColI0, PT]
          refine tkH 1 oColI1 ?v1_302 (.inl ⟨by rfl, ?h1_302⟩) ?r1_302
          case h1_302 =>
            intro W hSW
            unfold oColI1
            try dsimp only at hSW
            go_simp
            try with_reducible rfl
          try simp only [oColI1, PT]
          refine tkH 2 oColI2 ?v2_303 (.inl ⟨by rfl, ?h2_303⟩) ?r2_303
          case h2_303 =>
            intro W hSW
            unfold oColI2
            try dsimp only at hSW
            go_simp
            try with_reducible rfl
          try simp only [oColI2, PT]
          refine tkH 3 oColI3 ?v3_304 (.inl ⟨by rfl, ?h3_304⟩) ?r3_304
          case h3_304 =>
            intro W hSW
            unfold oColI3
            try dsimp only at hSW
            go_simp
            try with_reducible rfl
          try simp only [oColI3, PT]
          refine tkH 4 oColI4 ?v4_305 (.inl ⟨by rfl, ?h4_305⟩) ?r4_305
          case h4_305 =>
            intro W hSW
            unfold oColI4
            try dsimp only at hSW
            go_simp
            try with_reducible rfl
          try simp only [oColI4, PT]
          refine tkH 5 oColI5 ?v5_306 (.inl ⟨by rfl, ?h5_306⟩) ?r5_306
          case h5_306 =>
            intro W hSW
            unfold oColI5
            try dsimp only at hSW
            go_simp
            try with_reducible rfl
          try simp only [oColI5, PT]
          refine tkH 6 oColI6 ?v6_307 (.inl ⟨by rfl, ?h6_307⟩) ?r6_307
          case h6_307 =>
            intro W hSW
            unfold oColI6
            try dsimp only at hSW
            go_simp
            try with_reducible rfl
          try simp only [oColI6, PT]
          refine tkH 7 oColI7 ?v7_308 (.inl ⟨by rfl, ?h7_308⟩) ?r7_308
          case h7_308 =>
            intro W hSW
            unfold oColI7
            try dsimp only at hSW
            go_simp
            try with_reducible rfl
          try simp only [oColI7, PT]
          refine rdyH [8] ?_
          refine AllReadyH.cons (o := oColI8) rfl (fun K hK => ?_) AllReadyH.nil
          unfold oColI8
          go_simp
          refine (HID.out _).mono ?_
          rintro e w1 ⟨rfl, hw1⟩
          have hv1 : Below w6.heap.size w6 w1 := by rw [hw1]; exact hv0
          clear hw1
          refine hK.out _ _ (hv1) (fun hHeld => ?_)
          clear hK K
          try simp only [PT]
          refine tkH 9 oColI9 ?v9_309 (.inl ⟨by rfl, ?h9_309⟩) ?r9_309
          case h9_309 =>
            intro W hSW
            unfold oColI9
            try dsimp only at hSW
            go_simp
            try with_reducible rfl
          try simp only [oColI9, PT]
          refine tkH 10 oColI10 ?v10_310 (.inl ⟨by rfl, ?h10_310⟩) ?r10_310
          case h10_310 =>
            intro W hSW
            unfold oColI10
            try dsimp only at hSW
            go_simp
            try with_reducible rfl
          try simp only [oColI10, PT]
          refine tkH 11 oColI11 ?v11_311 (.inl ⟨by rfl, ?h11_311⟩) ?r11_311
          case h11_311 =>
            intro W hSW
            unfold oColI11
            try dsimp only at hSW
            go_simp
            try with_reducible rfl
          try simp only [oColI11, PT]
          refine tkH 12 oColI12 ?v12_312 (.inl ⟨by rfl, ?h12_312⟩) ?r12_312
          case h12_312 =>
            intro W hSW
            unfold oColI12
            try dsimp only at hSW
            go_simp
            try with_reducible rfl
          try simp only [oColI12, PT]
          refine tkH 13 oColI13 ?v13_313 (.inl ⟨by rfl, ?h13_313⟩) ?r13_313
          case h13_313 =>
            intro W hSW
            unfold oColI13
            try dsimp only at hSW
            go_simp
            try with_reducible rfl
          try simp only [oColI13, PT]
          refine tkH 14 oColI14 ?v14_314 (.inl ⟨by rfl, ?h14_314⟩) ?r14_314
          case h14_314 =>
            intro W hSW
            unfold oColI14
            try dsimp only at hSW
            go_simp
            try with_reducible rfl
          try simp only [oColI14, PT]
          refine tkH 15 oColI15 ?v15_315 (.inl ⟨by rfl, ?h15_315⟩) ?r15_315
          case h15_315 =>
            intro W hSW
            unfold oColI15
            try dsimp only at hSW
            go_simp
            try with_reducible rfl
          try simp only [oColI15, PT]
          refine tkH 16 oColI16 ?v16_316 (.inl ⟨by rfl, ?h16_316⟩) ?r16_316
          case h16_316 =>
            intro W hSW
            unfold oColI16
            try dsimp only at hSW
            have c2 := (hSW.cell (p := ⟨g, off + a * 3 + 2, none⟩) HCA.out.1).trans HCA.out.2.2.2
            go_simp
            try with_reducible rfl
          try simp only [oColI16, PT]
          refine tkH 17 oColI17 ?v17_317 (.inl ⟨by rfl, ?h17_317⟩) ?r17_317
          case h17_317 =>
            intro W hSW
            unfold oColI17
            try dsimp only at hSW
            go_simp
            try with_reducible rfl
          try simp only [oColI17, PT]
          refine tkH 18 oColI18 ?v18_318 (.inl ⟨by rfl, ?h18_318⟩) ?r18_318
          case h18_318 =>
            intro W hSW
            unfold oColI18
            try dsimp only at hSW
            go_simp
            try with_reducible rfl
          try simp only [oColI18, PT]
          refine tkH 19 oColI19 ?v19_319 (.inl ⟨by rfl, ?h19_319⟩) ?r19_319
          case h19_319 =>
            intro W hSW
            unfold oColI19
            try dsimp only at hSW
            go_simp
            try with_reducible rfl
          try simp only [oColI19, PT]
          refine tkH 20 oColI20 ?v20_320 (.inl ⟨by rfl, ?h20_320⟩) ?r20_320
          case h20_320 =>
            intro W hSW
            unfold oColI20
            try dsimp only at hSW
            go_simp
            try with_reducible rfl
          try simp only [oColI20, PT]
          refine tkH 21 oColI21 ?v21_321 (.inl ⟨by rfl, ?h21_321⟩) ?r21_321
          case h21_321 =>
            intro W hSW
            unfold oColI21
            try dsimp only at hSW
            have c2 := (hSW.cell (p := ⟨g, off + b * 3 + 2, none⟩) HCA.out.1).trans HCB.out.2.2
            go_simp
            try with_reducible rfl
          try simp only [oColI21, PT]
          refine tkH 22 oColI22 ?v22_322 (.inl ⟨by rfl, ?h22_322⟩) ?r22_322
          case h22_322 =>
            intro W hSW
            unfold oColI22
            try dsimp only at hSW
            go_simp
            try with_reducible rfl
          try simp only [oColI22, PT]
          refine tkH 23 oColI23 ?v23_323 (.inl ⟨by rfl, ?h23_323⟩) ?r23_323
          case h23_323 =>
            intro W hSW
            unfold oColI23
            try dsimp only at hSW
            go_simp
            try with_reducible rfl
          try simp only [oColI23, PT]
          refine tkH 24 oColI24 ?v24_324 (.inl ⟨by rfl, ?h24_324⟩) ?r24_324
          case h24_324 =>
            intro W hSW
            unfold oColI24
            try dsimp only at hSW
            go_simp
            try with_reducible rfl
          try simp only [oColI24, PT]
          refine tkH 25 oColI25 ?v25_325 (.inl ⟨by rfl, ?h25_325⟩) ?r25_325
          case h25_325 =>
            intro W hSW
            unfold oColI25
            try dsimp only at hSW
            go_simp
            try with_reducible rfl
          try simp only [oColI25, PT]
          refine wpAnyH_done (by kernel_rfl) ?_ _
          have HB7 := Lib.hid (hv1)
          replace HRA := Lib.hid (HRA.out.below' HB7.out)
          replace HRB := Lib.hid (HRB.out.below' HB7.out)
          replace HLT6 : Hid (ba < w1.heap.size ∧ bb < w1.heap.size ∧ Below w.heap.size w w1) := Lib.hid ⟨HRA.out.lt, HRB.out.lt, HLT6.out.2.2.trans (HB7.out.mono HLT6.out.2.2.size)⟩
          go_wp2_with (first
            | (refine wpList_storeRow rfl _ (.tmp 8) (.tmp 53) rfl (l' := [.int .i64 0, .int .i64 0]) HRA.out rfl rfl sizeS25 rfl rfl ?_; intro w8 rz8 g8 z8; have rB8 := HRB.out.grown g8 (fun e => by have := HBX.out.2.1; have := Option.some.inj e; omega))
            | (refine wpList_storeRow rfl _ (.tmp 9) (.tmp 54) rfl (l' := [.int .i64 0, .int .i64 0]) rB8 rfl rfl sizeS25 rfl rfl ?_; intro w9 rz9 g9 z9; have rA9 := rz8.grown g9 (fun e => by have := HBX.out.2.1; have := Option.some.inj e; omega)))
          refine bodyPost_ret (resultRRT rfl _ _ rfl rfl rA9 rz9 Tryz.underlying35 sizeS25 Tryz.underlying35 sizeS25) rfl ?_
          exact ⟨rfl, (HLT6.out.2.2.grown g8 HLT6.out.2.2.size (fun i hi => by have := Option.some.inj hi; have := HBX.out.1; omega)).grown g9 (by rw [z8]; exact HLT6.out.2.2.size) (fun i hi => by have := Option.some.inj hi; have := HBX.out.1; have := HBX.out.2.1; omega)⟩
        · obtain rfl : NV = some (s1, s2) := by rw [HNX.out, if_pos (by omega)]
          have e9 : decide (d < x + y) = false := by simp [hgt]
          clear hd
          have hv0 : Below w6.heap.size w6 w6.drew := (Below.refl _ _).drew
          refine wp_region_held_drew (S := fun W => Below w6.heap.size w6 W) (by kernel_rfl) (hv0) (fun hHeld => ?_)
          obtain ⟨wd, hwd⟩ : ∃ x, w6.drew = x := ⟨_, rfl⟩
          rw [hwd] at hv0 hHeld  ⊢
          clear hwd
          refine tkH 0 oColI0 ?v0_401 (.inl ⟨by rfl, ?h0_401⟩) ?r0_401
          case h0_401 =>
            intro W hSW
            unfold oColI0
            try dsimp only at hSW
            go_simp
            try with_reducible rfl
          try simp only [oColI0, PT]
          refine tkH 1 oColI1 ?v1_402 (.inl ⟨by rfl, ?h1_402⟩) ?r1_402
          case h1_402 =>
            intro W hSW
            unfold oColI1
            try dsimp only at hSW
            go_simp
            try with_reducible rfl
          try simp only [oColI1, PT]
          refine tkH 2 oColI2 ?v2_403 (.inl ⟨by rfl, ?h2_403⟩) ?r2_403
          case h2_403 =>
            intro W hSW
            unfold oColI2
            try dsimp only at hSW
            go_simp
            try with_reducible rfl
          try simp only [oColI2, PT]
          refine tkH 3 oColI3 ?v3_404 (.inl ⟨by rfl, ?h3_404⟩) ?r3_404
          case h3_404 =>
            intro W hSW
            unfold oColI3
            try dsimp only at hSW
            go_simp
            try with_reducible rfl
          try simp only [oColI3, PT]
          refine tkH 4 oColI4 ?v4_405 (.inl ⟨by rfl, ?h4_405⟩) ?r4_405
          case h4_405 =>
            intro W hSW
            unfold oColI4
            try dsimp only at hSW
            go_simp
            try with_reducible rfl
          try simp only [oColI4, PT]
          refine tkH 5 oColI5 ?v5_406 (.inl ⟨by rfl, ?h5_406⟩) ?r5_406
          case h5_406 =>
            intro W hSW
            unfold oColI5
            try dsimp only at hSW
            go_simp
            try with_reducible rfl
          try simp only [oColI5, PT]
          refine tkH 6 oColI6 ?v6_407 (.inl ⟨by rfl, ?h6_407⟩) ?r6_407
          case h6_407 =>
            intro W hSW
            unfold oColI6
            try dsimp only at hSW
            go_simp
            try with_reducible rfl
          try simp only [oColI6, PT]
          refine tkH 7 oColI7 ?v7_408 (.inl ⟨by rfl, ?h7_408⟩) ?r7_408
          case h7_408 =>
            intro W hSW
            unfold oColI7
            try dsimp only at hSW
            go_simp
            try with_reducible rfl
          try simp only [oColI7, PT]
          refine rdyH [8] ?_
          refine AllReadyH.cons (o := oColI8) rfl (fun K hK => ?_) AllReadyH.nil
          unfold oColI8
          go_simp
          refine (HID.out _).mono ?_
          rintro e w1 ⟨rfl, hw1⟩
          have hv1 : Below w6.heap.size w6 w1 := by rw [hw1]; exact hv0
          clear hw1
          refine hK.out _ _ (hv1) (fun hHeld => ?_)
          clear hK K
          try simp only [PT]
          refine tkH 9 oColI9 ?v9_409 (.inl ⟨by rfl, ?h9_409⟩) ?r9_409
          case h9_409 =>
            intro W hSW
            unfold oColI9
            try dsimp only at hSW
            go_simp
            try with_reducible rfl
          try simp only [oColI9, PT]
          refine tkH 10 oColI10 ?v10_410 (.inl ⟨by rfl, ?h10_410⟩) ?r10_410
          case h10_410 =>
            intro W hSW
            unfold oColI10
            try dsimp only at hSW
            go_simp
            try with_reducible rfl
          try simp only [oColI10, PT]
          refine tkH 11 oColI11 ?v11_411 (.inl ⟨by rfl, ?h11_411⟩) ?r11_411
          case h11_411 =>
            intro W hSW
            unfold oColI11
            try dsimp only at hSW
            go_simp
            try with_reducible rfl
          try simp only [oColI11, PT]
          refine tkH 12 oColI12 ?v12_412 (.inl ⟨by rfl, ?h12_412⟩) ?r12_412
          case h12_412 =>
            intro W hSW
            unfold oColI12
            try dsimp only at hSW
            go_simp
            try with_reducible rfl
          try simp only [oColI12, PT]
          refine tkH 13 oColI13 ?v13_413 (.inl ⟨by rfl, ?h13_413⟩) ?r13_413
          case h13_413 =>
            intro W hSW
            unfold oColI13
            try dsimp only at hSW
            go_simp
            try with_reducible rfl
          try simp only [oColI13, PT]
          refine tkH 14 oColI14 ?v14_414 (.inl ⟨by rfl, ?h14_414⟩) ?r14_414
          case h14_414 =>
            intro W hSW
            unfold oColI14
            try dsimp only at hSW
            go_simp
            try with_reducible rfl
          try simp only [oColI14, PT]
          refine tkH 15 oColI15 ?v15_415 (.inl ⟨by rfl, ?h15_415⟩) ?r15_415
          case h15_415 =>
            intro W hSW
            unfold oColI15
            try dsimp only at hSW
            go_simp
            try with_reducible rfl
          try simp only [oColI15, PT]
          refine tkH 16 oColI16 ?v16_416 (.inl ⟨by rfl, ?h16_416⟩) ?r16_416
          case h16_416 =>
            intro W hSW
            unfold oColI16
            try dsimp only at hSW
            have c2 := (hSW.cell (p := ⟨g, off + a * 3 + 2, none⟩) HCA.out.1).trans HCA.out.2.2.2
            go_simp
            try with_reducible rfl
          try simp only [oColI16, PT]
          refine tkH 17 oColI17 ?v17_417 (.inl ⟨by rfl, ?h17_417⟩) ?r17_417
          case h17_417 =>
            intro W hSW
            unfold oColI17
            try dsimp only at hSW
            go_simp
            try with_reducible rfl
          try simp only [oColI17, PT]
          refine tkH 18 oColI18 ?v18_418 (.inl ⟨by rfl, ?h18_418⟩) ?r18_418
          case h18_418 =>
            intro W hSW
            unfold oColI18
            try dsimp only at hSW
            go_simp
            try with_reducible rfl
          try simp only [oColI18, PT]
          refine tkH 19 oColI19 ?v19_419 (.inl ⟨by rfl, ?h19_419⟩) ?r19_419
          case h19_419 =>
            intro W hSW
            unfold oColI19
            try dsimp only at hSW
            go_simp
            try with_reducible rfl
          try simp only [oColI19, PT]
          refine tkH 20 oColI20 ?v20_420 (.inl ⟨by rfl, ?h20_420⟩) ?r20_420
          case h20_420 =>
            intro W hSW
            unfold oColI20
            try dsimp only at hSW
            go_simp
            try with_reducible rfl
          try simp only [oColI20, PT]
          refine tkH 21 oColI21 ?v21_421 (.inl ⟨by rfl, ?h21_421⟩) ?r21_421
          case h21_421 =>
            intro W hSW
            unfold oColI21
            try dsimp only at hSW
            have c2 := (hSW.cell (p := ⟨g, off + b * 3 + 2, none⟩) HCA.out.1).trans HCB.out.2.2
            go_simp
            try with_reducible rfl
          try simp only [oColI21, PT]
          refine tkH 22 oColI22 ?v22_422 (.inl ⟨by rfl, ?h22_422⟩) ?r22_422
          case h22_422 =>
            intro W hSW
            unfold oColI22
            try dsimp only at hSW
            go_simp
            try with_reducible rfl
          try simp only [oColI22, PT]
          refine tkH 23 oColI23 ?v23_423 (.inl ⟨by rfl, ?h23_423⟩) ?r23_423
          case h23_423 =>
            intro W hSW
            unfold oColI23
            try dsimp only at hSW
            go_simp
            try with_reducible rfl
          try simp only [oColI23, PT]
          refine tkH 24 oColI24 ?v24_424 (.inl ⟨by rfl, ?h24_424⟩) ?r24_424
          case h24_424 =>
            intro W hSW
            unfold oColI24
            try dsimp only at hSW
            go_simp
            try with_reducible rfl
          try simp only [oColI24, PT]
          refine tkH 25 oColI25 ?v25_425 (.inl ⟨by rfl, ?h25_425⟩) ?r25_425
          case h25_425 =>
            intro W hSW
            unfold oColI25
            try dsimp only at hSW
            go_simp
            try with_reducible rfl
          try simp only [oColI25, PT]
          refine wpAnyH_done (by kernel_rfl) ?_ _
          have HB7 := Lib.hid (hv1)
          replace HRA := Lib.hid (HRA.out.below' HB7.out)
          replace HRB := Lib.hid (HRB.out.below' HB7.out)
          replace HLT6 : Hid (ba < w1.heap.size ∧ bb < w1.heap.size ∧ Below w.heap.size w w1) := Lib.hid ⟨HRA.out.lt, HRB.out.lt, HLT6.out.2.2.trans (HB7.out.mono HLT6.out.2.2.size)⟩
          have HG7 : Hid (g < w1.heap.size ∧ ¬ (g = ba ∨ g = bb)) := Lib.hid ⟨Nat.lt_of_lt_of_le HCA.out.1 HB7.out.size, fun e => e.elim HGN.out.1 HGN.out.2⟩
          have HC7 : Hid (∀ o u, w6.cell? ⟨g, o, none⟩ = some u → w1.cell? ⟨g, o, none⟩ = some u) := Lib.hid fun o u h => (HB7.out.cell (p := ⟨g, _, none⟩) HCA.out.1).trans h
          go_upto_region 7 with fail
          have hv0 : Keep (fun q => q = ba ∨ q = bb) w1 w1.drew := Keep.of_below (Below.refl _ _).drew
          refine wp_region_held_drew (S := fun W => Keep (fun q => q = ba ∨ q = bb) w1 W) (by kernel_rfl) (hv0) (fun hHeld => ?_)
          refine tkH 0 oColI26 ?v0_601 (.inl ⟨by rfl, ?h0_601⟩) ?r0_601
          case h0_601 =>
            intro W hSW
            unfold oColI26
            try dsimp only at hSW
            go_simp
            try with_reducible rfl
          try simp only [oColI26, PT]
          refine tkH 1 oColI27 ?v1_602 (.inl ⟨by rfl, ?h1_602⟩) ?r1_602
          case h1_602 =>
            intro W hSW
            unfold oColI27
            try dsimp only at hSW
            go_simp
            try with_reducible rfl
          try simp only [oColI27, PT]
          refine tkH 2 oColI28 ?v2_603 (.inl ⟨by rfl, ?h2_603⟩) ?r2_603
          case h2_603 =>
            intro W hSW
            unfold oColI28
            try dsimp only at hSW
            go_simp
            try with_reducible rfl
          try simp only [oColI28, PT]
          refine tkH 3 oColI29 ?v3_604 (.inl ⟨by rfl, ?h3_604⟩) ?r3_604
          case h3_604 =>
            intro W hSW
            unfold oColI29
            try dsimp only at hSW
            go_simp
            try with_reducible rfl
          try simp only [oColI29, PT]
          refine tkH 4 oColI30 ?v4_605 (.inl ⟨by rfl, ?h4_605⟩) ?r4_605
          case h4_605 =>
            intro W hSW
            unfold oColI30
            try dsimp only at hSW
            have c0 := (hSW.cell (p := ⟨g, off + a * 3, none⟩) HG7.out.1 HG7.out.2).trans (HC7.out _ _ HCA.out.2.1)
            have c1 := (hSW.cell (p := ⟨g, off + a * 3 + 1, none⟩) HG7.out.1 HG7.out.2).trans (HC7.out _ _ HCA.out.2.2.1)
            go_simp
            try with_reducible rfl
          try simp only [oColI30, PT]
          refine tkH 5 oColI31 ?v5_606 (.inl ⟨by rfl, ?h5_606⟩) ?r5_606
          case h5_606 =>
            intro W hSW
            unfold oColI31
            try dsimp only at hSW
            go_simp
            try with_reducible rfl
          try simp only [oColI31, PT]
          refine tkH 6 oColI32 ?v6_607 (.inl ⟨by rfl, ?h6_607⟩) ?r6_607
          case h6_607 =>
            intro W hSW
            unfold oColI32
            try dsimp only at hSW
            go_simp
            try with_reducible rfl
          try simp only [oColI32, PT]
          refine tkH 7 oColI33 ?v7_608 (.inl ⟨by rfl, ?h7_608⟩) ?r7_608
          case h7_608 =>
            intro W hSW
            unfold oColI33
            try dsimp only at hSW
            go_simp
            try with_reducible rfl
          try simp only [oColI33, PT]
          refine tkH 8 oColI34 ?v8_609 (.inl ⟨by rfl, ?h8_609⟩) ?r8_609
          case h8_609 =>
            intro W hSW
            unfold oColI34
            try dsimp only at hSW
            go_simp
            try with_reducible rfl
          try simp only [oColI34, PT]
          refine tkH 9 oColI35 ?v9_610 (.inl ⟨by rfl, ?h9_610⟩) ?r9_610
          case h9_610 =>
            intro W hSW
            unfold oColI35
            try dsimp only at hSW
            have c0 := (hSW.cell (p := ⟨g, off + b * 3, none⟩) HG7.out.1 HG7.out.2).trans (HC7.out _ _ HCB.out.1)
            have c1 := (hSW.cell (p := ⟨g, off + b * 3 + 1, none⟩) HG7.out.1 HG7.out.2).trans (HC7.out _ _ HCB.out.2.1)
            go_simp
            try with_reducible rfl
          try simp only [oColI35, PT]
          refine rdyH [10] ?_
          refine AllReadyH.cons (o := oColI36) rfl (fun K hK => ?_) AllReadyH.nil
          unfold oColI36
          rw [if_pos (by rfl)]
          have rA0 := HRA.out.below' (Below.refl _ w1).drew
          have rB0 := HRB.out.below' (Below.refl _ w1).drew
          have hb0 := (HLT6.out.2.2.drew)
          refine wp_storeRow _ (.tmp 8) (.tmp 59) rfl (l' := [.int .i64 s1.1, .int .i64 s1.2]) rA0 rfl rfl sizeS25 rfl rfl ?_
          intro w20 rz20 g20 z20
          have hv20 : Keep (fun q => q = ba ∨ q = bb) w1 w20 := (hv0).grown g20 (fun i hi => .inl (.inl (Option.some.inj hi).symm))
          have rB8 := rB0.grown g20 (fun e => by have := HBX.out.2.1; have := Option.some.inj e; omega)
          have hb8 := hb0.grown g20 hb0.size (fun i hi => by have := Option.some.inj hi; have := HBX.out.1; omega)
          have rA8 := rz20
          have z8 := z20
          clear rz20 g20 z20 rA0 rB0 hb0
          refine hK.out _ _ (hv20) (fun hHeld => ?_)
          clear hK K
          try simp only [PT]
          refine rdyH [11] ?_
          refine AllReadyH.cons (o := oColI37) rfl (fun K hK => ?_) AllReadyH.nil
          unfold oColI37
          rw [if_pos (by rfl)]
          refine wp_storeRow _ (.tmp 9) (.tmp 64) rfl (l' := [.int .i64 s2.1, .int .i64 s2.2]) rB8 rfl rfl sizeS25 rfl rfl ?_
          intro w21 rz21 g21 z21
          have hv21 : Keep (fun q => q = ba ∨ q = bb) w1 w21 := (hv20).grown g21 (fun i hi => .inl (.inr (Option.some.inj hi).symm))
          have HFA := Lib.hid (rA8.grown g21 (fun e => by have := HBX.out.2.1; have := Option.some.inj e; omega))
          have HFB := Lib.hid rz21
          have HFW := Lib.hid (hb8.grown g21 hb8.size (fun i hi => by have := Option.some.inj hi; have := HBX.out.1; have := HBX.out.2.1; omega))
          clear rz21 g21 z21 rA8 rB8 hb8 z8
          refine hK.out _ _ (hv21) (fun hHeld => ?_)
          clear hK K
          try simp only [PT]
          refine tkH 12 oColI38 ?v12_611 (.inl ⟨by rfl, ?h12_611⟩) ?r12_611
          case h12_611 =>
            intro W hSW
            unfold oColI38
            try dsimp only at hSW
            go_simp
            try with_reducible rfl
          try simp only [oColI38, PT]
          refine wpAnyH_done (by kernel_rfl) ?_ _
          go_wp2_with fail
          refine bodyPost_ret (resultRRT rfl _ _ rfl rfl HFA.out HFB.out Tryz.underlying35 sizeS25 Tryz.underlying35 sizeS25) rfl ?_
          exact ⟨rfl, HFW.out⟩
      · have hdd : decide (1 ≤ d ∧ d ≤ 32) = false := by simp [hd]
        rw [hdd] at HID
        obtain rfl : NV = none := by rw [HNX.out, if_neg (by omega)]
        clear hdd hd
        have hv0 : Below w6.heap.size w6 w6.drew := (Below.refl _ _).drew
        refine wp_region_held_drew (S := fun W => Below w6.heap.size w6 W) (by kernel_rfl) (hv0) (fun hHeld => ?_)
        obtain ⟨wd, hwd⟩ : ∃ x, w6.drew = x := ⟨_, rfl⟩
        rw [hwd] at hv0 hHeld  ⊢
        clear hwd
        refine tkH 0 oColI0 ?v0_201 (.inl ⟨by rfl, ?h0_201⟩) ?r0_201
        case h0_201 =>
          intro W hSW
          unfold oColI0
          try dsimp only at hSW
          go_simp
          try with_reducible rfl
        try simp only [oColI0, PT]
        refine tkH 1 oColI1 ?v1_202 (.inl ⟨by rfl, ?h1_202⟩) ?r1_202
        case h1_202 =>
          intro W hSW
          unfold oColI1
          try dsimp only at hSW
          go_simp
          try with_reducible rfl
        try simp only [oColI1, PT]
        refine tkH 2 oColI2 ?v2_203 (.inl ⟨by rfl, ?h2_203⟩) ?r2_203
        case h2_203 =>
          intro W hSW
          unfold oColI2
          try dsimp only at hSW
          go_simp
          try with_reducible rfl
        try simp only [oColI2, PT]
        refine tkH 3 oColI3 ?v3_204 (.inl ⟨by rfl, ?h3_204⟩) ?r3_204
        case h3_204 =>
          intro W hSW
          unfold oColI3
          try dsimp only at hSW
          go_simp
          try with_reducible rfl
        try simp only [oColI3, PT]
        refine tkH 4 oColI4 ?v4_205 (.inl ⟨by rfl, ?h4_205⟩) ?r4_205
        case h4_205 =>
          intro W hSW
          unfold oColI4
          try dsimp only at hSW
          go_simp
          try with_reducible rfl
        try simp only [oColI4, PT]
        refine tkH 5 oColI5 ?v5_206 (.inl ⟨by rfl, ?h5_206⟩) ?r5_206
        case h5_206 =>
          intro W hSW
          unfold oColI5
          try dsimp only at hSW
          go_simp
          try with_reducible rfl
        try simp only [oColI5, PT]
        refine tkH 6 oColI6 ?v6_207 (.inl ⟨by rfl, ?h6_207⟩) ?r6_207
        case h6_207 =>
          intro W hSW
          unfold oColI6
          try dsimp only at hSW
          go_simp
          try with_reducible rfl
        try simp only [oColI6, PT]
        refine tkH 7 oColI7 ?v7_208 (.inl ⟨by rfl, ?h7_208⟩) ?r7_208
        case h7_208 =>
          intro W hSW
          unfold oColI7
          try dsimp only at hSW
          go_simp
          try with_reducible rfl
        try simp only [oColI7, PT]
        refine rdyH [8] ?_
        refine AllReadyH.cons (o := oColI8) rfl (fun K hK => ?_) AllReadyH.nil
        unfold oColI8
        go_simp
        refine (HID.out _).mono ?_
        rintro e w1 ⟨rfl, hw1⟩
        have hv1 : Below w6.heap.size w6 w1 := by rw [hw1]; exact hv0
        clear hw1
        refine hK.out _ _ (hv1) (fun hHeld => ?_)
        clear hK K
        try simp only [PT]
        refine tkH 9 oColI9 ?v9_209 (.inl ⟨by rfl, ?h9_209⟩) ?r9_209
        case h9_209 =>
          intro W hSW
          unfold oColI9
          try dsimp only at hSW
          go_simp
          try with_reducible rfl
        try simp only [oColI9, PT]
        refine tkH 10 oColI10 ?v10_210 (.inl ⟨by rfl, ?h10_210⟩) ?r10_210
        case h10_210 =>
          intro W hSW
          unfold oColI10
          try dsimp only at hSW
          go_simp
          try with_reducible rfl
        try simp only [oColI10, PT]
        refine tkH 11 oColI11 ?v11_211 (.inl ⟨by rfl, ?h11_211⟩) ?r11_211
        case h11_211 =>
          intro W hSW
          unfold oColI11
          try dsimp only at hSW
          go_simp
          try with_reducible rfl
        try simp only [oColI11, PT]
        refine tkH 12 oColI12 undef (.inr ⟨by rfl, rfl⟩) ?_
        try simp only [oColI12, PT]
        refine tkH 13 oColI13 undef (.inr ⟨by rfl, rfl⟩) ?_
        try simp only [oColI13, PT]
        refine tkH 14 oColI14 undef (.inr ⟨by rfl, rfl⟩) ?_
        try simp only [oColI14, PT]
        refine tkH 15 oColI15 undef (.inr ⟨by rfl, rfl⟩) ?_
        try simp only [oColI15, PT]
        refine tkH 16 oColI16 undef (.inr ⟨by rfl, rfl⟩) ?_
        try simp only [oColI16, PT]
        refine tkH 17 oColI17 undef (.inr ⟨by rfl, rfl⟩) ?_
        try simp only [oColI17, PT]
        refine tkH 18 oColI18 undef (.inr ⟨by rfl, rfl⟩) ?_
        try simp only [oColI18, PT]
        refine tkH 19 oColI19 undef (.inr ⟨by rfl, rfl⟩) ?_
        try simp only [oColI19, PT]
        refine tkH 20 oColI20 undef (.inr ⟨by rfl, rfl⟩) ?_
        try simp only [oColI20, PT]
        refine tkH 21 oColI21 undef (.inr ⟨by rfl, rfl⟩) ?_
        try simp only [oColI21, PT]
        refine tkH 22 oColI22 undef (.inr ⟨by rfl, rfl⟩) ?_
        try simp only [oColI22, PT]
        refine tkH 23 oColI23 undef (.inr ⟨by rfl, rfl⟩) ?_
        try simp only [oColI23, PT]
        refine tkH 24 oColI24 undef (.inr ⟨by rfl, rfl⟩) ?_
        try simp only [oColI24, PT]
        refine tkH 25 oColI25 ?v25_225 (.inl ⟨by rfl, ?h25_225⟩) ?r25_225
        case h25_225 =>
          intro W hSW
          unfold oColI25
          try dsimp only at hSW
          go_simp
          try with_reducible rfl
        try simp only [oColI25, PT]
        refine wpAnyH_done (by kernel_rfl) ?_ _
        have HB7 := Lib.hid (hv1)
        replace HRA := Lib.hid (HRA.out.below' HB7.out)
        replace HRB := Lib.hid (HRB.out.below' HB7.out)
        replace HLT6 : Hid (ba < w1.heap.size ∧ bb < w1.heap.size ∧ Below w.heap.size w w1) := Lib.hid ⟨HRA.out.lt, HRB.out.lt, HLT6.out.2.2.trans (HB7.out.mono HLT6.out.2.2.size)⟩
        go_wp2_with (first
          | (refine wpList_storeRow rfl _ (.tmp 8) (.tmp 53) rfl (l' := [.int .i64 0, .int .i64 0]) HRA.out rfl rfl sizeS25 rfl rfl ?_; intro w8 rz8 g8 z8; have rB8 := HRB.out.grown g8 (fun e => by have := HBX.out.2.1; have := Option.some.inj e; omega))
          | (refine wpList_storeRow rfl _ (.tmp 9) (.tmp 54) rfl (l' := [.int .i64 0, .int .i64 0]) rB8 rfl rfl sizeS25 rfl rfl ?_; intro w9 rz9 g9 z9; have rA9 := rz8.grown g9 (fun e => by have := HBX.out.2.1; have := Option.some.inj e; omega)))
        refine bodyPost_ret (resultRRT rfl _ _ rfl rfl rA9 rz9 Tryz.underlying35 sizeS25 Tryz.underlying35 sizeS25) rfl ?_
        exact ⟨rfl, (HLT6.out.2.2.grown g8 HLT6.out.2.2.size (fun i hi => by have := Option.some.inj hi; have := HBX.out.1; omega)).grown g9 (by rw [z8]; exact HLT6.out.2.2.size) (fun i hi => by have := Option.some.inj hi; have := HBX.out.1; have := HBX.out.2.1; omega)⟩
end Go.Proofs.YtihhkcndcgljbaaGreat
