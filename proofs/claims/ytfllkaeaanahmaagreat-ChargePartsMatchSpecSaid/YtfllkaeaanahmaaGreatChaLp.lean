/- ChargePartsMatchSpec: Media, Row, Meta and Total are as specified. Conditions: none. -/
import Derived.Test.YtfllkaeaanahmaaGreatHeld2
import Derived.Test.YtfllkaeaanahmaaGreatChaL
namespace Go.Proofs.YtfllkaeaanahmaaGreat
set_option linter.unusedVariables false
set_option linter.unusedSimpArgs false
open Go.RowKit
abbrev oLp0 : Oper := { dst := some 81, op := Op.call { callee := Callee.value (Operand.func 10), args := #[], argTypes := #[] }, type := 4, pos := "law.go:96", after := #[], guard := none }
abbrev oLp1 : Oper := { dst := some 82, op := Op.move (Operand.tmp 81), type := 4, pos := "law.go:96", after := #[{ on := 0, ground := Ground.data }, { on := 0, ground := Ground.chain }], guard := none }
abbrev oLp2 : Oper := { dst := some 83, op := Op.move (Operand.tmp 14), type := 3, pos := "law.go:96", after := #[{ on := 1, ground := Ground.guard }], guard := some (1, true) }
abbrev oLp3 : Oper := { dst := some 84, op := Op.move (Operand.tmp 16), type := 3, pos := "law.go:96", after := #[{ on := 1, ground := Ground.guard }], guard := some (1, true) }
abbrev oLp4 : Oper := { dst := some 85, op := Op.binOp BinOp.eql 3 (Operand.tmp 83) (Operand.tmp 84) 3, type := 4, pos := "law.go:96", after := #[{ on := 2, ground := Ground.data }, { on := 3, ground := Ground.data }, { on := 1, ground := Ground.guard }], guard := some (1, true) }
abbrev oLp5 : Oper := { dst := some 86, op := Op.pick (Operand.tmp 82) (Operand.tmp 85) (Operand.const (Value.bool false)), type := 4, pos := "law.go:96", after := #[{ on := 1, ground := Ground.data }, { on := 4, ground := Ground.data }], guard := none }
abbrev oLp6 : Oper := { dst := some 87, op := Op.move (Operand.tmp 86), type := 4, pos := "law.go:96", after := #[{ on := 5, ground := Ground.data }, { on := 1, ground := Ground.chain }], guard := none }
abbrev oLp7 : Oper := { dst := some 88, op := Op.move (Operand.tmp 15), type := 36, pos := "law.go:96", after := #[{ on := 6, ground := Ground.guard }], guard := some (6, true) }
abbrev oLp8 : Oper := { dst := some 89, op := Op.move (Operand.tmp 17), type := 36, pos := "law.go:96", after := #[{ on := 6, ground := Ground.guard }], guard := some (6, true) }
abbrev oLp9 : Oper := { dst := some 90, op := Op.binOp BinOp.eql 36 (Operand.tmp 88) (Operand.tmp 89) 36, type := 4, pos := "law.go:96", after := #[{ on := 7, ground := Ground.data }, { on := 8, ground := Ground.data }, { on := 6, ground := Ground.guard }], guard := some (6, true) }
abbrev oLp10 : Oper := { dst := some 91, op := Op.pick (Operand.tmp 87) (Operand.tmp 90) (Operand.const (Value.bool false)), type := 4, pos := "law.go:96", after := #[{ on := 6, ground := Ground.data }, { on := 9, ground := Ground.data }], guard := none }
abbrev oLp11 : Oper := { dst := some 92, op := Op.move (Operand.tmp 91), type := 4, pos := "law.go:96", after := #[{ on := 10, ground := Ground.data }, { on := 6, ground := Ground.chain }], guard := none }
abbrev oLp12 : Oper := { dst := some 93, op := Op.load 35 (Operand.tmp 18), type := 35, pos := "law.go:96", after := #[{ on := 11, ground := Ground.guard }], guard := some (11, true) }
abbrev oLp13 : Oper := { dst := some 95, op := Op.load 39 (Operand.tmp 20), type := 39, pos := "law.go:96", after := #[{ on := 11, ground := Ground.guard }], guard := some (11, true) }
abbrev oLp14 : Oper := { dst := some 94, op := Op.call { callee := Callee.value (Operand.func 14), args := #[Operand.tmp 93], argTypes := #[35] }, type := 39, pos := "law.go:96", after := #[{ on := 12, ground := Ground.data }, { on := 11, ground := Ground.chain }, { on := 11, ground := Ground.guard }], guard := some (11, true) }
abbrev oLp15 : Oper := { dst := some 96, op := Op.call { callee := Callee.value (Operand.func 13), args := #[Operand.tmp 94, Operand.tmp 95], argTypes := #[39, 39] }, type := 4, pos := "law.go:96", after := #[{ on := 13, ground := Ground.data }, { on := 14, ground := Ground.data }, { on := 13, ground := Ground.chain }, { on := 11, ground := Ground.guard }], guard := some (11, true) }
abbrev oLp16 : Oper := { dst := some 97, op := Op.pick (Operand.tmp 92) (Operand.tmp 96) (Operand.const (Value.bool false)), type := 4, pos := "law.go:96", after := #[{ on := 11, ground := Ground.data }, { on := 15, ground := Ground.data }], guard := none }
abbrev oLp17 : Oper := { dst := some 98, op := Op.move (Operand.tmp 97), type := 4, pos := "law.go:96", after := #[{ on := 16, ground := Ground.data }, { on := 15, ground := Ground.chain }], guard := none }
abbrev oLp18 : Oper := { dst := some 99, op := Op.move (Operand.tmp 19), type := 36, pos := "law.go:96", after := #[{ on := 17, ground := Ground.guard }], guard := some (17, true) }
abbrev oLp19 : Oper := { dst := some 100, op := Op.move (Operand.tmp 21), type := 36, pos := "law.go:96", after := #[{ on := 17, ground := Ground.guard }], guard := some (17, true) }
abbrev oLp20 : Oper := { dst := some 101, op := Op.binOp BinOp.eql 36 (Operand.tmp 99) (Operand.tmp 100) 36, type := 4, pos := "law.go:96", after := #[{ on := 18, ground := Ground.data }, { on := 19, ground := Ground.data }, { on := 17, ground := Ground.guard }], guard := some (17, true) }
abbrev oLp21 : Oper := { dst := some 102, op := Op.pick (Operand.tmp 98) (Operand.tmp 101) (Operand.const (Value.bool false)), type := 4, pos := "law.go:96", after := #[{ on := 17, ground := Ground.data }, { on := 20, ground := Ground.data }], guard := none }
abbrev oLp22 : Oper := { dst := some 103, op := Op.move (Operand.tmp 102), type := 4, pos := "law.go:96", after := #[{ on := 21, ground := Ground.data }, { on := 17, ground := Ground.chain }], guard := none }
abbrev oLp23 : Oper := { dst := some 104, op := Op.load 35 (Operand.tmp 22), type := 35, pos := "law.go:96", after := #[{ on := 22, ground := Ground.guard }], guard := some (22, true) }
abbrev oLp24 : Oper := { dst := some 106, op := Op.load 39 (Operand.tmp 24), type := 39, pos := "law.go:96", after := #[{ on := 22, ground := Ground.guard }], guard := some (22, true) }
abbrev oLp25 : Oper := { dst := some 105, op := Op.call { callee := Callee.value (Operand.func 14), args := #[Operand.tmp 104], argTypes := #[35] }, type := 39, pos := "law.go:96", after := #[{ on := 23, ground := Ground.data }, { on := 22, ground := Ground.chain }, { on := 22, ground := Ground.guard }], guard := some (22, true) }
abbrev oLp26 : Oper := { dst := some 107, op := Op.call { callee := Callee.value (Operand.func 13), args := #[Operand.tmp 105, Operand.tmp 106], argTypes := #[39, 39] }, type := 4, pos := "law.go:96", after := #[{ on := 24, ground := Ground.data }, { on := 25, ground := Ground.data }, { on := 24, ground := Ground.chain }, { on := 22, ground := Ground.guard }], guard := some (22, true) }
abbrev oLp27 : Oper := { dst := some 108, op := Op.pick (Operand.tmp 103) (Operand.tmp 107) (Operand.const (Value.bool false)), type := 4, pos := "law.go:96", after := #[{ on := 22, ground := Ground.data }, { on := 26, ground := Ground.data }], guard := none }
abbrev oLp28 : Oper := { dst := some 109, op := Op.move (Operand.tmp 108), type := 4, pos := "law.go:96", after := #[{ on := 27, ground := Ground.data }, { on := 26, ground := Ground.chain }], guard := none }
abbrev oLp29 : Oper := { dst := some 110, op := Op.move (Operand.tmp 23), type := 36, pos := "law.go:96", after := #[{ on := 28, ground := Ground.guard }], guard := some (28, true) }
abbrev oLp30 : Oper := { dst := some 111, op := Op.move (Operand.tmp 25), type := 36, pos := "law.go:96", after := #[{ on := 28, ground := Ground.guard }], guard := some (28, true) }
abbrev oLp31 : Oper := { dst := some 112, op := Op.binOp BinOp.eql 36 (Operand.tmp 110) (Operand.tmp 111) 36, type := 4, pos := "law.go:96", after := #[{ on := 29, ground := Ground.data }, { on := 30, ground := Ground.data }, { on := 28, ground := Ground.guard }], guard := some (28, true) }
abbrev oLp32 : Oper := { dst := some 113, op := Op.pick (Operand.tmp 109) (Operand.tmp 112) (Operand.const (Value.bool false)), type := 4, pos := "law.go:96", after := #[{ on := 28, ground := Ground.data }, { on := 31, ground := Ground.data }], guard := none }
abbrev oLp33 : Oper := { dst := some 114, op := Op.move (Operand.tmp 113), type := 4, pos := "law.go:96", after := #[{ on := 32, ground := Ground.data }, { on := 28, ground := Ground.chain }], guard := none }
abbrev oLp34 : Oper := { dst := some 115, op := Op.load 35 (Operand.tmp 18), type := 35, pos := "law.go:96", after := #[{ on := 33, ground := Ground.guard }], guard := some (33, true) }
abbrev oLp35 : Oper := { dst := some 117, op := Op.load 39 (Operand.tmp 20), type := 39, pos := "law.go:96", after := #[{ on := 33, ground := Ground.guard }], guard := some (33, true) }
abbrev oLp36 : Oper := { dst := some 116, op := Op.call { callee := Callee.value (Operand.func 21), args := #[Operand.tmp 115], argTypes := #[35] }, type := 3, pos := "law.go:96", after := #[{ on := 34, ground := Ground.data }, { on := 33, ground := Ground.chain }, { on := 33, ground := Ground.guard }], guard := some (33, true) }
abbrev oLp37 : Oper := { dst := some 118, op := Op.call { callee := Callee.value (Operand.func 22), args := #[Operand.tmp 117], argTypes := #[39] }, type := 3, pos := "law.go:96", after := #[{ on := 36, ground := Ground.data }, { on := 35, ground := Ground.chain }, { on := 33, ground := Ground.guard }], guard := some (33, true) }
abbrev oLp38 : Oper := { dst := some 119, op := Op.binOp BinOp.eql 3 (Operand.tmp 116) (Operand.tmp 118) 3, type := 4, pos := "law.go:96", after := #[{ on := 35, ground := Ground.data }, { on := 37, ground := Ground.data }, { on := 33, ground := Ground.guard }], guard := some (33, true) }
abbrev oLp39 : Oper := { dst := some 120, op := Op.pick (Operand.tmp 114) (Operand.tmp 119) (Operand.const (Value.bool false)), type := 4, pos := "law.go:96", after := #[{ on := 33, ground := Ground.data }, { on := 38, ground := Ground.data }], guard := none }
abbrev oLp40 : Oper := { dst := some 121, op := Op.move (Operand.tmp 120), type := 4, pos := "law.go:96", after := #[{ on := 39, ground := Ground.data }, { on := 37, ground := Ground.chain }], guard := none }
abbrev oLp41 : Oper := { dst := some 122, op := Op.move (Operand.tmp 3), type := 27, pos := "law.go:96", after := #[{ on := 40, ground := Ground.guard }], guard := some (40, true) }
abbrev oLp42 : Oper := { dst := some 123, op := Op.move (Operand.tmp 4), type := 3, pos := "law.go:96", after := #[{ on := 40, ground := Ground.guard }], guard := some (40, true) }
abbrev oLp43 : Oper := { dst := some 124, op := Op.call { callee := Callee.value (Operand.func 23), args := #[Operand.tmp 122, Operand.tmp 123], argTypes := #[27, 3] }, type := 4, pos := "law.go:96", after := #[{ on := 41, ground := Ground.data }, { on := 42, ground := Ground.data }, { on := 40, ground := Ground.chain }, { on := 40, ground := Ground.guard }], guard := some (40, true) }
abbrev oLp44 : Oper := { dst := some 125, op := Op.unOp UnOp.not 4 (Operand.tmp 124), type := 4, pos := "law.go:96", after := #[{ on := 43, ground := Ground.data }, { on := 40, ground := Ground.guard }], guard := some (40, true) }
abbrev oLp45 : Oper := { dst := some 126, op := Op.move (Operand.tmp 125), type := 4, pos := "law.go:96", after := #[{ on := 44, ground := Ground.data }, { on := 43, ground := Ground.chain }, { on := 40, ground := Ground.guard }], guard := some (40, true) }
abbrev oLp46 : Oper := { dst := some 127, op := Op.move (Operand.tmp 3), type := 27, pos := "law.go:96", after := #[{ on := 45, ground := Ground.guard }], guard := some (45, false) }
abbrev oLp47 : Oper := { dst := some 128, op := Op.move (Operand.tmp 4), type := 3, pos := "law.go:96", after := #[{ on := 45, ground := Ground.guard }], guard := some (45, false) }
abbrev oLp48 : Oper := { dst := some 129, op := Op.build 35 #[(0, Operand.tmp 127), (1, Operand.tmp 128)], type := 35, pos := "law.go:96", after := #[{ on := 46, ground := Ground.data }, { on := 47, ground := Ground.data }, { on := 45, ground := Ground.guard }], guard := some (45, false) }
abbrev oLp49 : Oper := { dst := some 131, op := Op.move (Operand.tmp 3), type := 27, pos := "law.go:96", after := #[{ on := 45, ground := Ground.guard }], guard := some (45, false) }
abbrev oLp50 : Oper := { dst := some 132, op := Op.move (Operand.tmp 4), type := 3, pos := "law.go:96", after := #[{ on := 45, ground := Ground.guard }], guard := some (45, false) }
abbrev oLp51 : Oper := { dst := some 133, op := Op.build 39 #[(0, Operand.tmp 131), (1, Operand.tmp 132)], type := 39, pos := "law.go:96", after := #[{ on := 50, ground := Ground.data }, { on := 51, ground := Ground.data }, { on := 45, ground := Ground.guard }], guard := some (45, false) }
abbrev oLp52 : Oper := { dst := some 130, op := Op.call { callee := Callee.value (Operand.func 21), args := #[Operand.tmp 129], argTypes := #[35] }, type := 3, pos := "law.go:96", after := #[{ on := 48, ground := Ground.data }, { on := 45, ground := Ground.chain }, { on := 45, ground := Ground.guard }], guard := some (45, false) }
abbrev oLp53 : Oper := { dst := some 134, op := Op.call { callee := Callee.value (Operand.func 22), args := #[Operand.tmp 133], argTypes := #[39] }, type := 3, pos := "law.go:96", after := #[{ on := 52, ground := Ground.data }, { on := 49, ground := Ground.chain }, { on := 45, ground := Ground.guard }], guard := some (45, false) }
abbrev oLp54 : Oper := { dst := some 135, op := Op.binOp BinOp.eql 3 (Operand.tmp 130) (Operand.tmp 134) 3, type := 4, pos := "law.go:96", after := #[{ on := 49, ground := Ground.data }, { on := 53, ground := Ground.data }, { on := 45, ground := Ground.guard }], guard := some (45, false) }
abbrev oLp55 : Oper := { dst := some 136, op := Op.pick (Operand.tmp 126) (Operand.const (Value.bool true)) (Operand.tmp 135), type := 4, pos := "law.go:96", after := #[{ on := 45, ground := Ground.data }, { on := 54, ground := Ground.data }, { on := 40, ground := Ground.guard }], guard := some (40, true) }
abbrev oLp56 : Oper := { dst := some 137, op := Op.pick (Operand.tmp 121) (Operand.tmp 136) (Operand.const (Value.bool false)), type := 4, pos := "law.go:96", after := #[{ on := 40, ground := Ground.data }, { on := 55, ground := Ground.data }], guard := none }
abbrev oLp57 : Oper := { dst := some 10, op := Op.assign (Operand.tmp 137), type := 4, pos := "law.go:96", after := #[{ on := 56, ground := Ground.data }, { on := 53, ground := Ground.chain }, { on := 0, ground := Ground.phase }, { on := 1, ground := Ground.phase }, { on := 2, ground := Ground.phase }, { on := 3, ground := Ground.phase }, { on := 4, ground := Ground.phase }, { on := 5, ground := Ground.phase }, { on := 6, ground := Ground.phase }, { on := 7, ground := Ground.phase }, { on := 8, ground := Ground.phase }, { on := 9, ground := Ground.phase }, { on := 10, ground := Ground.phase }, { on := 11, ground := Ground.phase }, { on := 12, ground := Ground.phase }, { on := 13, ground := Ground.phase }, { on := 14, ground := Ground.phase }, { on := 15, ground := Ground.phase }, { on := 16, ground := Ground.phase }, { on := 17, ground := Ground.phase }, { on := 18, ground := Ground.phase }, { on := 19, ground := Ground.phase }, { on := 20, ground := Ground.phase }, { on := 21, ground := Ground.phase }, { on := 22, ground := Ground.phase }, { on := 23, ground := Ground.phase }, { on := 24, ground := Ground.phase }, { on := 25, ground := Ground.phase }, { on := 26, ground := Ground.phase }, { on := 27, ground := Ground.phase }, { on := 28, ground := Ground.phase }, { on := 29, ground := Ground.phase }, { on := 30, ground := Ground.phase }, { on := 31, ground := Ground.phase }, { on := 32, ground := Ground.phase }, { on := 33, ground := Ground.phase }, { on := 34, ground := Ground.phase }, { on := 35, ground := Ground.phase }, { on := 36, ground := Ground.phase }, { on := 37, ground := Ground.phase }, { on := 38, ground := Ground.phase }, { on := 39, ground := Ground.phase }, { on := 40, ground := Ground.phase }, { on := 41, ground := Ground.phase }, { on := 42, ground := Ground.phase }, { on := 43, ground := Ground.phase }, { on := 44, ground := Ground.phase }, { on := 45, ground := Ground.phase }, { on := 46, ground := Ground.phase }, { on := 47, ground := Ground.phase }, { on := 48, ground := Ground.phase }, { on := 49, ground := Ground.phase }, { on := 50, ground := Ground.phase }, { on := 51, ground := Ground.phase }, { on := 52, ground := Ground.phase }, { on := 53, ground := Ground.phase }, { on := 54, ground := Ground.phase }, { on := 55, ground := Ground.phase }, { on := 56, ground := Ground.phase }], guard := none }
open W (FRow)
theorem mediaV_two (cf : S.Str.Cfg) (rs : List S.Str.Rw) : ∃ mv me : Int, Cha.mediaV cf rs = .tuple #[.int .i64 mv, .int .i64 me] := by
 unfold Cha.mediaV
 split
 ·
  exact ⟨_, _, rfl⟩
 ·
  exact ⟨_, _, rfl⟩
theorem two_q (q : Bool) : q = true ∨ q = false := by cases q <;> simp
set_option maxRecDepth 100000 in
set_option maxHeartbeats 12800000 in
theorem lawCParts (cf : S.Str.Cfg) (A : Option Addr) (n c : Nat) (D : List S.RR) (hnc : n ≤ c) (A1 : Option Addr) (n1 c1 : Nat) (ops : List Chk.Op) (hl : ops.length = n1) (hnc1 : n1 ≤ c1) (hc1 : c1 ≤ 140737488355328) (hok : ∀ o ∈ ops, OpOk o) (A2 : Option Addr) (n2 c2 : Nat) (bs : List Int) (hl2 : bs.length = n2) (hnc2 : n2 ≤ c2) (hc2 : c2 ≤ 140737488355328) (hxr : ∀ x ∈ bs, -9223372036854775808 ≤ x ∧ x ≤ 9223372036854775807) (x4 : Int) (l4 : -9223372036854775808 ≤ x4) (u4 : x4 ≤ 9223372036854775807) (w : World) (hrd : S.RowsIn w w.heap.size A n D (D.map S.RR.r)) (hr : Rd w w.heap.size 9 A1 n1 (ops.flatMap opL)) (hb : Rd w w.heap.size 1 A2 n2 (ivs bs)) :
  Calls Tryz.prog 4 #[S.cfV cf, .slice A n c, .slice A1 n1 c1, .slice A2 n2 c2, .int .i64 x4] w fun e w' => e = .returned (.bool true) ∧ Below w.heap.size w w' := by
 clear hxr l4 u4
 have HSN := Lib.hid sanity34_any
 obtain ⟨ca, cl, w0, hca, hcl, hw0, hrow, hb0, hs0⟩ := cfg_box cf w
 have hmx := hrd.mx
 obtain ⟨fq, hfq⟩ : ∃ q, decide (cf.rows ≤ 64 ∧ n ≤ 64) = q := ⟨_, rfl⟩
 have HFW := Lib.hid (fun (W : World) => few_any cf A n c hrd.mx W fq hfq)
 rw [hca] at HFW ⊢
 have HW := Lib.hid hw0
 have HB := Lib.hid hb0
 have HR := Lib.hid hrow.1
 have HCL := Lib.hid (And.intro hcl hrow.2)
 have HRD := Lib.hid hrd
 have HBL := Lib.hid (And.intro hl2 (And.intro (show n2 ≤ maxLen by unfold maxLen; omega) hb))
 by_cases hn : n1 ≤ 120
 case neg =>
  have HBU := Lib.hid (fun W => build34_long A1 n1 c1 W (by omega))
  clear hw0 hb0 hs0 hcl hca hrow hr hok hl hrd hfq hb hl2
  go_enter Tryz.func4, Tryz.ntmps4
  go_upto_region 1 with fail
  rw [HW.out]
  go_wp2_with (first
   | (go_at_call 8; refine (HBU.out _).mono ?_; rintro e w1 ⟨rfl, b1⟩; have HB1 := Lib.hid (HB.out.trans (b1.mono HB.out.size)); clear b1)
   | (go_at_call 10; refine (HSN.out _).mono ?_; rintro e w3 ⟨rfl, b3⟩))
  go_ret
  exact ⟨rfl, HB1.out.trans (b3.mono HB1.out.size)⟩
 have HOO := Lib.hid (show OpsAt w0 A1 n1 ops from OpsAt.below (w := w) ⟨hr, hl, fun o ho => (hok o ho).2.2.2.2.2⟩ hb0)
 have HBU := Lib.hid (build34_any A1 n1 c1 ops w0 hn HOO.out)
 obtain ⟨l, hll⟩ : ∃ l, Chk.run [] ops = l := ⟨_, rfl⟩
 rw [hll] at HBU
 cases fq with
 | false =>
  clear hw0 hb0 hs0 hcl hca hrow hr hok hl hrd hfq hll hb hl2
  go_enter Tryz.func4, Tryz.ntmps4
  go_upto_region 1 with fail
  rw [HW.out]
  go_upto_region 2 with (go_at_call 8; refine HBU.out.mono ?_; rintro e w1 ⟨a, r, rfl, hp1⟩)
  have HP := Lib.hid hp1
  have HB1 := Lib.hid (HB.out.trans (hp1.b.mono HB.out.size))
  have hcr : w1.rangeAt w.heap.size 0 cl := fun q u hq => by rw [Nat.zero_add, (HR.out.below' hp1.b).cell]; exact hq
  clear hp1
  go_wp2_with (first
   | (have tok := hcr; refine S.wpList_load_rg rfl _ (.tmp 5) rfl w.heap.size 0 rfl cl _ hcr Tryz.underlying23 rfl (by rw [HCL.out.2.1]; exact S.sizeCf) ?_; rw [HCL.out.1]; clear tok)
   | (go_at_call 9; refine (HFW.out _).mono ?_; rintro e w2 ⟨rfl, b2⟩; have HB2 := Lib.hid (HB1.out.trans (b2.mono HB1.out.size)); clear b2 hcr)
   | (go_at_call 10; refine (HSN.out _).mono ?_; rintro e w3 ⟨rfl, b3⟩))
  go_ret
  exact ⟨rfl, HB2.out.trans (b3.mono HB2.out.size)⟩
 | true =>
  have HCA := Lib.hid hca
  clear hw0 hb0 hs0 hcl hca hrow hr hok hl hrd hfq hll hb hl2 hn
  go_enter Tryz.func4, Tryz.ntmps4
  go_upto_region 1 with fail
  rw [HW.out]
  go_upto_region 2 with (go_at_call 8; refine HBU.out.mono ?_; rintro e w1 ⟨a, r, rfl, hp1⟩)
  have HP := Lib.hid hp1
  have HB1 := Lib.hid (HB.out.trans (hp1.b.mono HB.out.size))
  have HCR1 := Lib.hid (HR.out.below' hp1.b)
  have hcr : w1.rangeAt w.heap.size 0 cl := fun q u hq => by rw [Nat.zero_add, HCR1.out.cell]; exact hq
  clear hp1
  go_upto_region 4 with (first
   | (have tok := hcr; refine S.wpList_load_rg rfl _ (.tmp 5) rfl w.heap.size 0 rfl cl _ hcr Tryz.underlying23 rfl (by rw [HCL.out.2.1]; exact S.sizeCf) ?_; rw [HCL.out.1]; clear tok)
   | (go_at_call 9; refine (HFW.out _).mono ?_; rintro e w2 ⟨rfl, b2⟩; have HB2 := Lib.hid b2; clear b2))
  clear hcr
  have HWV : Hid (∀ W, Below w2.heap.size w2 W → Below w.heap.size w W) := Lib.hid fun V hV => (HB1.out.trans (HB2.out.mono HB1.out.size)).trans (hV.mono (HB1.out.trans (HB2.out.mono HB1.out.size)).size)
  obtain ⟨mv, me, hmv⟩ := mediaV_two cf (D.map S.RR.r)
  have HPM : Hid (∀ W, Below w2.heap.size w2 W → Calls Tryz.prog 15 #[.agg ca, .slice A n c] W fun e w' => e = .returned (.tuple #[.int .i64 mv, .int .i64 me]) ∧ Below W.heap.size W w') := Lib.hid fun V hV => by
   have hwV := HWV.out V hV
   have := pmedia_any (HRD.out.below hwV) hwV.size hnc cf
   rwa [hmv, HCA.out] at this
  have HRM : Hid (∀ W, Below w2.heap.size w2 W → Calls Tryz.prog 16 #[.agg ca, .slice A n c] W fun e w' => e = .returned (.tuple #[.int .i64 mv, .int .i64 me]) ∧ Below W.heap.size W w') := Lib.hid fun V hV => by
   have hwV := HWV.out V hV
   have := rmedia_any (HRD.out.below hwV) hwV.size hnc cf
   rwa [hmv, HCA.out] at this
  obtain ⟨N6, X6, H6, E6, hXN6, hN6, hU6, -, -⟩ := shU (Cha.rowF l cf (D.map S.RR.r) x4)
  obtain ⟨N8, X8, H8, E8, hXN8, hN8, hU8, -, -⟩ := shU (Cha.metaO cf bs)
  have HP6 : Hid (∀ W, Below w2.heap.size w2 W → Calls Tryz.prog 17 #[.agg ca, .slice A n c, .pointer (some ⟨a, 0, none⟩), .int .i64 x4] W (ShU W N6 X6 H6 E6)) := Lib.hid fun V hV => by
   obtain ⟨F, T, F', T', ⟨t, ht⟩, ⟨t', ht'⟩, -⟩ := HP.out
   have hwV := HWV.out V hV
   have := prow_any (HB2.out.trans (hV.mono HB2.out.size)) ht (HRD.out.below hwV) hwV.size hnc cf x4
   rw [HCA.out] at this
   exact this.mono fun e w' h => hU6 _ _ _ h.v
  have HR6 : Hid (∀ W, Below w2.heap.size w2 W → Calls Tryz.prog 18 #[.agg ca, .slice A n c, .pointer (some ⟨r, 0, none⟩), .int .i64 x4] W (ShU W N6 X6 H6 E6)) := Lib.hid fun V hV => by
   obtain ⟨F, T, F', T', ⟨t, ht⟩, ⟨t', ht'⟩, -⟩ := HP.out
   have hwV := HWV.out V hV
   have := rrow_any (HB2.out.trans (hV.mono HB2.out.size)) ht' (HRD.out.below hwV) hwV.size hnc cf x4
   rw [HCA.out] at this
   exact this.mono fun e w' h => hU6 _ _ _ h.v
  have HP8 : Hid (∀ W, Below w2.heap.size w2 W → Calls Tryz.prog 19 #[.agg ca, .slice A2 n2 c2] W (ShU W N8 X8 H8 E8)) := Lib.hid fun V hV => by
   have hwV := HWV.out V hV
   have := pmeta_all cf A2 n2 c2 bs HBL.out.1 HBL.out.2.1 w.heap.size V hwV.size (HBL.out.2.2.below hwV)
   rw [HCA.out] at this
   exact this.mono fun e w' h => hU8 _ _ _ h
  have HR8 : Hid (∀ W, Below w2.heap.size w2 W → Calls Tryz.prog 20 #[.agg ca, .slice A2 n2 c2] W (ShU W N8 X8 H8 E8)) := Lib.hid fun V hV => by
   have hwV := HWV.out V hV
   have := rmeta_all cf A2 n2 c2 bs HBL.out.1 HBL.out.2.1 w.heap.size V hwV.size (HBL.out.2.2.below hwV)
   rw [HCA.out] at this
   exact this.mono fun e w' h => hU8 _ _ _ h
  obtain ⟨t6, ht6⟩ : ∃ y, Cha.totS H6 X6 N6 = y := ⟨_, rfl⟩
  obtain ⟨tb, htb⟩ : ∃ y, Cha.totS x4 bs n2 = y := ⟨_, rfl⟩
  obtain ⟨tq, htq⟩ : ∃ y, Cha.tameB bs x4 = y := ⟨_, rfl⟩
  have HXN := Lib.hid (And.intro (And.intro hXN6 hN6) (And.intro hXN8 hN8))
  have HTT := Lib.hid (And.intro ht6 (And.intro htb htq))
  have HCR1 := Lib.hid (HCR1.out.below' HB2.out)
  unfold ShU at HP6 HR6 HP8 HR8
  clear hXN6 hN6 hU6 hXN8 hN8 hU8 hmv ht6 htb htq
  have hcr : w2.rangeAt w.heap.size 0 cl := fun q u hq => by rw [Nat.zero_add, HCR1.out.cell]; exact hq
  go_upto_region 5 with (first
   | (have tok := hcr; refine S.wpList_load_rg rfl _ (.tmp 5) rfl w.heap.size 0 rfl cl _ hcr Tryz.underlying23 rfl (by rw [HCL.out.2.1]; exact S.sizeCf) ?_; rw [HCL.out.1]; clear tok)
   | (go_at_call 15; refine (HPM.out _ (Below.refl _ _)).mono ?_; rintro e w3 ⟨rfl, b3⟩; have Hw3 := Lib.hid b3; clear b3))
  clear hcr
  have hcr : w3.rangeAt w.heap.size 0 cl := fun q u hq => by rw [Nat.zero_add, (HCR1.out.below' Hw3.out).cell]; exact hq
  go_upto_region 6 with (first
   | (have tok := hcr; refine S.wpList_load_rg rfl _ (.tmp 5) rfl w.heap.size 0 rfl cl _ hcr Tryz.underlying23 rfl (by rw [HCL.out.2.1]; exact S.sizeCf) ?_; rw [HCL.out.1]; clear tok)
   | (go_at_call 16; refine (HRM.out _ Hw3.out).mono ?_; rintro e w4 ⟨rfl, b4⟩; have Hw4 := Lib.hid (Hw3.out.trans (b4.mono Hw3.out.size)); clear b4))
  clear hcr
  have hcr : w4.rangeAt w.heap.size 0 cl := fun q u hq => by rw [Nat.zero_add, (HCR1.out.below' Hw4.out).cell]; exact hq
  go_upto_region 7 with (first
   | (have tok := hcr; refine S.wpList_load_rg rfl _ (.tmp 5) rfl w.heap.size 0 rfl cl _ hcr Tryz.underlying23 rfl (by rw [HCL.out.2.1]; exact S.sizeCf) ?_; rw [HCL.out.1]; clear tok)
   | (have tok := r6; refine wpList_storeRow rfl _ (.tmp 18) (.tmp 59) rfl (l' := [.slice A6 N6 c6, .int .i64 H6]) r6 rfl rfl sizeSP rfl rfl ?_; intro w65 r65 g65 z65; clear tok)
   | (go_at_call 17; refine (HP6.out _ Hw4.out).mono ?_; rintro e w63 ⟨A6, c6, rfl, rd6, b63⟩)
   | (refine wpList_allocRow rfl _ rfl _ infoSP ?_; intro w64 r6 b6 z6))
  have hc6 : Below w63.heap.size w63 w65 := b6.grown g65 b6.size (fun i hi => by have := Option.some.inj hi; omega)
  have hd6 := b63.trans (hc6.mono b63.size)
  have HBR6 := Lib.hid hd6
  have Hw65 := Lib.hid (Hw4.out.trans (hd6.mono Hw4.out.size))
  have HX6 := Lib.hid (And.intro r65 ((rd6.below hc6).more hc6.size))
  obtain ⟨b69, hb69⟩ : ∃ y, w63.heap.size = y := ⟨_, rfl⟩
  rw [hb69] at HX6
  try rw [hb69]
  clear hcr r6 b6 z6 r65 g65 z65 hc6 hd6 hb69 rd6 b63
  try simp only [PT]
  have hcr : w65.rangeAt w.heap.size 0 cl := fun q u hq => by rw [Nat.zero_add, (HCR1.out.below' Hw65.out).cell]; exact hq
  go_upto_region 8 with (first
   | (have tok := hcr; refine S.wpList_load_rg rfl _ (.tmp 5) rfl w.heap.size 0 rfl cl _ hcr Tryz.underlying23 rfl (by rw [HCL.out.2.1]; exact S.sizeCf) ?_; rw [HCL.out.1]; clear tok)
   | (have tok := r7; refine wpList_storeRow rfl _ (.tmp 20) (.tmp 67) rfl (l' := [.slice A7 N6 c7, .int .i64 H6]) r7 rfl rfl sizeSR rfl rfl ?_; intro w75 r75 g75 z75; clear tok)
   | (go_at_call 18; refine (HR6.out _ Hw65.out).mono ?_; rintro e w73 ⟨A7, c7, rfl, rd7, b73⟩)
   | (refine wpList_allocRow rfl _ rfl _ infoSR ?_; intro w74 r7 b7 z7))
  have hc7 : Below w73.heap.size w73 w75 := b7.grown g75 b7.size (fun i hi => by have := Option.some.inj hi; omega)
  have hd7 := b73.trans (hc7.mono b73.size)
  have HBR7 := Lib.hid hd7
  have Hw75 := Lib.hid (Hw65.out.trans (hd7.mono Hw65.out.size))
  have HX7 := Lib.hid (And.intro r75 ((rd7.below hc7).more hc7.size))
  obtain ⟨b79, hb79⟩ : ∃ y, w73.heap.size = y := ⟨_, rfl⟩
  rw [hb79] at HX7
  try rw [hb79]
  clear hcr r7 b7 z7 r75 g75 z75 hc7 hd7 hb79 rd7 b73
  try simp only [PT]
  have HX6 := Lib.hid (And.intro (HX6.out.1.below' HBR7.out) ((HX6.out.2.below HBR7.out).more HBR7.out.size))
  have hcr : w75.rangeAt w.heap.size 0 cl := fun q u hq => by rw [Nat.zero_add, (HCR1.out.below' Hw75.out).cell]; exact hq
  go_upto_region 9 with (first
   | (have tok := hcr; refine S.wpList_load_rg rfl _ (.tmp 5) rfl w.heap.size 0 rfl cl _ hcr Tryz.underlying23 rfl (by rw [HCL.out.2.1]; exact S.sizeCf) ?_; rw [HCL.out.1]; clear tok)
   | (have tok := r8; refine wpList_storeRow rfl _ (.tmp 22) (.tmp 73) rfl (l' := [.slice A8 N8 c8, .int .i64 H8]) r8 rfl rfl sizeSP rfl rfl ?_; intro w85 r85 g85 z85; clear tok)
   | (go_at_call 19; refine (HP8.out _ Hw75.out).mono ?_; rintro e w83 ⟨A8, c8, rfl, rd8, b83⟩)
   | (refine wpList_allocRow rfl _ rfl _ infoSP ?_; intro w84 r8 b8 z8))
  have hc8 : Below w83.heap.size w83 w85 := b8.grown g85 b8.size (fun i hi => by have := Option.some.inj hi; omega)
  have hd8 := b83.trans (hc8.mono b83.size)
  have HBR8 := Lib.hid hd8
  have Hw85 := Lib.hid (Hw75.out.trans (hd8.mono Hw75.out.size))
  have HX8 := Lib.hid (And.intro r85 ((rd8.below hc8).more hc8.size))
  obtain ⟨b89, hb89⟩ : ∃ y, w83.heap.size = y := ⟨_, rfl⟩
  rw [hb89] at HX8
  try rw [hb89]
  clear hcr r8 b8 z8 r85 g85 z85 hc8 hd8 hb89 rd8 b83
  try simp only [PT]
  have HX6 := Lib.hid (And.intro (HX6.out.1.below' HBR8.out) ((HX6.out.2.below HBR8.out).more HBR8.out.size))
  have HX7 := Lib.hid (And.intro (HX7.out.1.below' HBR8.out) ((HX7.out.2.below HBR8.out).more HBR8.out.size))
  have hcr : w85.rangeAt w.heap.size 0 cl := fun q u hq => by rw [Nat.zero_add, (HCR1.out.below' Hw85.out).cell]; exact hq
  go_upto_region 10 with (first
   | (have tok := hcr; refine S.wpList_load_rg rfl _ (.tmp 5) rfl w.heap.size 0 rfl cl _ hcr Tryz.underlying23 rfl (by rw [HCL.out.2.1]; exact S.sizeCf) ?_; rw [HCL.out.1]; clear tok)
   | (have tok := r9; refine wpList_storeRow rfl _ (.tmp 24) (.tmp 79) rfl (l' := [.slice A9 N8 c9, .int .i64 H8]) r9 rfl rfl sizeSR rfl rfl ?_; intro w95 r95 g95 z95; clear tok)
   | (go_at_call 20; refine (HR8.out _ Hw85.out).mono ?_; rintro e w93 ⟨A9, c9, rfl, rd9, b93⟩)
   | (refine wpList_allocRow rfl _ rfl _ infoSR ?_; intro w94 r9 b9 z9))
  have hc9 : Below w93.heap.size w93 w95 := b9.grown g95 b9.size (fun i hi => by have := Option.some.inj hi; omega)
  have hd9 := b93.trans (hc9.mono b93.size)
  have HBR9 := Lib.hid hd9
  have Hw95 := Lib.hid (Hw85.out.trans (hd9.mono Hw85.out.size))
  have HX9 := Lib.hid (And.intro r95 ((rd9.below hc9).more hc9.size))
  obtain ⟨b99, hb99⟩ : ∃ y, w93.heap.size = y := ⟨_, rfl⟩
  rw [hb99] at HX9
  try rw [hb99]
  clear hcr r9 b9 z9 r95 g95 z95 hc9 hd9 hb99 rd9 b93
  try simp only [PT]
  have HX6 := Lib.hid (And.intro (HX6.out.1.below' HBR9.out) ((HX6.out.2.below HBR9.out).more HBR9.out.size))
  have HX7 := Lib.hid (And.intro (HX7.out.1.below' HBR9.out) ((HX7.out.2.below HBR9.out).more HBR9.out.size))
  have HX8 := Lib.hid (And.intro (HX8.out.1.below' HBR9.out) ((HX8.out.2.below HBR9.out).more HBR9.out.size))
  have e1 : (mv == mv) = true := by simp
  have e2 : (me == me) = true := by simp
  have e3 : (E6 == E6) = true := by simp
  have e4 : (E8 == E8) = true := by simp
  have e5 : (t6 == t6) = true := by simp
  have e6 : (tb == tb) = true := by simp
  go_upto_region 10 with fail
  try simp only [List.append]
  have hv0 : Below w95.heap.size w95 w95.drew := (Below.refl _ _).drew
  refine wp_region_held_drew (S := fun W => Below w95.heap.size w95 W) (by kernel_rfl) (hv0) (fun hHeld => ?_)
  refine rdyH [0] ?_
  refine AllReadyH.cons (o := oLp0) rfl (fun K hK => ?_) AllReadyH.nil
  unfold oLp0
  go_simp
  refine (HSN.out _).mono ?_
  rintro e w100 ⟨rfl, b100⟩
  have hv100 : Below w95.heap.size w95 w100 := hv0.trans (b100.mono hv0.size)
  clear b100
  refine hK.out _ _ (hv100) (fun hHeld => ?_)
  clear hK K
  try simp only [PT]
  refine tkH 1 oLp1 ?v1_1 (.inl ⟨by rfl, ?h1_1⟩) ?r1_1
  case h1_1 =>
   intro W hSW
   unfold oLp1
   try dsimp only at hSW
   go_simp
   try with_reducible rfl
  try simp only [oLp1, PT]
  refine tkH 2 oLp2 ?v2_2 (.inl ⟨by rfl, ?h2_2⟩) ?r2_2
  case h2_2 =>
   intro W hSW
   unfold oLp2
   try dsimp only at hSW
   go_simp
   try with_reducible rfl
  try simp only [oLp2, PT]
  refine tkH 3 oLp3 ?v3_3 (.inl ⟨by rfl, ?h3_3⟩) ?r3_3
  case h3_3 =>
   intro W hSW
   unfold oLp3
   try dsimp only at hSW
   go_simp
   try with_reducible rfl
  try simp only [oLp3, PT]
  refine tkH 4 oLp4 ?v4_4 (.inl ⟨by rfl, ?h4_4⟩) ?r4_4
  case h4_4 =>
   intro W hSW
   unfold oLp4
   try dsimp only at hSW
   go_simp
   try with_reducible rfl
  try simp only [oLp4, PT]
  refine tkH 5 oLp5 ?v5_5 (.inl ⟨by rfl, ?h5_5⟩) ?r5_5
  case h5_5 =>
   intro W hSW
   unfold oLp5
   try dsimp only at hSW
   go_simp
   try with_reducible rfl
  try simp only [oLp5, PT]
  refine tkH 6 oLp6 ?v6_6 (.inl ⟨by rfl, ?h6_6⟩) ?r6_6
  case h6_6 =>
   intro W hSW
   unfold oLp6
   try dsimp only at hSW
   go_simp
   try with_reducible rfl
  try simp only [oLp6, PT]
  refine tkH 7 oLp7 ?v7_7 (.inl ⟨by rfl, ?h7_7⟩) ?r7_7
  case h7_7 =>
   intro W hSW
   unfold oLp7
   try dsimp only at hSW
   go_simp
   try with_reducible rfl
  try simp only [oLp7, PT]
  refine tkH 8 oLp8 ?v8_8 (.inl ⟨by rfl, ?h8_8⟩) ?r8_8
  case h8_8 =>
   intro W hSW
   unfold oLp8
   try dsimp only at hSW
   go_simp
   try with_reducible rfl
  try simp only [oLp8, PT]
  refine tkH 9 oLp9 ?v9_9 (.inl ⟨by rfl, ?h9_9⟩) ?r9_9
  case h9_9 =>
   intro W hSW
   unfold oLp9
   try dsimp only at hSW
   go_simp
   try with_reducible rfl
  try simp only [oLp9, PT]
  refine tkH 10 oLp10 ?v10_10 (.inl ⟨by rfl, ?h10_10⟩) ?r10_10
  case h10_10 =>
   intro W hSW
   unfold oLp10
   try dsimp only at hSW
   go_simp
   try with_reducible rfl
  try simp only [oLp10, PT]
  refine tkH 11 oLp11 ?v11_11 (.inl ⟨by rfl, ?h11_11⟩) ?r11_11
  case h11_11 =>
   intro W hSW
   unfold oLp11
   try dsimp only at hSW
   go_simp
   try with_reducible rfl
  try simp only [oLp11, PT]
  refine tkH 12 oLp12 ((.agg #[.slice A6 N6 c6, .int .i64 H6])) (yieldsIf_load_mid (by rfl) 35 (.tmp 18) rfl b69 0 rfl [.slice A6 N6 c6, .int .i64 H6] _ (fun W hW q v hv => by rw [Nat.zero_add]; exact ((HX6.out.1.below' hW).cell q).trans hv) Tryz.underlying35 rfl sizeSP) ?_
  try simp only [oLp12, PT]
  refine tkH 14 oLp13 ((.agg #[.slice A7 N6 c7, .int .i64 H6])) (yieldsIf_load_mid (by rfl) 39 (.tmp 20) rfl b79 0 rfl [.slice A7 N6 c7, .int .i64 H6] _ (fun W hW q v hv => by rw [Nat.zero_add]; exact ((HX7.out.1.below' hW).cell q).trans hv) Tryz.underlying39 rfl sizeSR) ?_
  try simp only [oLp13, PT]
  refine rdyH [13] ?_
  refine AllReadyH.cons (o := oLp14) rfl (fun K hK => ?_) AllReadyH.nil
  unfold oLp14
  go_simp
  refine (own_any A6 N6 c6 H6 _).mono ?_
  rintro e w101 ⟨rfl, b101⟩
  have hv101 : Below w95.heap.size w95 w101 := hv100.trans (b101.mono hv100.size)
  clear b101
  refine hK.out _ _ (hv101) (fun hHeld => ?_)
  clear hK K
  try simp only [PT]
  refine rdyH [15] ?_
  refine AllReadyH.cons (o := oLp15) rfl (fun K hK => ?_) AllReadyH.nil
  unfold oLp15
  go_simp
  refine (same34_any A6 A7 c6 c7 N6 N6 X6 X6 H6 H6 _ HXN.out.1.1 HXN.out.1.1 (by have := HXN.out.1.2; unfold maxLen; omega) w95.heap.size w95.heap.size hv101.size hv101.size (HX6.out.2.below hv101) (HX7.out.2.below hv101) true (decide_eq_true ⟨rfl, rfl⟩)).mono ?_
  rintro e w102 ⟨rfl, b102⟩
  have hv102 : Below w95.heap.size w95 w102 := hv101.trans (b102.mono hv101.size)
  clear b102
  refine hK.out _ _ (hv102) (fun hHeld => ?_)
  clear hK K
  try simp only [PT]
  refine tkH 16 oLp16 ?v16_14 (.inl ⟨by rfl, ?h16_14⟩) ?r16_14
  case h16_14 =>
   intro W hSW
   unfold oLp16
   try dsimp only at hSW
   go_simp
   try with_reducible rfl
  try simp only [oLp16, PT]
  refine tkH 17 oLp17 ?v17_15 (.inl ⟨by rfl, ?h17_15⟩) ?r17_15
  case h17_15 =>
   intro W hSW
   unfold oLp17
   try dsimp only at hSW
   go_simp
   try with_reducible rfl
  try simp only [oLp17, PT]
  refine tkH 18 oLp18 ?v18_16 (.inl ⟨by rfl, ?h18_16⟩) ?r18_16
  case h18_16 =>
   intro W hSW
   unfold oLp18
   try dsimp only at hSW
   go_simp
   try with_reducible rfl
  try simp only [oLp18, PT]
  refine tkH 19 oLp19 ?v19_17 (.inl ⟨by rfl, ?h19_17⟩) ?r19_17
  case h19_17 =>
   intro W hSW
   unfold oLp19
   try dsimp only at hSW
   go_simp
   try with_reducible rfl
  try simp only [oLp19, PT]
  refine tkH 20 oLp20 ?v20_18 (.inl ⟨by rfl, ?h20_18⟩) ?r20_18
  case h20_18 =>
   intro W hSW
   unfold oLp20
   try dsimp only at hSW
   go_simp
   try with_reducible rfl
  try simp only [oLp20, PT]
  refine tkH 21 oLp21 ?v21_19 (.inl ⟨by rfl, ?h21_19⟩) ?r21_19
  case h21_19 =>
   intro W hSW
   unfold oLp21
   try dsimp only at hSW
   go_simp
   try with_reducible rfl
  try simp only [oLp21, PT]
  refine tkH 22 oLp22 ?v22_20 (.inl ⟨by rfl, ?h22_20⟩) ?r22_20
  case h22_20 =>
   intro W hSW
   unfold oLp22
   try dsimp only at hSW
   go_simp
   try with_reducible rfl
  try simp only [oLp22, PT]
  refine tkH 23 oLp23 ((.agg #[.slice A8 N8 c8, .int .i64 H8])) (yieldsIf_load_mid (by rfl) 35 (.tmp 22) rfl b89 0 rfl [.slice A8 N8 c8, .int .i64 H8] _ (fun W hW q v hv => by rw [Nat.zero_add]; exact ((HX8.out.1.below' hW).cell q).trans hv) Tryz.underlying35 rfl sizeSP) ?_
  try simp only [oLp23, PT]
  refine tkH 25 oLp24 ((.agg #[.slice A9 N8 c9, .int .i64 H8])) (yieldsIf_load_mid (by rfl) 39 (.tmp 24) rfl b99 0 rfl [.slice A9 N8 c9, .int .i64 H8] _ (fun W hW q v hv => by rw [Nat.zero_add]; exact ((HX9.out.1.below' hW).cell q).trans hv) Tryz.underlying39 rfl sizeSR) ?_
  try simp only [oLp24, PT]
  refine rdyH [24] ?_
  refine AllReadyH.cons (o := oLp25) rfl (fun K hK => ?_) AllReadyH.nil
  unfold oLp25
  go_simp
  refine (own_any A8 N8 c8 H8 _).mono ?_
  rintro e w103 ⟨rfl, b103⟩
  have hv103 : Below w95.heap.size w95 w103 := hv102.trans (b103.mono hv102.size)
  clear b103
  refine hK.out _ _ (hv103) (fun hHeld => ?_)
  clear hK K
  try simp only [PT]
  refine rdyH [26] ?_
  refine AllReadyH.cons (o := oLp26) rfl (fun K hK => ?_) AllReadyH.nil
  unfold oLp26
  go_simp
  refine (same34_any A8 A9 c8 c9 N8 N8 X8 X8 H8 H8 _ HXN.out.2.1 HXN.out.2.1 (by have := HXN.out.2.2; unfold maxLen; omega) w95.heap.size w95.heap.size hv103.size hv103.size (HX8.out.2.below hv103) (HX9.out.2.below hv103) true (decide_eq_true ⟨rfl, rfl⟩)).mono ?_
  rintro e w104 ⟨rfl, b104⟩
  have hv104 : Below w95.heap.size w95 w104 := hv103.trans (b104.mono hv103.size)
  clear b104
  refine hK.out _ _ (hv104) (fun hHeld => ?_)
  clear hK K
  try simp only [PT]
  refine tkH 27 oLp27 ?v27_23 (.inl ⟨by rfl, ?h27_23⟩) ?r27_23
  case h27_23 =>
   intro W hSW
   unfold oLp27
   try dsimp only at hSW
   go_simp
   try with_reducible rfl
  try simp only [oLp27, PT]
  refine tkH 28 oLp28 ?v28_24 (.inl ⟨by rfl, ?h28_24⟩) ?r28_24
  case h28_24 =>
   intro W hSW
   unfold oLp28
   try dsimp only at hSW
   go_simp
   try with_reducible rfl
  try simp only [oLp28, PT]
  refine tkH 29 oLp29 ?v29_25 (.inl ⟨by rfl, ?h29_25⟩) ?r29_25
  case h29_25 =>
   intro W hSW
   unfold oLp29
   try dsimp only at hSW
   go_simp
   try with_reducible rfl
  try simp only [oLp29, PT]
  refine tkH 30 oLp30 ?v30_26 (.inl ⟨by rfl, ?h30_26⟩) ?r30_26
  case h30_26 =>
   intro W hSW
   unfold oLp30
   try dsimp only at hSW
   go_simp
   try with_reducible rfl
  try simp only [oLp30, PT]
  refine tkH 31 oLp31 ?v31_27 (.inl ⟨by rfl, ?h31_27⟩) ?r31_27
  case h31_27 =>
   intro W hSW
   unfold oLp31
   try dsimp only at hSW
   go_simp
   try with_reducible rfl
  try simp only [oLp31, PT]
  refine tkH 32 oLp32 ?v32_28 (.inl ⟨by rfl, ?h32_28⟩) ?r32_28
  case h32_28 =>
   intro W hSW
   unfold oLp32
   try dsimp only at hSW
   go_simp
   try with_reducible rfl
  try simp only [oLp32, PT]
  refine tkH 33 oLp33 ?v33_29 (.inl ⟨by rfl, ?h33_29⟩) ?r33_29
  case h33_29 =>
   intro W hSW
   unfold oLp33
   try dsimp only at hSW
   go_simp
   try with_reducible rfl
  try simp only [oLp33, PT]
  refine tkH 34 oLp34 ((.agg #[.slice A6 N6 c6, .int .i64 H6])) (yieldsIf_load_mid (by rfl) 35 (.tmp 18) rfl b69 0 rfl [.slice A6 N6 c6, .int .i64 H6] _ (fun W hW q v hv => by rw [Nat.zero_add]; exact ((HX6.out.1.below' hW).cell q).trans hv) Tryz.underlying35 rfl sizeSP) ?_
  try simp only [oLp34, PT]
  refine tkH 36 oLp35 ((.agg #[.slice A7 N6 c7, .int .i64 H6])) (yieldsIf_load_mid (by rfl) 39 (.tmp 20) rfl b79 0 rfl [.slice A7 N6 c7, .int .i64 H6] _ (fun W hW q v hv => by rw [Nat.zero_add]; exact ((HX7.out.1.below' hW).cell q).trans hv) Tryz.underlying39 rfl sizeSR) ?_
  try simp only [oLp35, PT]
  refine rdyH [35] ?_
  refine AllReadyH.cons (o := oLp36) rfl (fun K hK => ?_) AllReadyH.nil
  unfold oLp36
  go_simp
  refine (ptot_any A6 N6 c6 X6 H6 _ HXN.out.1.1 (by have := HXN.out.1.2; unfold maxLen; omega) w95.heap.size hv104.size (HX6.out.2.below hv104)).mono ?_
  rw [HTT.out.1]
  rintro e w105 ⟨rfl, b105⟩
  have hv105 : Below w95.heap.size w95 w105 := hv104.trans (b105.mono hv104.size)
  clear b105
  refine hK.out _ _ (hv105) (fun hHeld => ?_)
  clear hK K
  try simp only [PT]
  refine rdyH [37] ?_
  refine AllReadyH.cons (o := oLp37) rfl (fun K hK => ?_) AllReadyH.nil
  unfold oLp37
  go_simp
  refine (rtot_any A7 N6 c7 X6 H6 _ HXN.out.1.1 (by have := HXN.out.1.2; unfold maxLen; omega) w95.heap.size hv105.size (HX7.out.2.below hv105)).mono ?_
  rw [HTT.out.1]
  rintro e w106 ⟨rfl, b106⟩
  have hv106 : Below w95.heap.size w95 w106 := hv105.trans (b106.mono hv105.size)
  clear b106
  refine hK.out _ _ (hv106) (fun hHeld => ?_)
  clear hK K
  try simp only [PT]
  refine tkH 38 oLp38 ?v38_32 (.inl ⟨by rfl, ?h38_32⟩) ?r38_32
  case h38_32 =>
   intro W hSW
   unfold oLp38
   try dsimp only at hSW
   go_simp
   try with_reducible rfl
  try simp only [oLp38, PT]
  refine tkH 39 oLp39 ?v39_33 (.inl ⟨by rfl, ?h39_33⟩) ?r39_33
  case h39_33 =>
   intro W hSW
   unfold oLp39
   try dsimp only at hSW
   go_simp
   try with_reducible rfl
  try simp only [oLp39, PT]
  refine tkH 40 oLp40 ?v40_34 (.inl ⟨by rfl, ?h40_34⟩) ?r40_34
  case h40_34 =>
   intro W hSW
   unfold oLp40
   try dsimp only at hSW
   go_simp
   try with_reducible rfl
  try simp only [oLp40, PT]
  refine tkH 41 oLp41 ?v41_35 (.inl ⟨by rfl, ?h41_35⟩) ?r41_35
  case h41_35 =>
   intro W hSW
   unfold oLp41
   try dsimp only at hSW
   go_simp
   try with_reducible rfl
  try simp only [oLp41, PT]
  refine tkH 42 oLp42 ?v42_36 (.inl ⟨by rfl, ?h42_36⟩) ?r42_36
  case h42_36 =>
   intro W hSW
   unfold oLp42
   try dsimp only at hSW
   go_simp
   try with_reducible rfl
  try simp only [oLp42, PT]
  refine rdyH [43] ?_
  refine AllReadyH.cons (o := oLp43) rfl (fun K hK => ?_) AllReadyH.nil
  unfold oLp43
  go_simp
  refine (tame_any A2 n2 c2 bs x4 _ HBL.out.1 HBL.out.2.1 w.heap.size (HBL.out.2.2.below ((HWV.out _ Hw95.out).trans (hv106.mono (HWV.out _ Hw95.out).size))) tq HTT.out.2.2).mono ?_
  rintro e w107 ⟨rfl, hw107⟩
  have hv107 : Below w95.heap.size w95 w107 := by rw [hw107]; exact hv106
  clear hw107
  have HTQ := two_q tq
  refine hK.out _ _ (hv107) (fun hHeld => ?_)
  clear hK K
  try simp only [PT]
  rcases HTQ with rfl | rfl
  ·
   skip
   refine tkH 44 oLp44 ?v44_37 (.inl ⟨by rfl, ?h44_37⟩) ?r44_37
   case h44_37 =>
    intro W hSW
    unfold oLp44
    try dsimp only at hSW
    go_simp
    try with_reducible rfl
   try simp only [oLp44, PT]
   refine tkH 45 oLp45 ?v45_38 (.inl ⟨by rfl, ?h45_38⟩) ?r45_38
   case h45_38 =>
    intro W hSW
    unfold oLp45
    try dsimp only at hSW
    go_simp
    try with_reducible rfl
   try simp only [oLp45, PT]
   refine tkH 46 oLp46 ?v46_39 (.inl ⟨by rfl, ?h46_39⟩) ?r46_39
   case h46_39 =>
    intro W hSW
    unfold oLp46
    try dsimp only at hSW
    go_simp
    try with_reducible rfl
   try simp only [oLp46, PT]
   refine tkH 47 oLp47 ?v47_40 (.inl ⟨by rfl, ?h47_40⟩) ?r47_40
   case h47_40 =>
    intro W hSW
    unfold oLp47
    try dsimp only at hSW
    go_simp
    try with_reducible rfl
   try simp only [oLp47, PT]
   refine tkH 48 oLp48 ?v48_41 (.inl ⟨by rfl, ?h48_41⟩) ?r48_41
   case h48_41 =>
    intro W hSW
    unfold oLp48
    try dsimp only at hSW
    go_simp
    try with_reducible rfl
   try simp only [oLp48, PT]
   refine tkH 50 oLp49 ?v50_42 (.inl ⟨by rfl, ?h50_42⟩) ?r50_42
   case h50_42 =>
    intro W hSW
    unfold oLp49
    try dsimp only at hSW
    go_simp
    try with_reducible rfl
   try simp only [oLp49, PT]
   refine tkH 51 oLp50 ?v51_43 (.inl ⟨by rfl, ?h51_43⟩) ?r51_43
   case h51_43 =>
    intro W hSW
    unfold oLp50
    try dsimp only at hSW
    go_simp
    try with_reducible rfl
   try simp only [oLp50, PT]
   refine tkH 52 oLp51 ?v52_44 (.inl ⟨by rfl, ?h52_44⟩) ?r52_44
   case h52_44 =>
    intro W hSW
    unfold oLp51
    try dsimp only at hSW
    go_simp
    try with_reducible rfl
   try simp only [oLp51, PT]
   refine rdyH [49] ?_
   refine AllReadyH.cons (o := oLp52) rfl (fun K hK => ?_) AllReadyH.nil
   unfold oLp52
   go_simp
   refine (ptot_any A2 n2 c2 bs x4 _ HBL.out.1 HBL.out.2.1 w.heap.size ((HWV.out _ Hw95.out).trans (hv107.mono (HWV.out _ Hw95.out).size)).size (HBL.out.2.2.below ((HWV.out _ Hw95.out).trans (hv107.mono (HWV.out _ Hw95.out).size)))).mono ?_
   rw [HTT.out.2.1]
   rintro e w108 ⟨rfl, b108⟩
   have hv108 : Below w95.heap.size w95 w108 := hv107.trans (b108.mono hv107.size)
   clear b108
   refine hK.out _ _ (hv108) (fun hHeld => ?_)
   clear hK K
   try simp only [PT]
   refine rdyH [53] ?_
   refine AllReadyH.cons (o := oLp53) rfl (fun K hK => ?_) AllReadyH.nil
   unfold oLp53
   go_simp
   refine (rtot_any A2 n2 c2 bs x4 _ HBL.out.1 HBL.out.2.1 w.heap.size ((HWV.out _ Hw95.out).trans (hv108.mono (HWV.out _ Hw95.out).size)).size (HBL.out.2.2.below ((HWV.out _ Hw95.out).trans (hv108.mono (HWV.out _ Hw95.out).size)))).mono ?_
   rw [HTT.out.2.1]
   rintro e w109 ⟨rfl, b109⟩
   have hv109 : Below w95.heap.size w95 w109 := hv108.trans (b109.mono hv108.size)
   clear b109
   refine hK.out _ _ (hv109) (fun hHeld => ?_)
   clear hK K
   try simp only [PT]
   refine tkH 54 oLp54 ?v54_45 (.inl ⟨by rfl, ?h54_45⟩) ?r54_45
   case h54_45 =>
    intro W hSW
    unfold oLp54
    try dsimp only at hSW
    go_simp
    try with_reducible rfl
   try simp only [oLp54, PT]
   refine tkH 55 oLp55 ?v55_46 (.inl ⟨by rfl, ?h55_46⟩) ?r55_46
   case h55_46 =>
    intro W hSW
    unfold oLp55
    try dsimp only at hSW
    go_simp
    try with_reducible rfl
   try simp only [oLp55, PT]
   refine tkH 56 oLp56 ?v56_47 (.inl ⟨by rfl, ?h56_47⟩) ?r56_47
   case h56_47 =>
    intro W hSW
    unfold oLp56
    try dsimp only at hSW
    go_simp
    try with_reducible rfl
   try simp only [oLp56, PT]
   refine tkH 57 oLp57 ?v57_48 (.inl ⟨by rfl, ?h57_48⟩) ?r57_48
   case h57_48 =>
    intro W hSW
    unfold oLp57
    try dsimp only at hSW
    go_simp
    try with_reducible rfl
   try simp only [oLp57, PT]
   refine wpAnyH_done (by kernel_rfl) ?_ _
   have HV9 := Lib.hid hv109
   go_wp2_with fail
   go_ret
   have q5 := HWV.out _ Hw95.out
   exact ⟨rfl, q5.trans (HV9.out.mono q5.size)⟩
  ·
   skip
   refine tkH 44 oLp44 ?v44_49 (.inl ⟨by rfl, ?h44_49⟩) ?r44_49
   case h44_49 =>
    intro W hSW
    unfold oLp44
    try dsimp only at hSW
    go_simp
    try with_reducible rfl
   try simp only [oLp44, PT]
   refine tkH 45 oLp45 ?v45_50 (.inl ⟨by rfl, ?h45_50⟩) ?r45_50
   case h45_50 =>
    intro W hSW
    unfold oLp45
    try dsimp only at hSW
    go_simp
    try with_reducible rfl
   try simp only [oLp45, PT]
   refine tkH 46 oLp46 undef (.inr ⟨by rfl, rfl⟩) ?_
   try simp only [oLp46, PT]
   refine tkH 47 oLp47 undef (.inr ⟨by rfl, rfl⟩) ?_
   try simp only [oLp47, PT]
   refine tkH 48 oLp48 undef (.inr ⟨by rfl, rfl⟩) ?_
   try simp only [oLp48, PT]
   refine tkH 49 oLp52 undef (.inr ⟨by rfl, rfl⟩) ?_
   try simp only [oLp52, PT]
   refine tkH 50 oLp49 undef (.inr ⟨by rfl, rfl⟩) ?_
   try simp only [oLp49, PT]
   refine tkH 51 oLp50 undef (.inr ⟨by rfl, rfl⟩) ?_
   try simp only [oLp50, PT]
   refine tkH 52 oLp51 undef (.inr ⟨by rfl, rfl⟩) ?_
   try simp only [oLp51, PT]
   refine tkH 53 oLp53 undef (.inr ⟨by rfl, rfl⟩) ?_
   try simp only [oLp53, PT]
   refine tkH 54 oLp54 undef (.inr ⟨by rfl, rfl⟩) ?_
   try simp only [oLp54, PT]
   refine tkH 55 oLp55 ?v55_60 (.inl ⟨by rfl, ?h55_60⟩) ?r55_60
   case h55_60 =>
    intro W hSW
    unfold oLp55
    try dsimp only at hSW
    go_simp
    try with_reducible rfl
   try simp only [oLp55, PT]
   refine tkH 56 oLp56 ?v56_61 (.inl ⟨by rfl, ?h56_61⟩) ?r56_61
   case h56_61 =>
    intro W hSW
    unfold oLp56
    try dsimp only at hSW
    go_simp
    try with_reducible rfl
   try simp only [oLp56, PT]
   refine tkH 57 oLp57 ?v57_62 (.inl ⟨by rfl, ?h57_62⟩) ?r57_62
   case h57_62 =>
    intro W hSW
    unfold oLp57
    try dsimp only at hSW
    go_simp
    try with_reducible rfl
   try simp only [oLp57, PT]
   refine wpAnyH_done (by kernel_rfl) ?_ _
   have HV9 := Lib.hid hv107
   go_wp2_with fail
   go_ret
   have q5 := HWV.out _ Hw95.out
   exact ⟨rfl, q5.trans (HV9.out.mono q5.size)⟩
end Go.Proofs.YtfllkaeaanahmaaGreat
