/- Layer 35's reference: its Close where its arguments fit. Conditions: at most 16 tenants; what is pending and paid at most 2^60; the tables of the digest are in memory. -/
import Derived.Test.YtkjomnakolhdcaaDoorHeld2
import Derived.Test.YtkjomnakolhdcaaDoorBilUA
import Derived.BigRegion
namespace Go.Proofs.YtkjomnakolhdcaaDoor
set_option linter.unusedVariables false
set_option linter.unusedSimpArgs false
open Go.RowKit
abbrev oU0 : Oper := { dst := some 92, op := Op.fieldAddr 31 (Operand.tmp 12) 3, type := 0, pos := "ref.go:104", after := #[], guard := none }
abbrev oU1 : Oper := { dst := some 93, op := Op.load 29 (Operand.tmp 92), type := 29, pos := "ref.go:104", after := #[{ on := 0, ground := Ground.data }], guard := none }
abbrev oU2 : Oper := { dst := some 94, op := Op.move (Operand.tmp 3), type := 29, pos := "ref.go:104", after := #[], guard := none }
abbrev oU3 : Oper := { dst := some 95, op := Op.move (Operand.tmp 13), type := 3, pos := "ref.go:104", after := #[], guard := none }
abbrev oU4 : Oper := { dst := some 96, op := Op.indexAddr 29 (Operand.tmp 94) (Operand.tmp 95), type := 0, pos := "ref.go:104", after := #[{ on := 2, ground := Ground.data }, { on := 3, ground := Ground.data }], guard := none }
abbrev oU5 : Oper := { dst := some 97, op := Op.load 3 (Operand.tmp 96), type := 3, pos := "ref.go:104", after := #[{ on := 4, ground := Ground.data }], guard := none }
abbrev oU6 : Oper := { dst := some 98, op := Op.buildSlice 29 1 #[(0, Operand.tmp 97)], type := 29, pos := "ref.go:104", after := #[{ on := 5, ground := Ground.data }], guard := none }
abbrev oU7 : Oper := { dst := some 99, op := Op.call { callee := Callee.builtin Builtin.append, args := #[Operand.tmp 93, Operand.tmp 98], argTypes := #[29, 29] }, type := 29, pos := "ref.go:104", after := #[{ on := 1, ground := Ground.data }, { on := 6, ground := Ground.data }], guard := none }
abbrev oU8 : Oper := { dst := some 100, op := Op.fieldAddr 31 (Operand.tmp 12) 3, type := 0, pos := "ref.go:104", after := #[{ on := 0, ground := Ground.phase }, { on := 1, ground := Ground.phase }, { on := 2, ground := Ground.phase }, { on := 3, ground := Ground.phase }, { on := 4, ground := Ground.phase }, { on := 5, ground := Ground.phase }, { on := 6, ground := Ground.phase }, { on := 7, ground := Ground.phase }], guard := none }
abbrev oU9 : Oper := { dst := none, op := Op.store 29 (Operand.tmp 100) (Operand.tmp 99), type := 0, pos := "ref.go:104", after := #[{ on := 8, ground := Ground.data }, { on := 7, ground := Ground.data }, { on := 7, ground := Ground.chain }, { on := 0, ground := Ground.phase }, { on := 1, ground := Ground.phase }, { on := 2, ground := Ground.phase }, { on := 3, ground := Ground.phase }, { on := 4, ground := Ground.phase }, { on := 5, ground := Ground.phase }, { on := 6, ground := Ground.phase }, { on := 7, ground := Ground.phase }], guard := none }
abbrev oU10 : Oper := { dst := some 107, op := Op.fieldAddr 31 (Operand.tmp 12) 5, type := 0, pos := "ref.go:106", after := #[], guard := none }
abbrev oU11 : Oper := { dst := some 108, op := Op.load 29 (Operand.tmp 107), type := 29, pos := "ref.go:106", after := #[{ on := 0, ground := Ground.data }], guard := none }
abbrev oU12 : Oper := { dst := some 109, op := Op.move (Operand.tmp 3), type := 29, pos := "ref.go:106", after := #[], guard := none }
abbrev oU13 : Oper := { dst := some 110, op := Op.move (Operand.tmp 13), type := 3, pos := "ref.go:106", after := #[], guard := none }
abbrev oU14 : Oper := { dst := some 111, op := Op.indexAddr 29 (Operand.tmp 109) (Operand.tmp 110), type := 0, pos := "ref.go:106", after := #[{ on := 2, ground := Ground.data }, { on := 3, ground := Ground.data }], guard := none }
abbrev oU15 : Oper := { dst := some 112, op := Op.load 3 (Operand.tmp 111), type := 3, pos := "ref.go:106", after := #[{ on := 4, ground := Ground.data }], guard := none }
abbrev oU16 : Oper := { dst := some 113, op := Op.move (Operand.tmp 14), type := 3, pos := "ref.go:106", after := #[], guard := none }
abbrev oU17 : Oper := { dst := some 114, op := Op.binOp BinOp.sub 3 (Operand.tmp 112) (Operand.tmp 113) 3, type := 3, pos := "ref.go:106", after := #[{ on := 5, ground := Ground.data }, { on := 6, ground := Ground.data }], guard := none }
abbrev oU18 : Oper := { dst := some 115, op := Op.buildSlice 29 1 #[(0, Operand.tmp 114)], type := 29, pos := "ref.go:106", after := #[{ on := 7, ground := Ground.data }], guard := none }
abbrev oU19 : Oper := { dst := some 116, op := Op.call { callee := Callee.builtin Builtin.append, args := #[Operand.tmp 108, Operand.tmp 115], argTypes := #[29, 29] }, type := 29, pos := "ref.go:106", after := #[{ on := 1, ground := Ground.data }, { on := 8, ground := Ground.data }], guard := none }
abbrev oU20 : Oper := { dst := some 117, op := Op.fieldAddr 31 (Operand.tmp 12) 5, type := 0, pos := "ref.go:106", after := #[{ on := 0, ground := Ground.phase }, { on := 1, ground := Ground.phase }, { on := 2, ground := Ground.phase }, { on := 3, ground := Ground.phase }, { on := 4, ground := Ground.phase }, { on := 5, ground := Ground.phase }, { on := 6, ground := Ground.phase }, { on := 7, ground := Ground.phase }, { on := 8, ground := Ground.phase }, { on := 9, ground := Ground.phase }], guard := none }
abbrev oU21 : Oper := { dst := none, op := Op.store 29 (Operand.tmp 117) (Operand.tmp 116), type := 0, pos := "ref.go:106", after := #[{ on := 10, ground := Ground.data }, { on := 9, ground := Ground.data }, { on := 9, ground := Ground.chain }, { on := 0, ground := Ground.phase }, { on := 1, ground := Ground.phase }, { on := 2, ground := Ground.phase }, { on := 3, ground := Ground.phase }, { on := 4, ground := Ground.phase }, { on := 5, ground := Ground.phase }, { on := 6, ground := Ground.phase }, { on := 7, ground := Ground.phase }, { on := 8, ground := Ground.phase }, { on := 9, ground := Ground.phase }], guard := none }
abbrev oU22 : Oper := { dst := some 123, op := Op.move (Operand.tmp 0), type := 40, pos := "ref.go:108", after := #[], guard := none }
abbrev oU23 : Oper := { dst := some 124, op := Op.nilCheck (Operand.tmp 123), type := 0, pos := "ref.go:108", after := #[{ on := 0, ground := Ground.data }], guard := none }
abbrev oU24 : Oper := { dst := some 125, op := Op.fieldAddr 76 (Operand.tmp 124) 3, type := 0, pos := "ref.go:108", after := #[{ on := 1, ground := Ground.data }], guard := none }
abbrev oU25 : Oper := { dst := some 126, op := Op.load 29 (Operand.tmp 125), type := 29, pos := "ref.go:108", after := #[{ on := 2, ground := Ground.data }], guard := none }
abbrev oU26 : Oper := { dst := some 127, op := Op.move (Operand.tmp 13), type := 3, pos := "ref.go:108", after := #[], guard := none }
abbrev oU27 : Oper := { dst := some 128, op := Op.move (Operand.tmp 0), type := 40, pos := "ref.go:108", after := #[], guard := none }
abbrev oU28 : Oper := { dst := some 129, op := Op.nilCheck (Operand.tmp 128), type := 0, pos := "ref.go:108", after := #[{ on := 5, ground := Ground.data }], guard := none }
abbrev oU29 : Oper := { dst := some 130, op := Op.fieldAddr 76 (Operand.tmp 129) 3, type := 0, pos := "ref.go:108", after := #[{ on := 6, ground := Ground.data }], guard := none }
abbrev oU30 : Oper := { dst := some 131, op := Op.load 29 (Operand.tmp 130), type := 29, pos := "ref.go:108", after := #[{ on := 7, ground := Ground.data }], guard := none }
abbrev oU31 : Oper := { dst := some 132, op := Op.move (Operand.tmp 13), type := 3, pos := "ref.go:108", after := #[], guard := none }
abbrev oU32 : Oper := { dst := some 133, op := Op.indexAddr 29 (Operand.tmp 131) (Operand.tmp 132), type := 0, pos := "ref.go:108", after := #[{ on := 8, ground := Ground.data }, { on := 9, ground := Ground.data }], guard := none }
abbrev oU33 : Oper := { dst := some 134, op := Op.load 3 (Operand.tmp 133), type := 3, pos := "ref.go:108", after := #[{ on := 10, ground := Ground.data }], guard := none }
abbrev oU34 : Oper := { dst := some 135, op := Op.move (Operand.tmp 14), type := 3, pos := "ref.go:108", after := #[], guard := none }
abbrev oU35 : Oper := { dst := some 136, op := Op.binOp BinOp.sub 3 (Operand.tmp 134) (Operand.tmp 135) 3, type := 3, pos := "ref.go:108", after := #[{ on := 11, ground := Ground.data }, { on := 12, ground := Ground.data }], guard := none }
abbrev oU36 : Oper := { dst := some 137, op := Op.indexAddr 29 (Operand.tmp 126) (Operand.tmp 127), type := 0, pos := "ref.go:108", after := #[{ on := 3, ground := Ground.data }, { on := 4, ground := Ground.data }, { on := 0, ground := Ground.phase }, { on := 1, ground := Ground.phase }, { on := 2, ground := Ground.phase }, { on := 3, ground := Ground.phase }, { on := 4, ground := Ground.phase }, { on := 5, ground := Ground.phase }, { on := 6, ground := Ground.phase }, { on := 7, ground := Ground.phase }, { on := 8, ground := Ground.phase }, { on := 9, ground := Ground.phase }, { on := 10, ground := Ground.phase }, { on := 11, ground := Ground.phase }, { on := 12, ground := Ground.phase }, { on := 13, ground := Ground.phase }], guard := none }
abbrev oU37 : Oper := { dst := none, op := Op.store 3 (Operand.tmp 137) (Operand.tmp 136), type := 0, pos := "ref.go:108", after := #[{ on := 14, ground := Ground.data }, { on := 13, ground := Ground.data }, { on := 0, ground := Ground.phase }, { on := 1, ground := Ground.phase }, { on := 2, ground := Ground.phase }, { on := 3, ground := Ground.phase }, { on := 4, ground := Ground.phase }, { on := 5, ground := Ground.phase }, { on := 6, ground := Ground.phase }, { on := 7, ground := Ground.phase }, { on := 8, ground := Ground.phase }, { on := 9, ground := Ground.phase }, { on := 10, ground := Ground.phase }, { on := 11, ground := Ground.phase }, { on := 12, ground := Ground.phase }, { on := 13, ground := Ground.phase }], guard := none }
abbrev oU38 : Oper := { dst := some 138, op := Op.move (Operand.tmp 0), type := 40, pos := "ref.go:109", after := #[], guard := none }
abbrev oU39 : Oper := { dst := some 139, op := Op.nilCheck (Operand.tmp 138), type := 0, pos := "ref.go:109", after := #[{ on := 0, ground := Ground.data }], guard := none }
abbrev oU40 : Oper := { dst := some 140, op := Op.fieldAddr 76 (Operand.tmp 139) 4, type := 0, pos := "ref.go:109", after := #[{ on := 1, ground := Ground.data }], guard := none }
abbrev oU41 : Oper := { dst := some 141, op := Op.load 29 (Operand.tmp 140), type := 29, pos := "ref.go:109", after := #[{ on := 2, ground := Ground.data }], guard := none }
abbrev oU42 : Oper := { dst := some 142, op := Op.move (Operand.tmp 13), type := 3, pos := "ref.go:109", after := #[], guard := none }
abbrev oU43 : Oper := { dst := some 143, op := Op.move (Operand.tmp 0), type := 40, pos := "ref.go:109", after := #[], guard := none }
abbrev oU44 : Oper := { dst := some 144, op := Op.nilCheck (Operand.tmp 143), type := 0, pos := "ref.go:109", after := #[{ on := 5, ground := Ground.data }], guard := none }
abbrev oU45 : Oper := { dst := some 145, op := Op.fieldAddr 76 (Operand.tmp 144) 4, type := 0, pos := "ref.go:109", after := #[{ on := 6, ground := Ground.data }], guard := none }
abbrev oU46 : Oper := { dst := some 146, op := Op.load 29 (Operand.tmp 145), type := 29, pos := "ref.go:109", after := #[{ on := 7, ground := Ground.data }], guard := none }
abbrev oU47 : Oper := { dst := some 147, op := Op.move (Operand.tmp 13), type := 3, pos := "ref.go:109", after := #[], guard := none }
abbrev oU48 : Oper := { dst := some 148, op := Op.indexAddr 29 (Operand.tmp 146) (Operand.tmp 147), type := 0, pos := "ref.go:109", after := #[{ on := 8, ground := Ground.data }, { on := 9, ground := Ground.data }], guard := none }
abbrev oU49 : Oper := { dst := some 149, op := Op.load 3 (Operand.tmp 148), type := 3, pos := "ref.go:109", after := #[{ on := 10, ground := Ground.data }], guard := none }
abbrev oU50 : Oper := { dst := some 150, op := Op.move (Operand.tmp 3), type := 29, pos := "ref.go:109", after := #[], guard := none }
abbrev oU51 : Oper := { dst := some 151, op := Op.move (Operand.tmp 13), type := 3, pos := "ref.go:109", after := #[], guard := none }
abbrev oU52 : Oper := { dst := some 152, op := Op.indexAddr 29 (Operand.tmp 150) (Operand.tmp 151), type := 0, pos := "ref.go:109", after := #[{ on := 12, ground := Ground.data }, { on := 13, ground := Ground.data }], guard := none }
abbrev oU53 : Oper := { dst := some 153, op := Op.load 3 (Operand.tmp 152), type := 3, pos := "ref.go:109", after := #[{ on := 14, ground := Ground.data }], guard := none }
abbrev oU54 : Oper := { dst := some 154, op := Op.binOp BinOp.add 3 (Operand.tmp 149) (Operand.tmp 153) 3, type := 3, pos := "ref.go:109", after := #[{ on := 11, ground := Ground.data }, { on := 15, ground := Ground.data }], guard := none }
abbrev oU55 : Oper := { dst := some 155, op := Op.move (Operand.tmp 14), type := 3, pos := "ref.go:109", after := #[], guard := none }
abbrev oU56 : Oper := { dst := some 156, op := Op.binOp BinOp.sub 3 (Operand.tmp 154) (Operand.tmp 155) 3, type := 3, pos := "ref.go:109", after := #[{ on := 16, ground := Ground.data }, { on := 17, ground := Ground.data }], guard := none }
abbrev oU57 : Oper := { dst := some 157, op := Op.indexAddr 29 (Operand.tmp 141) (Operand.tmp 142), type := 0, pos := "ref.go:109", after := #[{ on := 3, ground := Ground.data }, { on := 4, ground := Ground.data }, { on := 0, ground := Ground.phase }, { on := 1, ground := Ground.phase }, { on := 2, ground := Ground.phase }, { on := 3, ground := Ground.phase }, { on := 4, ground := Ground.phase }, { on := 5, ground := Ground.phase }, { on := 6, ground := Ground.phase }, { on := 7, ground := Ground.phase }, { on := 8, ground := Ground.phase }, { on := 9, ground := Ground.phase }, { on := 10, ground := Ground.phase }, { on := 11, ground := Ground.phase }, { on := 12, ground := Ground.phase }, { on := 13, ground := Ground.phase }, { on := 14, ground := Ground.phase }, { on := 15, ground := Ground.phase }, { on := 16, ground := Ground.phase }, { on := 17, ground := Ground.phase }, { on := 18, ground := Ground.phase }], guard := none }
abbrev oU58 : Oper := { dst := none, op := Op.store 3 (Operand.tmp 157) (Operand.tmp 156), type := 0, pos := "ref.go:109", after := #[{ on := 19, ground := Ground.data }, { on := 18, ground := Ground.data }, { on := 0, ground := Ground.phase }, { on := 1, ground := Ground.phase }, { on := 2, ground := Ground.phase }, { on := 3, ground := Ground.phase }, { on := 4, ground := Ground.phase }, { on := 5, ground := Ground.phase }, { on := 6, ground := Ground.phase }, { on := 7, ground := Ground.phase }, { on := 8, ground := Ground.phase }, { on := 9, ground := Ground.phase }, { on := 10, ground := Ground.phase }, { on := 11, ground := Ground.phase }, { on := 12, ground := Ground.phase }, { on := 13, ground := Ground.phase }, { on := 14, ground := Ground.phase }, { on := 15, ground := Ground.phase }, { on := 16, ground := Ground.phase }, { on := 17, ground := Ground.phase }, { on := 18, ground := Ground.phase }], guard := none }
abbrev oU59 : Oper := { dst := some 165, op := Op.move (Operand.tmp 0), type := 40, pos := "ref.go:112", after := #[], guard := none }
abbrev oU60 : Oper := { dst := some 166, op := Op.move (Operand.tmp 0), type := 40, pos := "ref.go:112", after := #[], guard := none }
abbrev oU61 : Oper := { dst := some 167, op := Op.nilCheck (Operand.tmp 166), type := 0, pos := "ref.go:112", after := #[{ on := 1, ground := Ground.data }], guard := none }
abbrev oU62 : Oper := { dst := some 168, op := Op.fieldAddr 76 (Operand.tmp 167) 5, type := 0, pos := "ref.go:112", after := #[{ on := 2, ground := Ground.data }], guard := none }
abbrev oU63 : Oper := { dst := some 169, op := Op.load 74 (Operand.tmp 168), type := 74, pos := "ref.go:112", after := #[{ on := 3, ground := Ground.data }], guard := none }
abbrev oU64 : Oper := { dst := some 170, op := Op.load 31 (Operand.tmp 12), type := 31, pos := "ref.go:112", after := #[], guard := none }
abbrev oU65 : Oper := { dst := some 171, op := Op.buildSlice 74 1 #[(0, Operand.tmp 170)], type := 74, pos := "ref.go:112", after := #[{ on := 5, ground := Ground.data }], guard := none }
abbrev oU66 : Oper := { dst := some 172, op := Op.call { callee := Callee.builtin Builtin.append, args := #[Operand.tmp 169, Operand.tmp 171], argTypes := #[74, 74] }, type := 74, pos := "ref.go:112", after := #[{ on := 4, ground := Ground.data }, { on := 6, ground := Ground.data }], guard := none }
abbrev oU67 : Oper := { dst := some 173, op := Op.nilCheck (Operand.tmp 165), type := 0, pos := "ref.go:112", after := #[{ on := 0, ground := Ground.data }, { on := 0, ground := Ground.phase }, { on := 1, ground := Ground.phase }, { on := 2, ground := Ground.phase }, { on := 3, ground := Ground.phase }, { on := 4, ground := Ground.phase }, { on := 5, ground := Ground.phase }, { on := 6, ground := Ground.phase }, { on := 7, ground := Ground.phase }], guard := none }
abbrev oU68 : Oper := { dst := some 174, op := Op.fieldAddr 76 (Operand.tmp 173) 5, type := 0, pos := "ref.go:112", after := #[{ on := 8, ground := Ground.data }, { on := 0, ground := Ground.phase }, { on := 1, ground := Ground.phase }, { on := 2, ground := Ground.phase }, { on := 3, ground := Ground.phase }, { on := 4, ground := Ground.phase }, { on := 5, ground := Ground.phase }, { on := 6, ground := Ground.phase }, { on := 7, ground := Ground.phase }], guard := none }
abbrev oU69 : Oper := { dst := none, op := Op.store 74 (Operand.tmp 174) (Operand.tmp 172), type := 0, pos := "ref.go:112", after := #[{ on := 9, ground := Ground.data }, { on := 7, ground := Ground.data }, { on := 7, ground := Ground.chain }, { on := 0, ground := Ground.phase }, { on := 1, ground := Ground.phase }, { on := 2, ground := Ground.phase }, { on := 3, ground := Ground.phase }, { on := 4, ground := Ground.phase }, { on := 5, ground := Ground.phase }, { on := 6, ground := Ground.phase }, { on := 7, ground := Ground.phase }], guard := none }
abbrev oU70 : Oper := { dst := some 175, op := Op.move (Operand.tmp 0), type := 40, pos := "ref.go:113", after := #[], guard := none }
abbrev oU71 : Oper := { dst := some 176, op := Op.move (Operand.tmp 0), type := 40, pos := "ref.go:113", after := #[], guard := none }
abbrev oU72 : Oper := { dst := some 177, op := Op.nilCheck (Operand.tmp 176), type := 0, pos := "ref.go:113", after := #[{ on := 1, ground := Ground.data }], guard := none }
abbrev oU73 : Oper := { dst := some 178, op := Op.fieldAddr 76 (Operand.tmp 177) 6, type := 0, pos := "ref.go:113", after := #[{ on := 2, ground := Ground.data }], guard := none }
abbrev oU74 : Oper := { dst := some 179, op := Op.load 39 (Operand.tmp 178), type := 39, pos := "ref.go:113", after := #[{ on := 3, ground := Ground.data }], guard := none }
abbrev oU75 : Oper := { dst := some 180, op := Op.move (Operand.tmp 0), type := 40, pos := "ref.go:113", after := #[], guard := none }
abbrev oU76 : Oper := { dst := some 181, op := Op.nilCheck (Operand.tmp 180), type := 0, pos := "ref.go:113", after := #[{ on := 5, ground := Ground.data }], guard := none }
abbrev oU77 : Oper := { dst := some 182, op := Op.fieldAddr 76 (Operand.tmp 181) 0, type := 0, pos := "ref.go:113", after := #[{ on := 6, ground := Ground.data }], guard := none }
abbrev oU78 : Oper := { dst := some 183, op := Op.load 3 (Operand.tmp 182), type := 3, pos := "ref.go:113", after := #[{ on := 7, ground := Ground.data }], guard := none }
abbrev oU79 : Oper := { dst := some 184, op := Op.makeSlice 29 (Operand.tmp 183) (Operand.tmp 183), type := 29, pos := "ref.go:113", after := #[{ on := 8, ground := Ground.data }, { on := 8, ground := Ground.data }], guard := none }
abbrev oU80 : Oper := { dst := some 185, op := Op.buildSlice 39 1 #[(0, Operand.tmp 184)], type := 39, pos := "ref.go:113", after := #[{ on := 9, ground := Ground.data }], guard := none }
abbrev oU81 : Oper := { dst := some 186, op := Op.call { callee := Callee.builtin Builtin.append, args := #[Operand.tmp 179, Operand.tmp 185], argTypes := #[39, 39] }, type := 39, pos := "ref.go:113", after := #[{ on := 4, ground := Ground.data }, { on := 10, ground := Ground.data }], guard := none }
abbrev oU82 : Oper := { dst := some 187, op := Op.nilCheck (Operand.tmp 175), type := 0, pos := "ref.go:113", after := #[{ on := 0, ground := Ground.data }, { on := 0, ground := Ground.phase }, { on := 1, ground := Ground.phase }, { on := 2, ground := Ground.phase }, { on := 3, ground := Ground.phase }, { on := 4, ground := Ground.phase }, { on := 5, ground := Ground.phase }, { on := 6, ground := Ground.phase }, { on := 7, ground := Ground.phase }, { on := 8, ground := Ground.phase }, { on := 9, ground := Ground.phase }, { on := 10, ground := Ground.phase }, { on := 11, ground := Ground.phase }], guard := none }
abbrev oU83 : Oper := { dst := some 188, op := Op.fieldAddr 76 (Operand.tmp 187) 6, type := 0, pos := "ref.go:113", after := #[{ on := 12, ground := Ground.data }, { on := 0, ground := Ground.phase }, { on := 1, ground := Ground.phase }, { on := 2, ground := Ground.phase }, { on := 3, ground := Ground.phase }, { on := 4, ground := Ground.phase }, { on := 5, ground := Ground.phase }, { on := 6, ground := Ground.phase }, { on := 7, ground := Ground.phase }, { on := 8, ground := Ground.phase }, { on := 9, ground := Ground.phase }, { on := 10, ground := Ground.phase }, { on := 11, ground := Ground.phase }], guard := none }
abbrev oU84 : Oper := { dst := none, op := Op.store 39 (Operand.tmp 188) (Operand.tmp 186), type := 0, pos := "ref.go:113", after := #[{ on := 13, ground := Ground.data }, { on := 11, ground := Ground.data }, { on := 11, ground := Ground.chain }, { on := 0, ground := Ground.phase }, { on := 1, ground := Ground.phase }, { on := 2, ground := Ground.phase }, { on := 3, ground := Ground.phase }, { on := 4, ground := Ground.phase }, { on := 5, ground := Ground.phase }, { on := 6, ground := Ground.phase }, { on := 7, ground := Ground.phase }, { on := 8, ground := Ground.phase }, { on := 9, ground := Ground.phase }, { on := 10, ground := Ground.phase }, { on := 11, ground := Ground.phase }], guard := none }
set_option maxRecDepth 100000 in
set_option maxHeartbeats 40000000 in
theorem rclose_good (bl : Nat) (col : Nat → Nat) (m : RM) (l : Bil.Lg) (md hs : Int) (A : Option Addr) (n0 c : Nat) (C : List Int) (hC : C.length = n0) (B : Nat) (w : World) (h : RAt w bl col m l) (hO : Bil.Ok l) (hS : Bil.Sm l 1152921504606846976) (hT : RTab w) (hTb : Tabs w) (rd : Rd w B 1 A n0 (ivs C)) (hB : B ≤ w.heap.size) (hA : ∀ a, A = some a → col a.block = 0)
  (hok : Bil.CloseOk l md hs C) :
  Calls Tryd.prog 19 #[.pointer (some ⟨bl, 0, none⟩), .int .i64 md, .int .i64 hs, .slice A n0 c] w (RCloseRes w bl col l md hs C) := by
 have hn0 : n0 = l.n := by rw [← hC]; exact hok.1
 subst hn0
 obtain ⟨bA, offA, rfl, hbA, _⟩ := rd_int rd hC (by have := h.n1; omega)
 have HUL := Lib.hid (Bil.used_len (c := C) (p := l.pending) (by rw [hC, h.lp]))
 have HTL := Lib.hid (Bil.net_len (c := C) (p := l.pending) (by rw [hC, h.lp]))
 have HUG := Lib.hid (fun (j : Nat) (hj : j < l.n) => Bil.used_get (c := C) (p := l.pending) (by rw [hC, h.lp]) (t := j) (by rw [hC]; exact hj))
 have HTG := Lib.hid (fun (j : Nat) (hj : j < l.n) => Bil.net_get (c := C) (p := l.pending) (by rw [hC, h.lp]) (t := j) (by rw [hC]; exact hj))
 obtain ⟨U, hU⟩ : ∃ x, Bil.usedL C l.pending = x := ⟨_, rfl⟩
 rw [hU] at HUL HUG HTL HTG
 obtain ⟨T, hT'⟩ : ∃ x, Bil.netL C U = x := ⟨_, rfl⟩
 rw [hT'] at HTL HTG
 have HUT := Lib.hid (And.intro hU hT')
 have HCZ : Hid (∀ q, col q ≠ 0 → q < w.heap.size) := Lib.hid h.lt
 clear hU hT'
 have q8 := IsRow.new w 31 Z6
 have hb8 : Below w.heap.size w (w.alloc (.cells Z6.toArray 31)) := (Below.refl _ _).alloc (Nat.le_refl _) _
 obtain ⟨w8, hw8⟩ : ∃ x, w.alloc (.cells Z6.toArray 31) = x := ⟨_, rfl⟩
 rw [hw8] at q8 hb8
 have HW8 := Lib.hid (show w.alloc (.cells #[.int .i64 0, .int .i64 0, .int .i64 0, .slice none 0 0, .slice none 0 0, .slice none 0 0] 31) = w8 from hw8)
 have rd8 := rd.below (hb8.mono hB)
 have c0 : w8.cell? ⟨bl, 0, none⟩ = some (.int .i64 (l.n : Int)) := (h.below hb8).row.cell 0
 have c1 : w8.cell? ⟨bl, 1, none⟩ = some (.int .i64 (l.periods : Int)) := (h.below hb8).row.cell 1
 have HB8 := Lib.hid hb8
 obtain ⟨b8, hb8'⟩ : ∃ x, w.heap.size = x := ⟨_, rfl⟩
 have HBE := Lib.hid hb8'
 rw [hb8'] at q8
 have HQ8 := Lib.hid q8
 have HF := Lib.hid (fun x W => rfits_any x W)
 have HC := Lib.hid hC
 have HR := Lib.hid rd8
 have HRD := Lib.hid rd
 have HH := Lib.hid h
 have HOK := Lib.hid hok
 have HO := Lib.hid hO
 have HSM := Lib.hid hS
 have HTT := Lib.hid hT
 have HTB := Lib.hid hTb
 have HBB := Lib.hid hB
 have HA := Lib.hid hA
 have hhs := fits_range hok.2.2.1
 have hmdf := hok.2.1
 have hhsf := hok.2.2.1
 have hfC : ∀ j, j < l.n → Bil.fits (C.getD j 0) = true := fun j hj => hok.2.2.2.1 _ (Bil.getD_mem (by omega))
 have hsum : hs + sumK C l.n = md := by have := hok.2.2.2.2; unfold sumK; rw [List.take_of_length_le (by omega)]; exact this
 have HFC := Lib.hid hfC
 have HSUM := Lib.hid hsum
 have HHS := Lib.hid hhs
 have HN := Lib.hid (And.intro h.n1 h.n2)
 obtain ⟨N, hN⟩ : ∃ x, l.n = x := ⟨_, rfl⟩
 have HPER := Lib.hid h.per
 obtain ⟨P, hP⟩ : ∃ x, l.periods = x := ⟨_, rfl⟩
 rw [hP] at c1
 rw [hN] at c0
 have HPP := Lib.hid hP
 have HNN := Lib.hid hN
 rw [hN]
 clear h hO hS hT hTb rd hB hA hok hw8 q8 hb8 hb8' rd8 hC hhs hfC hsum hN hP
 go_enter Tryd.func19, Tryd.ntmps19
 go_upto_region 1 with fail
 rw [show _ = w8 from HW8.out, show w.heap.size = b8 from HBE.out]
 go_upto_region 3 with (first
  | (have hgd := hm1; go_at_call 38; refine (HF.out hs _).mono ?_; rintro e w2 ⟨rfl, hw2⟩; rw [hw2, hhsf]; clear hw2 w2)
  | (go_at_call 38; refine (HF.out md _).mono ?_; rintro e w2 ⟨rfl, hw2⟩; rw [hw2, hmdf]; clear hw2 w2; have hm1 := Lib.hid True.intro))
 clear hmdf hhsf
 go_wp2_with fail
 go_loopw [10, 11] (fun u10 u11 wr => ∃ k : Nat, k ≤ N ∧ u11 = .int .i64 k ∧ u10 = .int .i64 (hs + sumK C k) ∧ wr = w8) (fun _ u11 _ => N - (intOf u11).toNat)
 case atStart => exact ⟨0, Nat.zero_le _, rfl, by simp [sumK], rfl⟩
 case round =>
  obtain ⟨k, hk, rfl, rfl, hwr⟩ := hrel
  rw [hwr]
  clear hwr
  by_cases hlt : k < N
  ·
   obtain ⟨b, off, hAA, _, hc⟩ := rd_int HR.out HC.out (by have := HN.out; omega)
   rw [hAA]
   have hck := hc k (by have := HNN.out; omega)
   have i0 : (0 : Int) ≤ (k : Int) := by omega
   have i1 : (k : Int) < (N : Int) := by omega
   obtain ⟨x, hx⟩ : ∃ x, C.getD k 0 = x := ⟨_, rfl⟩
   have ef := HFC.out k (by have := HNN.out; omega)
   rw [hx] at hck ef
   have HX := Lib.hid hx
   have hhs := HHS.out
   have hsk := sumK_bound C k (by have := HC.out; have := HNN.out; omega) (fun j hj => HFC.out j (by have := HNN.out; omega))
   have hfx := fits_range ef
   have hstep := sumK_step C k (by have := HC.out; have := HNN.out; omega)
   rw [hx] at hstep
   obtain ⟨s, hs'⟩ : ∃ s, hs + sumK C k = s := ⟨_, rfl⟩
   rw [hs']
   obtain ⟨sx, hsx⟩ : ∃ y, s + x = y := ⟨_, rfl⟩
   have hn16 := HN.out.2
   have hNN := HNN.out
   have m1 : IntKind.i64.wrap (s + x) = sx := by rw [hsx]; exact IntWalk.i64_in _ (by omega)
   have HS' := Lib.hid (show hs + sumK C (k + 1) = sx from by omega)
   clear hc hx hhs hsk hfx hstep hs' hsx hAA
   rw [hNN] at hn16
   clear hNN
   go_wp2_with (go_at_call 38; refine (HF.out x _).mono ?_; rintro e w2 ⟨rfl, hw2⟩; rw [hw2, ef]; clear hw2 w2)
   go_roundw
   case rel => exact ⟨k + 1, by omega, by go_num, by rw [HS'.out], trivial⟩
   case measure => simp [intOf]; omega
  ·
   obtain rfl : N = k := by omega
   have hse : hs + sumK C N = md := by have := HSUM.out; rwa [HNN.out] at this
   rw [hse]
   clear hse
   by_cases hpl : 65536 ≤ P
   ·
    have hpl' : (65536 : Int) ≤ (P : Int) := by omega
    go_wp2_with (refine wpList_storeRow rfl _ (.tmp 8) (.tmp 64) rfl (l' := Z6) HQ8.out rfl rfl size6 rfl rfl ?_; intro w9 r9 g9 z9)
    exact bodyPost_ret (resultRowST rfl _ _ r9 rfl Tryd.underlying31 size6) rfl (.inl ⟨by rw [HPP.out]; exact hpl, rfl, HB8.out.grown g9 HB8.out.size (by intro j hj; have hj := Option.some.inj hj; have := HBE.out; omega)⟩)
   ·
    have HPL : Hid (P < 65536) := Lib.hid (by omega)
    have n1 : ¬ ((65536 : Int) ≤ (P : Int)) := by omega
    have n2 : decide ((65536 : Int) ≤ (P : Int)) = false := decide_eq_false n1
    have n3 : decide (65536 ≤ P) = false := decide_eq_false hpl
    clear hpl
    go_upto_region 15 with (first
     | (have hgd := r10; refine wpList_storeRow rfl _ (.tmp 12) (.tmp 71) rfl (l' := [.int .i64 (P : Int), .int .i64 md, .int .i64 hs, .slice none 0 0, .slice none 0 0, .slice none 0 0]) r10 rfl rfl size6 rfl rfl ?_; intro w14 r14 g14 z14)
     | (refine wpList_allocRow rfl _ rfl _ info6 ?_; intro w10 r10 b10 z10))
    have hb10 : Below w8.heap.size w8 w10 := b10
    obtain ⟨b12, hb12⟩ : ∃ x, w8.heap.size = x := ⟨_, rfl⟩
    have hz8 : b8 < w8.heap.size := HQ8.out.lt
    have hzb := HB8.out.size
    rw [hb12] at r10 r14 g14 z10 ⊢
    have q14 : IsRow w14 b8 31 Z6 := (HQ8.out.below' b10).grown g14 (by intro e; have := Option.some.inj e; omega)
    have hbw10 := HB8.out.trans (b10.mono HB8.out.size)
    have hbw14 : Below w.heap.size w w14 := hbw10.grown g14 hbw10.size (by intro j hj; have hj := Option.some.inj hj; omega)
    have hl14 := r14.lt
    have hz14 := hbw14.size
    have hc0 : RCSt w14 w14 bl b12 w14.heap.size w.heap.size B col m l [.int .i64 (l.periods : Int), .int .i64 md, .int .i64 hs, .slice none 0 0, .slice none 0 0, .slice none 0 0] none 0 0 [] none 0 0 [] none 0 0 [] (some ⟨bA, offA, none⟩) N C :=
     ⟨HH.out.below hbw14, by rw [HPP.out]; exact r14, World.ownsRow_nil _ _ _ _, World.ownsRow_nil _ _ _ _, World.ownsRow_nil _ _ _ _, (fun a b ha => by cases ha), (fun a b ha => by cases ha), (fun a b ha => by cases ha), by have := HRD.out.below (hbw14.mono HBB.out); rwa [HNN.out] at this, HA.out, Keep.refl _ _, HBB.out, by omega, Nat.le_refl _, by omega, Nat.le_refl _, HCZ.out⟩
    have HC0 := Lib.hid hc0
    have HW14 := Lib.hid hbw14
    have HQ14 := Lib.hid q14
    have HG15 : Hid (b8 < b12 ∧ w.heap.size ≤ b8 ∧ b12 < w14.heap.size) := Lib.hid (by have := HBE.out; omega)
    clear n1 n2 n3
    clear hb10 hb12 hz8 hzb r10 r14 g14 z10 z14 q14 hbw10 hbw14 hl14 hz14 hc0 b10 c0 c1
    go_wp2_with fail
    go_loopw [13] (fun u13 wr => ∃ j : Nat, j ≤ N ∧ u13 = .int .i64 j ∧ RLoopR w14 wr bl b12 w14.heap.size w.heap.size B col m l md hs C U T N (some ⟨bA, offA, none⟩) j) (fun u13 _ => N - (intOf u13).toNat)
    case atStart => exact ⟨0, Nat.zero_le _, rfl, none, 0, none, 0, none, 0, by simpa [mixL_zero, sumK] using HC0.out⟩
    case round =>
     obtain ⟨j, hj, rfl, A3, c3, A4, c4, A5, c5, hcs⟩ := hrel
     have c0 : wr.cell? ⟨bl, 0, none⟩ = some (.int .i64 (N : Int)) := by rw [← HNN.out]; exact hcs.lat.row.cell 0
     by_cases hlt : j < N
     ·
      have hck := hcs.ck (by rw [HC.out, HNN.out]) hlt rfl
      have hNN := HNN.out
      have hn16 := HN.out.2
      have hjn : j < l.n := by omega
      have hlp := HH.out.lp
      have hlq := HH.out.lq
      have hul := HUL.out
      have htl := HTL.out
      have hcl := HC.out
      have cp : wr.cell? ⟨m.bp, j, none⟩ = some (.int .i64 (l.pending.getD j 0)) := by rw [← mixL_get (· - ·) l.pending U j (by omega) (by omega)]; exact hcs.lat.pend.cell j hjn
      have c2 : wr.cell? ⟨bl, 18, none⟩ = some (.slice (some ⟨m.bp, 0, none⟩) N m.cp) := by rw [← hNN]; exact (hcs.lat.row.cell 18).trans (RM.cells_tail hcs.lat.h16 0)
      have hug := HUG.out j hjn
      have htg := HTG.out j hjn
      have hcr := fits_range (HFC.out j hjn)
      have hsm := HSM.out j
      obtain ⟨x, hx⟩ : ∃ x, C.getD j 0 = x := ⟨_, rfl⟩
      obtain ⟨p, hp⟩ : ∃ x, l.pending.getD j 0 = x := ⟨_, rfl⟩
      obtain ⟨q, hq⟩ : ∃ x, l.paid.getD j 0 = x := ⟨_, rfl⟩
      rw [hx] at hck hug htg hcr
      rw [hp] at cp hug htg hsm
      rw [hq] at hsm
      obtain ⟨u, hu⟩ : ∃ u, min x p = u := ⟨_, rfl⟩
      rw [hu] at hug htg
      have HXP := Lib.hid (And.intro hx (And.intro hp hq))
      have HUJ := Lib.hid (And.intro hug htg)
      have HU' := Lib.hid hu
      have hub : 0 ≤ u ∧ u ≤ x := by omega
      obtain ⟨pu, hpu⟩ : ∃ y, p - u = y := ⟨_, rfl⟩
      obtain ⟨xu, hxu⟩ : ∃ y, x - u = y := ⟨_, rfl⟩
      obtain ⟨qx, hqx⟩ : ∃ y, q + x = y := ⟨_, rfl⟩
      obtain ⟨qxu, hqxu⟩ : ∃ y, qx - u = y := ⟨_, rfl⟩
      have hsk := sumK_bound U j (by omega) (fun i hi => by
       have h1 := HUG.out i (by omega); have h2 := fits_range (HFC.out i (by omega)); have h3 := HSM.out i
       unfold Bil.fits; rw [decide_eq_true_iff, h1]; omega)
      have hhs := HHS.out
      have hstep := sumK_step U j (by omega)
      rw [hug] at hstep
      obtain ⟨hh, hhh⟩ : ∃ y, hs + sumK U j = y := ⟨_, rfl⟩
      rw [hhh] at hcs
      have HCS := Lib.hid hcs
      obtain ⟨hhu, hhhu⟩ : ∃ y, hh + u = y := ⟨_, rfl⟩
      have m1 : IntKind.i64.wrap (p - u) = pu := by rw [hpu]; exact IntWalk.i64_in _ (by omega)
      have m2 : IntKind.i64.wrap (x - u) = xu := by rw [hxu]; exact IntWalk.i64_in _ (by omega)
      have m3 : IntKind.i64.wrap (q + x) = qx := by rw [hqx]; exact IntWalk.i64_in _ (by omega)
      have m5 : IntKind.i64.wrap (qx - u) = qxu := by rw [hqxu]; exact IntWalk.i64_in _ (by omega)
      have m4 : IntKind.i64.wrap (hh + u) = hhu := by rw [hhhu]; exact IntWalk.i64_in _ (by omega)
      have HEQ := Lib.hid (And.intro hpu (And.intro hxu (And.intro (show q + xu = qxu by omega) (And.intro hhh (show hs + sumK U (j + 1) = hhu by omega)))))
      have HCK : Hid (C.length = N ∧ j < N ∧ C.getD j 0 = x) := Lib.hid ⟨by omega, hlt, hx⟩
      have hj' : j < U.length := by omega
      have hj'' : j < T.length := by omega
      have hj3 : j < C.length := by omega
      have HE3 : Hid (ivs (C.take j) ++ [Value.int .i64 x] = ivs (C.take (j + 1))) := Lib.hid (by rw [← ivs_tk C j hj3, hx])
      have HE4 : Hid (ivs (U.take j) ++ [Value.int .i64 u] = ivs (U.take (j + 1))) := Lib.hid (by rw [← ivs_tk U j hj', hug])
      have HE5 : Hid (ivs (T.take j) ++ [Value.int .i64 xu] = ivs (T.take (j + 1))) := Lib.hid (by rw [← ivs_tk T j hj'', htg, hxu])
      have HJ16 : Hid ((j + 1) * 8 ≤ 140737488355328 ∧ j + 1 ≤ maxLen) := Lib.hid (by unfold maxLen; omega)
      have i0 : (0 : Int) ≤ (j : Int) := by omega
      have i1 : (j : Int) < (N : Int) := by omega
      clear hcs hNN hn16 hjn hlp hlq hul htl hcl hug htg hcr hsm hx hp hq hu hub hpu hxu hqx hqxu hsk hhs hstep hhh hhhu hj' hj'' hj3
      have HM := Lib.hid (And.intro m1 (And.intro m2 (And.intro m3 (And.intro m4 m5))))
      clear m1 m2 m3 m4 m5
      go_upto_region 18 with fail
      go_cut [14] from 80 to 91 (fun u14 wx => u14 = .int .i64 u ∧ Hid (RCSt w14 wx bl b12 w14.heap.size w.heap.size B col m { l with pending := mixL (· - ·) l.pending U j, paid := mixL (· + ·) l.paid T j } [.int .i64 (l.periods : Int), .int .i64 md, .int .i64 hh, .slice A3 j c3, .slice A4 j c4, .slice A5 j c5] A3 j c3 (C.take j) A4 j c4 (U.take j) A5 j c5 (T.take j) (some ⟨bA, offA, none⟩) N C))
      case first =>
       go_wp2_with fail
       go_region
       go_wp2_with fail
       go_meet
       refine ⟨by rw [HU'.out], Lib.hid ?_⟩
       exact HCS.out.below (by first | exact below_drewN (Below.refl _ _) 1 | exact below_drewN (Below.refl _ _) _)
      case rest =>
       obtain ⟨rfl, HC0'⟩ := hcut
       obtain ⟨wq, hwq⟩ : ∃ x, wc = x := ⟨_, rfl⟩
       try rw [hwq] at HC0' ⊢
       clear hwq
       clear cp c2 HCS hck
       have hck := HC0'.out.ck HCK.out.1 HCK.out.2.1 HCK.out.2.2
       go_upto_region 19 with fail
       go_cut [] from 92 to 100 (fun wx => ∃ A3n c3n, Hid (RCSt w14 wx bl b12 w14.heap.size w.heap.size B col m { l with pending := mixL (· - ·) l.pending U j, paid := mixL (· + ·) l.paid T j } [.int .i64 (l.periods : Int), .int .i64 md, .int .i64 hh, .slice A3n (j + 1) c3n, .slice A4 j c4, .slice A5 j c5] A3n (j + 1) c3n (C.take (j + 1)) A4 j c4 (U.take j) A5 j c5 (T.take j) (some ⟨bA, offA, none⟩) N C))
       case first =>
        go_wp2_with fail
        have hv0 : RCSt w14 wq.drew bl b12 w14.heap.size w.heap.size B col m { l with pending := mixL (· - ·) l.pending U j, paid := mixL (· + ·) l.paid T j } [.int .i64 (l.periods : Int), .int .i64 md, .int .i64 hh, .slice A3 j c3, .slice A4 j c4, .slice A5 j c5] A3 j c3 (C.take j) A4 j c4 (U.take j) A5 j c5 (T.take j) (some ⟨bA, offA, none⟩) N C := HC0'.out.below (Below.refl _ _).drew
        refine wp_region_late (fun W => W.cell? ⟨b12, 3, none⟩ = some (.slice A3 j c3) ∧ W.cell? ⟨bA, offA + j, none⟩ = some (.int .i64 x)) [9] (by kernel_rfl) (⟨(hv0).row.cell 3, (hv0).ck HCK.out.1 HCK.out.2.1 HCK.out.2.2⟩) (fun hHeld => ?_)
        obtain ⟨wd, hwd⟩ : ∃ x, wq.drew = x := ⟨_, rfl⟩
        rw [hwd] at hv0 hHeld ⊢
        clear hwd
        refine tkL 0 oU0 ?v0_1901 (.inl ⟨by rfl, ?h0_1901⟩) ?r0_1901
        case h0_1901 =>
         intro W hSW
         unfold oU0
         try dsimp only at hSW
         go_simp
         try with_reducible rfl
        try simp only [oU0, PT]
        refine tkL 1 oU1 ?v1_1902 (.inl ⟨by rfl, ?h1_1902⟩) ?r1_1902
        case h1_1902 =>
         intro W hSW
         unfold oU1
         try dsimp only at hSW
         have hcc := hSW.1
         go_simp
         try with_reducible rfl
        try simp only [oU1, PT]
        refine tkL 2 oU2 ?v2_1903 (.inl ⟨by rfl, ?h2_1903⟩) ?r2_1903
        case h2_1903 =>
         intro W hSW
         unfold oU2
         try dsimp only at hSW
         go_simp
         try with_reducible rfl
        try simp only [oU2, PT]
        refine tkL 3 oU3 ?v3_1904 (.inl ⟨by rfl, ?h3_1904⟩) ?r3_1904
        case h3_1904 =>
         intro W hSW
         unfold oU3
         try dsimp only at hSW
         go_simp
         try with_reducible rfl
        try simp only [oU3, PT]
        refine tkL 4 oU4 ?v4_1905 (.inl ⟨by rfl, ?h4_1905⟩) ?r4_1905
        case h4_1905 =>
         intro W hSW
         unfold oU4
         try dsimp only at hSW
         go_simp
         try with_reducible rfl
        try simp only [oU4, PT]
        refine tkL 5 oU5 ?v5_1906 (.inl ⟨by rfl, ?h5_1906⟩) ?r5_1906
        case h5_1906 =>
         intro W hSW
         unfold oU5
         try dsimp only at hSW
         have hcc := hSW.2
         go_simp
         try with_reducible rfl
        try simp only [oU5, PT]
        refine rdyL [6] ?_
        refine AllReadyL.cons (o := oU6) rfl (fun K hK => ?_) AllReadyL.nil
        unfold oU6
        go_simp
        obtain ⟨g98, hg98⟩ : ∃ y, wd.heap.size = y := ⟨_, rfl⟩
        have rd98 := Rd.new wd [Value.int .i64 x] 3 1 (size := 1) rfl
        obtain ⟨w100, hw100⟩ : ∃ y, wd.alloc (.cells #[Value.int .i64 x] 3) = y := ⟨_, rfl⟩
        rw [show ([Value.int .i64 x] : List Value).toArray = #[Value.int .i64 x] from rfl, hw100, hg98] at rd98
        rw [hw100, hg98]
        have b100 : Below wd.heap.size wd w100 := by rw [← hw100]; exact (Below.refl _ _).alloc (Nat.le_refl _) _
        have hv100 := (hv0).below b100
        have rd98 : Rd w100 w100.heap.size 1 _ _ _ := rd98.more (by rw [← hw100, alloc_size1, hg98]; exact Nat.le_refl _)
        clear hw100 b100 hg98
        refine hK.out _ _ (⟨(hv100).row.cell 3, (hv100).ck HCK.out.1 HCK.out.2.1 HCK.out.2.2⟩) (fun hHeld => ?_)
        clear hK K
        try simp only [PT]
        refine rdyL [7] ?_
        refine AllReadyL.cons (o := oU7) rfl (fun K hK => ?_) AllReadyL.nil
        unfold oU7
        rw [if_pos (by rfl)]
        refine wp_app _ (.tmp 93) (.tmp 98) 29 rfl w14.heap.size 3 (.int .i64 0) 1 8 bintT A3 j c3 (ivs (C.take j)) rfl (hv100).own3 w100.heap.size (some ⟨g98, 0, none⟩) 1 1 [Value.int .i64 x] rfl rd98 (ivs_one [x]) HJ16.out.1 HJ16.out.2 (hv100).hb4 ?_
        intro A3n c3n w101 own101 gr101 hA101
        rw [HE3.out] at own101
        have hv101 := (hv100).app3 own101 gr101 (hA101.imp id fun ⟨a, h1, h2⟩ => ⟨a, h1, Nat.le_of_eq h2.symm⟩)
        have k3 : w101.cell? ⟨b12, 3, none⟩ = some (.slice A3 j c3) := hv101.row.cell 3
        have f3 : w101.frozen? ⟨b12, 3, none⟩ = false := hv101.row.frozen 3
        clear own101 gr101 hA101 rd98
        refine hK.out _ _ (⟨(hv101).row.cell 3, (hv101).ck HCK.out.1 HCK.out.2.1 HCK.out.2.2⟩) (fun hHeld => ?_)
        clear hK K
        try simp only [PT]
        refine tkL 8 oU8 ?v8_1907 (.inl ⟨by rfl, ?h8_1907⟩) ?r8_1907
        case h8_1907 =>
         intro W hSW
         unfold oU8
         try dsimp only at hSW
         go_simp
         try with_reducible rfl
        try simp only [oU8, PT]
        refine rdyL [9] ?_
        refine AllReadyL.late (o := oU9) rfl (by rfl) (fun K hK => ?_) AllReadyL.nil
        unfold oU9
        go_simp
        obtain ⟨w102, hw102⟩ : ∃ x, w101.setCell ⟨b12, 3, none⟩ (.slice A3n (j + 1) c3n) = x := ⟨_, rfl⟩
        rw [hw102]
        have hv102 : RCSt w14 w102 bl b12 w14.heap.size w.heap.size B col m { l with pending := mixL (· - ·) l.pending U j, paid := mixL (· + ·) l.paid T j } [.int .i64 (l.periods : Int), .int .i64 md, .int .i64 hh, .slice A3n (j + 1) c3n, .slice A4 j c4, .slice A5 j c5] A3n (j + 1) c3n (C.take (j + 1)) A4 j c4 (U.take j) A5 j c5 (T.take j) (some ⟨bA, offA, none⟩) N C := by rw [← hw102]; exact (hv101).set12 3 _
        clear hw102 k3 f3
        refine hK.out _ _ ?_
        clear hK K
        try simp only [PT]
        refine wpAnyL_done (by kernel_rfl) ?_ _
        have HCF := Lib.hid hv102
        clear hv102
        go_wp2_with fail
        go_meet
        exact ⟨A3n, c3n, HCF⟩
       case rest =>
        obtain ⟨A3n, c3n, HC3⟩ := hcut
        obtain ⟨w3, hw3⟩ : ∃ x, wc = x := ⟨_, rfl⟩
        try rw [hw3] at HC3 ⊢
        clear hw3
        have k4 : w3.cell? ⟨b12, 4, none⟩ = some (.slice A4 j c4) := HC3.out.row.cell 4
        clear HC0' hck
        go_upto_region 20 with fail
        go_cut [] from 101 to 106 (fun wx => ∃ A4n c4n, Hid (RCSt w14 wx bl b12 w14.heap.size w.heap.size B col m { l with pending := mixL (· - ·) l.pending U j, paid := mixL (· + ·) l.paid T j } [.int .i64 (l.periods : Int), .int .i64 md, .int .i64 hh, .slice A3n (j + 1) c3n, .slice A4n (j + 1) c4n, .slice A5 j c5] A3n (j + 1) c3n (C.take (j + 1)) A4n (j + 1) c4n (U.take (j + 1)) A5 j c5 (T.take j) (some ⟨bA, offA, none⟩) N C))
        case first =>
         go_wp2_with (at_builtin; refine wpList_app1 rfl (.tmp 102) (.tmp 104) 29 rfl w14.heap.size 3 _ 8 bintT A4 j c4 (ivs (U.take j)) (.int .i64 u) rfl rfl HC3.out.own4 (Below.refl 0 _) rfl HJ16.out.1 (Nat.zero_le _) HC3.out.hb4 ?_; intro g4 c4n w4 own4 hb4 hg4; rw [HE4.out] at own4; have HC4 := Lib.hid (HC3.out.app4 own4 hg4.1 (hg4.2.imp Eq.symm fun h => ⟨_, rfl, h⟩)); have k4n := HC4.out.row.cell 4; have f4n := HC4.out.row.frozen 4; clear own4 hb4 hg4 k4)
         go_meet
         exact ⟨some ⟨g4, 0, none⟩, c4n, Lib.hid (HC4.out.set12 4 _)⟩
        case rest =>
         obtain ⟨A4n, c4n, HC4⟩ := hcut
         obtain ⟨w4, hw4⟩ : ∃ x, wc = x := ⟨_, rfl⟩
         try rw [hw4] at HC4 ⊢
         clear hw4
         clear HC3 k4
         have m2 := HM.out.2.1
         go_upto_region 21 with fail
         go_cut [] from 107 to 117 (fun wx => ∃ A5n c5n, Hid (RCSt w14 wx bl b12 w14.heap.size w.heap.size B col m { l with pending := mixL (· - ·) l.pending U j, paid := mixL (· + ·) l.paid T j } [.int .i64 (l.periods : Int), .int .i64 md, .int .i64 hh, .slice A3n (j + 1) c3n, .slice A4n (j + 1) c4n, .slice A5n (j + 1) c5n] A3n (j + 1) c3n (C.take (j + 1)) A4n (j + 1) c4n (U.take (j + 1)) A5n (j + 1) c5n (T.take (j + 1)) (some ⟨bA, offA, none⟩) N C))
         case first =>
          go_wp2_with fail
          have hv0 : RCSt w14 w4.drew bl b12 w14.heap.size w.heap.size B col m { l with pending := mixL (· - ·) l.pending U j, paid := mixL (· + ·) l.paid T j } [.int .i64 (l.periods : Int), .int .i64 md, .int .i64 hh, .slice A3n (j + 1) c3n, .slice A4n (j + 1) c4n, .slice A5 j c5] A3n (j + 1) c3n (C.take (j + 1)) A4n (j + 1) c4n (U.take (j + 1)) A5 j c5 (T.take j) (some ⟨bA, offA, none⟩) N C := HC4.out.below (Below.refl _ _).drew
          refine wp_region_late (fun W => W.cell? ⟨b12, 5, none⟩ = some (.slice A5 j c5) ∧ W.cell? ⟨bA, offA + j, none⟩ = some (.int .i64 x)) [11] (by kernel_rfl) (⟨(hv0).row.cell 5, (hv0).ck HCK.out.1 HCK.out.2.1 HCK.out.2.2⟩) (fun hHeld => ?_)
          obtain ⟨wd, hwd⟩ : ∃ x, w4.drew = x := ⟨_, rfl⟩
          rw [hwd] at hv0 hHeld ⊢
          clear hwd
          refine tkL 0 oU10 ?v0_2101 (.inl ⟨by rfl, ?h0_2101⟩) ?r0_2101
          case h0_2101 =>
           intro W hSW
           unfold oU10
           try dsimp only at hSW
           go_simp
           try with_reducible rfl
          try simp only [oU10, PT]
          refine tkL 1 oU11 ?v1_2102 (.inl ⟨by rfl, ?h1_2102⟩) ?r1_2102
          case h1_2102 =>
           intro W hSW
           unfold oU11
           try dsimp only at hSW
           have hcc := hSW.1
           go_simp
           try with_reducible rfl
          try simp only [oU11, PT]
          refine tkL 2 oU12 ?v2_2103 (.inl ⟨by rfl, ?h2_2103⟩) ?r2_2103
          case h2_2103 =>
           intro W hSW
           unfold oU12
           try dsimp only at hSW
           go_simp
           try with_reducible rfl
          try simp only [oU12, PT]
          refine tkL 3 oU13 ?v3_2104 (.inl ⟨by rfl, ?h3_2104⟩) ?r3_2104
          case h3_2104 =>
           intro W hSW
           unfold oU13
           try dsimp only at hSW
           go_simp
           try with_reducible rfl
          try simp only [oU13, PT]
          refine tkL 4 oU14 ?v4_2105 (.inl ⟨by rfl, ?h4_2105⟩) ?r4_2105
          case h4_2105 =>
           intro W hSW
           unfold oU14
           try dsimp only at hSW
           go_simp
           try with_reducible rfl
          try simp only [oU14, PT]
          refine tkL 5 oU15 ?v5_2106 (.inl ⟨by rfl, ?h5_2106⟩) ?r5_2106
          case h5_2106 =>
           intro W hSW
           unfold oU15
           try dsimp only at hSW
           have hcc := hSW.2
           go_simp
           try with_reducible rfl
          try simp only [oU15, PT]
          refine tkL 6 oU16 ?v6_2107 (.inl ⟨by rfl, ?h6_2107⟩) ?r6_2107
          case h6_2107 =>
           intro W hSW
           unfold oU16
           try dsimp only at hSW
           go_simp
           try with_reducible rfl
          try simp only [oU16, PT]
          refine tkL 7 oU17 ?v7_2108 (.inl ⟨by rfl, ?h7_2108⟩) ?r7_2108
          case h7_2108 =>
           intro W hSW
           unfold oU17
           try dsimp only at hSW
           go_simp
           try with_reducible rfl
          try simp only [oU17, PT]
          refine rdyL [8] ?_
          refine AllReadyL.cons (o := oU18) rfl (fun K hK => ?_) AllReadyL.nil
          unfold oU18
          go_simp
          obtain ⟨g115, hg115⟩ : ∃ y, wd.heap.size = y := ⟨_, rfl⟩
          have rd115 := Rd.new wd [Value.int .i64 xu] 3 1 (size := 1) rfl
          obtain ⟨w300, hw300⟩ : ∃ y, wd.alloc (.cells #[Value.int .i64 xu] 3) = y := ⟨_, rfl⟩
          rw [show ([Value.int .i64 xu] : List Value).toArray = #[Value.int .i64 xu] from rfl, hw300, hg115] at rd115
          rw [hw300, hg115]
          have b300 : Below wd.heap.size wd w300 := by rw [← hw300]; exact (Below.refl _ _).alloc (Nat.le_refl _) _
          have hv300 := (hv0).below b300
          have rd115 : Rd w300 w300.heap.size 1 _ _ _ := rd115.more (by rw [← hw300, alloc_size1, hg115]; exact Nat.le_refl _)
          clear hw300 b300 hg115
          refine hK.out _ _ (⟨(hv300).row.cell 5, (hv300).ck HCK.out.1 HCK.out.2.1 HCK.out.2.2⟩) (fun hHeld => ?_)
          clear hK K
          try simp only [PT]
          refine rdyL [9] ?_
          refine AllReadyL.cons (o := oU19) rfl (fun K hK => ?_) AllReadyL.nil
          unfold oU19
          rw [if_pos (by rfl)]
          refine wp_app _ (.tmp 108) (.tmp 115) 29 rfl w14.heap.size 3 (.int .i64 0) 1 8 bintT A5 j c5 (ivs (T.take j)) rfl (hv300).own5 w300.heap.size (some ⟨g115, 0, none⟩) 1 1 [Value.int .i64 xu] rfl rd115 (ivs_one [xu]) HJ16.out.1 HJ16.out.2 (hv300).hb4 ?_
          intro A5n c5n w301 own301 gr301 hA301
          rw [HE5.out] at own301
          have hv301 := (hv300).app5 own301 gr301 (hA301.imp id fun ⟨a, h1, h2⟩ => ⟨a, h1, Nat.le_of_eq h2.symm⟩)
          have k5 : w301.cell? ⟨b12, 5, none⟩ = some (.slice A5 j c5) := hv301.row.cell 5
          have f5 : w301.frozen? ⟨b12, 5, none⟩ = false := hv301.row.frozen 5
          clear own301 gr301 hA301 rd115
          refine hK.out _ _ (⟨(hv301).row.cell 5, (hv301).ck HCK.out.1 HCK.out.2.1 HCK.out.2.2⟩) (fun hHeld => ?_)
          clear hK K
          try simp only [PT]
          refine tkL 10 oU20 ?v10_2109 (.inl ⟨by rfl, ?h10_2109⟩) ?r10_2109
          case h10_2109 =>
           intro W hSW
           unfold oU20
           try dsimp only at hSW
           go_simp
           try with_reducible rfl
          try simp only [oU20, PT]
          refine rdyL [11] ?_
          refine AllReadyL.late (o := oU21) rfl (by rfl) (fun K hK => ?_) AllReadyL.nil
          unfold oU21
          go_simp
          obtain ⟨w302, hw302⟩ : ∃ x, w301.setCell ⟨b12, 5, none⟩ (.slice A5n (j + 1) c5n) = x := ⟨_, rfl⟩
          rw [hw302]
          have hv302 : RCSt w14 w302 bl b12 w14.heap.size w.heap.size B col m { l with pending := mixL (· - ·) l.pending U j, paid := mixL (· + ·) l.paid T j } [.int .i64 (l.periods : Int), .int .i64 md, .int .i64 hh, .slice A3n (j + 1) c3n, .slice A4n (j + 1) c4n, .slice A5n (j + 1) c5n] A3n (j + 1) c3n (C.take (j + 1)) A4n (j + 1) c4n (U.take (j + 1)) A5n (j + 1) c5n (T.take (j + 1)) (some ⟨bA, offA, none⟩) N C := by rw [← hw302]; exact (hv301).set12 5 _
          clear hw302 k5 f5
          refine hK.out _ _ ?_
          clear hK K
          try simp only [PT]
          refine wpAnyL_done (by kernel_rfl) ?_ _
          have HCF := Lib.hid hv302
          clear hv302
          go_wp2_with fail
          go_meet
          exact ⟨A5n, c5n, HCF⟩
         case rest =>
          obtain ⟨A5n, c5n, HC5⟩ := hcut
          obtain ⟨w5, hw5⟩ : ∃ x, wc = x := ⟨_, rfl⟩
          try rw [hw5] at HC5 ⊢
          clear hw5
          clear HC4 m2
          have k6 : w5.cell? ⟨b12, 2, none⟩ = some (.int .i64 hh) := HC5.out.row.cell 2
          have f6 : w5.frozen? ⟨b12, 2, none⟩ = false := HC5.out.row.frozen 2
          have m4 := HM.out.2.2.2.1
          go_upto_region 22 with fail
          go_cut [] from 118 to 122 (fun wx => Hid (RCSt w14 wx bl b12 w14.heap.size w.heap.size B col m { l with pending := mixL (· - ·) l.pending U j, paid := mixL (· + ·) l.paid T j } [.int .i64 (l.periods : Int), .int .i64 md, .int .i64 hhu, .slice A3n (j + 1) c3n, .slice A4n (j + 1) c4n, .slice A5n (j + 1) c5n] A3n (j + 1) c3n (C.take (j + 1)) A4n (j + 1) c4n (U.take (j + 1)) A5n (j + 1) c5n (T.take (j + 1)) (some ⟨bA, offA, none⟩) N C))
          case first =>
           go_wp2_with fail
           go_meet
           exact Lib.hid (HC5.out.set12 2 (.int .i64 hhu))
          case rest =>
           have HC6 := hcut
           obtain ⟨w6, hw6⟩ : ∃ x, wc = x := ⟨_, rfl⟩
           try rw [hw6] at HC6 ⊢
           clear hw6
           clear hcut HC5 k6 f6 m4
           have HQ6 : Hid (w6.cell? ⟨bl, 18, none⟩ = some (.slice (some ⟨m.bp, 0, none⟩) N m.cp) ∧ w6.cell? ⟨m.bp, j, none⟩ = some (.int .i64 p) ∧ w6.frozen? ⟨m.bp, j, none⟩ = false ∧ bl < w6.heap.size ∧ m.bp < w6.heap.size) := Lib.hid (by
            have hla := HC6.out.lat
            refine ⟨by rw [← HNN.out]; exact (hla.row.cell 18).trans (RM.cells_tail hla.h16 0), ?_, hla.pend.free j (by rw [HNN.out]; exact hlt), hla.row.lt, hla.pend.lt⟩
            rw [← HXP.out.2.1, ← mixL_get (· - ·) l.pending U j (by rw [HUL.out, HC.out, HH.out.lp]) (by rw [HH.out.lp, HNN.out]; exact hlt)]
            exact hla.pend.cell j (by rw [HNN.out]; exact hlt))
           have m1 := HM.out.1
           go_upto_region 23 with fail
           go_cut [] from 123 to 137 (fun wx => Hid (RCSt w14 wx bl b12 w14.heap.size w.heap.size B col m { l with pending := mixL (· - ·) l.pending U (j + 1), paid := mixL (· + ·) l.paid T j } [.int .i64 (l.periods : Int), .int .i64 md, .int .i64 hhu, .slice A3n (j + 1) c3n, .slice A4n (j + 1) c4n, .slice A5n (j + 1) c5n] A3n (j + 1) c3n (C.take (j + 1)) A4n (j + 1) c4n (U.take (j + 1)) A5n (j + 1) c5n (T.take (j + 1)) (some ⟨bA, offA, none⟩) N C))
           case first =>
            go_wp2_with fail
            have hv0 : Below w6.heap.size w6 w6.drew := (Below.refl _ _).drew
            refine wp_region_late (fun W => Below w6.heap.size w6 W) [15] (by kernel_rfl) (hv0) (fun hHeld => ?_)
            obtain ⟨wd, hwd⟩ : ∃ x, w6.drew = x := ⟨_, rfl⟩
            rw [hwd] at hv0 hHeld ⊢
            clear hwd
            refine tkL 0 oU22 ?v0_2301 (.inl ⟨by rfl, ?h0_2301⟩) ?r0_2301
            case h0_2301 =>
             intro W hSW
             unfold oU22
             try dsimp only at hSW
             go_simp
             try with_reducible rfl
            try simp only [oU22, PT]
            refine tkL 1 oU23 ?v1_2302 (.inl ⟨by rfl, ?h1_2302⟩) ?r1_2302
            case h1_2302 =>
             intro W hSW
             unfold oU23
             try dsimp only at hSW
             go_simp
             try with_reducible rfl
            try simp only [oU23, PT]
            refine tkL 2 oU24 ?v2_2303 (.inl ⟨by rfl, ?h2_2303⟩) ?r2_2303
            case h2_2303 =>
             intro W hSW
             unfold oU24
             try dsimp only at hSW
             go_simp
             try with_reducible rfl
            try simp only [oU24, PT]
            refine tkL 3 oU25 ?v3_2304 (.inl ⟨by rfl, ?h3_2304⟩) ?r3_2304
            case h3_2304 =>
             intro W hSW
             unfold oU25
             try dsimp only at hSW
             have hcc := (hSW.cell (p := ⟨bl, 18, none⟩) HQ6.out.2.2.2.1).trans HQ6.out.1
             go_simp
             try with_reducible rfl
            try simp only [oU25, PT]
            refine tkL 4 oU26 ?v4_2305 (.inl ⟨by rfl, ?h4_2305⟩) ?r4_2305
            case h4_2305 =>
             intro W hSW
             unfold oU26
             try dsimp only at hSW
             go_simp
             try with_reducible rfl
            try simp only [oU26, PT]
            refine tkL 5 oU27 ?v5_2306 (.inl ⟨by rfl, ?h5_2306⟩) ?r5_2306
            case h5_2306 =>
             intro W hSW
             unfold oU27
             try dsimp only at hSW
             go_simp
             try with_reducible rfl
            try simp only [oU27, PT]
            refine tkL 6 oU28 ?v6_2307 (.inl ⟨by rfl, ?h6_2307⟩) ?r6_2307
            case h6_2307 =>
             intro W hSW
             unfold oU28
             try dsimp only at hSW
             go_simp
             try with_reducible rfl
            try simp only [oU28, PT]
            refine tkL 7 oU29 ?v7_2308 (.inl ⟨by rfl, ?h7_2308⟩) ?r7_2308
            case h7_2308 =>
             intro W hSW
             unfold oU29
             try dsimp only at hSW
             go_simp
             try with_reducible rfl
            try simp only [oU29, PT]
            refine tkL 8 oU30 ?v8_2309 (.inl ⟨by rfl, ?h8_2309⟩) ?r8_2309
            case h8_2309 =>
             intro W hSW
             unfold oU30
             try dsimp only at hSW
             have hcc := (hSW.cell (p := ⟨bl, 18, none⟩) HQ6.out.2.2.2.1).trans HQ6.out.1
             go_simp
             try with_reducible rfl
            try simp only [oU30, PT]
            refine tkL 9 oU31 ?v9_2310 (.inl ⟨by rfl, ?h9_2310⟩) ?r9_2310
            case h9_2310 =>
             intro W hSW
             unfold oU31
             try dsimp only at hSW
             go_simp
             try with_reducible rfl
            try simp only [oU31, PT]
            refine tkL 10 oU32 ?v10_2311 (.inl ⟨by rfl, ?h10_2311⟩) ?r10_2311
            case h10_2311 =>
             intro W hSW
             unfold oU32
             try dsimp only at hSW
             go_simp
             try with_reducible rfl
            try simp only [oU32, PT]
            refine tkL 11 oU33 ?v11_2312 (.inl ⟨by rfl, ?h11_2312⟩) ?r11_2312
            case h11_2312 =>
             intro W hSW
             unfold oU33
             try dsimp only at hSW
             have hcc := (hSW.cell (p := ⟨m.bp, j, none⟩) HQ6.out.2.2.2.2).trans HQ6.out.2.1
             go_simp
             try with_reducible rfl
            try simp only [oU33, PT]
            refine tkL 12 oU34 ?v12_2313 (.inl ⟨by rfl, ?h12_2313⟩) ?r12_2313
            case h12_2313 =>
             intro W hSW
             unfold oU34
             try dsimp only at hSW
             go_simp
             try with_reducible rfl
            try simp only [oU34, PT]
            refine tkL 13 oU35 ?v13_2314 (.inl ⟨by rfl, ?h13_2314⟩) ?r13_2314
            case h13_2314 =>
             intro W hSW
             unfold oU35
             try dsimp only at hSW
             go_simp
             try with_reducible rfl
            try simp only [oU35, PT]
            refine tkL 14 oU36 ?v14_2315 (.inl ⟨by rfl, ?h14_2315⟩) ?r14_2315
            case h14_2315 =>
             intro W hSW
             unfold oU36
             try dsimp only at hSW
             go_simp
             try with_reducible rfl
            try simp only [oU36, PT]
            refine rdyL [15] ?_
            refine AllReadyL.late (o := oU37) rfl (by rfl) (fun K hK => ?_) AllReadyL.nil
            unfold oU37
            rw [if_pos (by rfl)]
            have hk1 := (hv0.cell (p := ⟨m.bp, j, none⟩) HQ6.out.2.2.2.2).trans HQ6.out.2.1
            have hf1 := (hv0.frozen (p := ⟨m.bp, j, none⟩) HQ6.out.2.2.2.2).trans HQ6.out.2.2.1
            go_simp
            obtain ⟨w400, hw400⟩ : ∃ x, wd.setCell ⟨m.bp, j, none⟩ (.int .i64 pu) = x := ⟨_, rfl⟩
            rw [hw400]
            have HB400 := HC6.out.below hv0
            have HCF : Hid (RCSt w14 w400 bl b12 w14.heap.size w.heap.size B col m { l with pending := mixL (· - ·) l.pending U (j + 1), paid := mixL (· + ·) l.paid T j } [.int .i64 (l.periods : Int), .int .i64 md, .int .i64 hhu, .slice A3n (j + 1) c3n, .slice A4n (j + 1) c4n, .slice A5n (j + 1) c5n] A3n (j + 1) c3n (C.take (j + 1)) A4n (j + 1) c4n (U.take (j + 1)) A5n (j + 1) c5n (T.take (j + 1)) (some ⟨bA, offA, none⟩) N C) := Lib.hid (by rw [← hw400]; have hc1 := HB400.setL (q := m.bp) (by have := HH.out.cbp; omega) j (.int .i64 pu) (HB400.lat.setOwed (by rw [HNN.out]; exact hlt) pu); have e1 : (mixL (· - ·) l.pending U j).set j pu = mixL (· - ·) l.pending U (j + 1) := (by rw [← mixL_step (· - ·) l.pending U j (by rw [HUL.out, HC.out, HH.out.lp]) (by rw [HH.out.lp, HNN.out]; exact hlt), HXP.out.2.1, HUJ.out.1, HEQ.out.1]); rw [← e1]; exact hc1)
            have hv400 := HCF
            clear hw400 hk1 hf1 HB400
            refine hK.out _ _ ?_
            clear hK K
            try simp only [PT]
            refine wpAnyL_done (by kernel_rfl) ?_ _
            go_wp2_with fail
            go_meet
            exact HCF
           case rest =>
            have HC7 := hcut
            obtain ⟨w7, hw7⟩ : ∃ x, wc = x := ⟨_, rfl⟩
            try rw [hw7] at HC7 ⊢
            clear hw7
            clear hcut HC6 HQ6 m1
            have HQ7 : Hid (w7.cell? ⟨bl, 19, none⟩ = some (.slice (some ⟨m.bq, 0, none⟩) N m.cq) ∧ w7.cell? ⟨m.bq, j, none⟩ = some (.int .i64 q) ∧ w7.frozen? ⟨m.bq, j, none⟩ = false ∧ bl < w7.heap.size ∧ m.bq < w7.heap.size ∧ w7.cell? ⟨bA, offA + j, none⟩ = some (.int .i64 x) ∧ bA < w7.heap.size) := Lib.hid (by
             have hla := HC7.out.lat
             refine ⟨by rw [← HNN.out]; exact (hla.row.cell 19).trans (RM.cells_tail hla.h16 1), ?_, hla.paid.free j (by rw [HNN.out]; exact hlt), hla.row.lt, hla.paid.lt, HC7.out.ck HCK.out.1 HCK.out.2.1 HCK.out.2.2, by have := HBB.out; have := HW14.out.size; have := HC7.out.keep.size; omega⟩
             rw [← HXP.out.2.2, ← mixL_get (· + ·) l.paid T j (by rw [HTL.out, HC.out, HH.out.lq]) (by rw [HH.out.lq, HNN.out]; exact hlt)]
             exact hla.paid.cell j (by rw [HNN.out]; exact hlt))
            have m3 := HM.out.2.2.1
            have m5 := HM.out.2.2.2.2
            go_upto_region 24 with fail
            go_wp2_with fail
            have hv0 : Below w7.heap.size w7 w7.drew := (Below.refl _ _).drew
            refine wp_region_late (fun W => Below w7.heap.size w7 W) [20] (by kernel_rfl) (hv0) (fun hHeld => ?_)
            obtain ⟨wd, hwd⟩ : ∃ x, w7.drew = x := ⟨_, rfl⟩
            rw [hwd] at hv0 hHeld ⊢
            clear hwd
            refine tkL 0 oU38 ?v0_2401 (.inl ⟨by rfl, ?h0_2401⟩) ?r0_2401
            case h0_2401 =>
             intro W hSW
             unfold oU38
             try dsimp only at hSW
             go_simp
             try with_reducible rfl
            try simp only [oU38, PT]
            refine tkL 1 oU39 ?v1_2402 (.inl ⟨by rfl, ?h1_2402⟩) ?r1_2402
            case h1_2402 =>
             intro W hSW
             unfold oU39
             try dsimp only at hSW
             go_simp
             try with_reducible rfl
            try simp only [oU39, PT]
            refine tkL 2 oU40 ?v2_2403 (.inl ⟨by rfl, ?h2_2403⟩) ?r2_2403
            case h2_2403 =>
             intro W hSW
             unfold oU40
             try dsimp only at hSW
             go_simp
             try with_reducible rfl
            try simp only [oU40, PT]
            refine tkL 3 oU41 ?v3_2404 (.inl ⟨by rfl, ?h3_2404⟩) ?r3_2404
            case h3_2404 =>
             intro W hSW
             unfold oU41
             try dsimp only at hSW
             have hcc := (hSW.cell (p := ⟨bl, 19, none⟩) HQ7.out.2.2.2.1).trans HQ7.out.1
             go_simp
             try with_reducible rfl
            try simp only [oU41, PT]
            refine tkL 4 oU42 ?v4_2405 (.inl ⟨by rfl, ?h4_2405⟩) ?r4_2405
            case h4_2405 =>
             intro W hSW
             unfold oU42
             try dsimp only at hSW
             go_simp
             try with_reducible rfl
            try simp only [oU42, PT]
            refine tkL 5 oU43 ?v5_2406 (.inl ⟨by rfl, ?h5_2406⟩) ?r5_2406
            case h5_2406 =>
             intro W hSW
             unfold oU43
             try dsimp only at hSW
             go_simp
             try with_reducible rfl
            try simp only [oU43, PT]
            refine tkL 6 oU44 ?v6_2407 (.inl ⟨by rfl, ?h6_2407⟩) ?r6_2407
            case h6_2407 =>
             intro W hSW
             unfold oU44
             try dsimp only at hSW
             go_simp
             try with_reducible rfl
            try simp only [oU44, PT]
            refine tkL 7 oU45 ?v7_2408 (.inl ⟨by rfl, ?h7_2408⟩) ?r7_2408
            case h7_2408 =>
             intro W hSW
             unfold oU45
             try dsimp only at hSW
             go_simp
             try with_reducible rfl
            try simp only [oU45, PT]
            refine tkL 8 oU46 ?v8_2409 (.inl ⟨by rfl, ?h8_2409⟩) ?r8_2409
            case h8_2409 =>
             intro W hSW
             unfold oU46
             try dsimp only at hSW
             have hcc := (hSW.cell (p := ⟨bl, 19, none⟩) HQ7.out.2.2.2.1).trans HQ7.out.1
             go_simp
             try with_reducible rfl
            try simp only [oU46, PT]
            refine tkL 9 oU47 ?v9_2410 (.inl ⟨by rfl, ?h9_2410⟩) ?r9_2410
            case h9_2410 =>
             intro W hSW
             unfold oU47
             try dsimp only at hSW
             go_simp
             try with_reducible rfl
            try simp only [oU47, PT]
            refine tkL 10 oU48 ?v10_2411 (.inl ⟨by rfl, ?h10_2411⟩) ?r10_2411
            case h10_2411 =>
             intro W hSW
             unfold oU48
             try dsimp only at hSW
             go_simp
             try with_reducible rfl
            try simp only [oU48, PT]
            refine tkL 11 oU49 ?v11_2412 (.inl ⟨by rfl, ?h11_2412⟩) ?r11_2412
            case h11_2412 =>
             intro W hSW
             unfold oU49
             try dsimp only at hSW
             have hcc := (hSW.cell (p := ⟨m.bq, j, none⟩) HQ7.out.2.2.2.2.1).trans HQ7.out.2.1
             go_simp
             try with_reducible rfl
            try simp only [oU49, PT]
            refine tkL 12 oU50 ?v12_2413 (.inl ⟨by rfl, ?h12_2413⟩) ?r12_2413
            case h12_2413 =>
             intro W hSW
             unfold oU50
             try dsimp only at hSW
             go_simp
             try with_reducible rfl
            try simp only [oU50, PT]
            refine tkL 13 oU51 ?v13_2414 (.inl ⟨by rfl, ?h13_2414⟩) ?r13_2414
            case h13_2414 =>
             intro W hSW
             unfold oU51
             try dsimp only at hSW
             go_simp
             try with_reducible rfl
            try simp only [oU51, PT]
            refine tkL 14 oU52 ?v14_2415 (.inl ⟨by rfl, ?h14_2415⟩) ?r14_2415
            case h14_2415 =>
             intro W hSW
             unfold oU52
             try dsimp only at hSW
             go_simp
             try with_reducible rfl
            try simp only [oU52, PT]
            refine tkL 15 oU53 ?v15_2416 (.inl ⟨by rfl, ?h15_2416⟩) ?r15_2416
            case h15_2416 =>
             intro W hSW
             unfold oU53
             try dsimp only at hSW
             have hcc := (hSW.cell (p := ⟨bA, offA + j, none⟩) HQ7.out.2.2.2.2.2.2).trans HQ7.out.2.2.2.2.2.1
             go_simp
             try with_reducible rfl
            try simp only [oU53, PT]
            refine tkL 16 oU54 ?v16_2417 (.inl ⟨by rfl, ?h16_2417⟩) ?r16_2417
            case h16_2417 =>
             intro W hSW
             unfold oU54
             try dsimp only at hSW
             go_simp
             try with_reducible rfl
            try simp only [oU54, PT]
            refine tkL 17 oU55 ?v17_2418 (.inl ⟨by rfl, ?h17_2418⟩) ?r17_2418
            case h17_2418 =>
             intro W hSW
             unfold oU55
             try dsimp only at hSW
             go_simp
             try with_reducible rfl
            try simp only [oU55, PT]
            refine tkL 18 oU56 ?v18_2419 (.inl ⟨by rfl, ?h18_2419⟩) ?r18_2419
            case h18_2419 =>
             intro W hSW
             unfold oU56
             try dsimp only at hSW
             go_simp
             try with_reducible rfl
            try simp only [oU56, PT]
            refine tkL 19 oU57 ?v19_2420 (.inl ⟨by rfl, ?h19_2420⟩) ?r19_2420
            case h19_2420 =>
             intro W hSW
             unfold oU57
             try dsimp only at hSW
             go_simp
             try with_reducible rfl
            try simp only [oU57, PT]
            refine rdyL [20] ?_
            refine AllReadyL.late (o := oU58) rfl (by rfl) (fun K hK => ?_) AllReadyL.nil
            unfold oU58
            rw [if_pos (by rfl)]
            have hk1 := (hv0.cell (p := ⟨m.bq, j, none⟩) HQ7.out.2.2.2.2.1).trans HQ7.out.2.1
            have hf1 := (hv0.frozen (p := ⟨m.bq, j, none⟩) HQ7.out.2.2.2.2.1).trans HQ7.out.2.2.1
            go_simp
            obtain ⟨w500, hw500⟩ : ∃ x, wd.setCell ⟨m.bq, j, none⟩ (.int .i64 qxu) = x := ⟨_, rfl⟩
            rw [hw500]
            have HB500 := HC7.out.below hv0
            have HCF : Hid (RCSt w14 w500 bl b12 w14.heap.size w.heap.size B col m { l with pending := mixL (· - ·) l.pending U (j + 1), paid := mixL (· + ·) l.paid T (j + 1) } [.int .i64 (l.periods : Int), .int .i64 md, .int .i64 hhu, .slice A3n (j + 1) c3n, .slice A4n (j + 1) c4n, .slice A5n (j + 1) c5n] A3n (j + 1) c3n (C.take (j + 1)) A4n (j + 1) c4n (U.take (j + 1)) A5n (j + 1) c5n (T.take (j + 1)) (some ⟨bA, offA, none⟩) N C) := Lib.hid (by rw [← hw500]; have hc1 := HB500.setL (q := m.bq) (by have := HH.out.cbq; omega) j (.int .i64 qxu) (HB500.lat.setSums (by rw [HNN.out]; exact hlt) qxu); have e1 : (mixL (· + ·) l.paid T j).set j qxu = mixL (· + ·) l.paid T (j + 1) := (by rw [← mixL_step (· + ·) l.paid T j (by rw [HTL.out, HC.out, HH.out.lq]) (by rw [HH.out.lq, HNN.out]; exact hlt), HXP.out.2.2, HUJ.out.2, HEQ.out.2.1, HEQ.out.2.2.1]); rw [← e1]; exact hc1)
            have hv500 := HCF
            clear hw500 hk1 hf1 HB500
            refine hK.out _ _ ?_
            clear hK K
            try simp only [PT]
            refine wpAnyL_done (by kernel_rfl) ?_ _
            clear HC7 HQ7 m3 m5
            have hN16 : N ≤ 16 := by have := HN.out; have := HNN.out; omega
            go_wp2_with fail
            go_roundw
            case rel => exact ⟨j + 1, HCK.out.2.1, by go_num, A3n, c3n, A4n, c4n, A5n, c5n, by rw [HEQ.out.2.2.2.2]; exact HCF.out⟩
            case measure => have hjN := HCK.out.2.1; simp [intOf]; omega

     ·
      obtain rfl : N = j := by omega
      clear HR
      have hc := hcs
      have hN1 : 0 < N := by have := HN.out; have := HNN.out; omega
      rw [mixL_full (· - ·) l.pending U (by rw [HUL.out, HC.out, HH.out.lp]) N (by rw [HH.out.lp, HNN.out]), mixL_full (· + ·) l.paid T (by rw [HTL.out, HC.out, HH.out.lq]) N (by rw [HH.out.lq, HNN.out]), List.take_of_length_le (l := C) (by rw [HC.out, HNN.out]; exact Nat.le_refl _), List.take_of_length_le (l := U) (by rw [HUL.out, HC.out, HNN.out]; exact Nat.le_refl _), List.take_of_length_le (l := T) (by rw [HTL.out, HC.out, HNN.out]; exact Nat.le_refl _)] at hc
      obtain ⟨g3, rfl, _, _⟩ := FRow.of_own hc.own3 hN1
      obtain ⟨g4, rfl, _, _⟩ := FRow.of_own hc.own4 hN1
      obtain ⟨g5, rfl, _, _⟩ := FRow.of_own hc.own5 hN1
      obtain ⟨hh, hhh⟩ : ∃ y, hs + sumK U N = y := ⟨_, rfl⟩
      rw [hhh] at hc
      have HHH := Lib.hid hhh
      have c1 : wr.cell? ⟨bl, 1, none⟩ = some (.int .i64 (P : Int)) := by rw [← HPP.out]; exact hc.lat.row.cell 1
      have f1 : wr.frozen? ⟨bl, 1, none⟩ = false := hc.lat.row.frozen 1
      obtain ⟨P1, hP1⟩ : ∃ y, P + 1 = y := ⟨_, rfl⟩
      have m0 : IntKind.i64.wrap ((P : Int) + 1) = (P1 : Int) := by rw [← hP1]; have := HPL.out; exact IntWalk.i64_in _ (by omega)
      have HP1 := Lib.hid hP1
      have HCX := Lib.hid hc
      clear hc hhh hP1 hcs
      go_upto_region 25 with fail
      go_cut [] from 158 to 164 (fun wx => Hid (RCSt w14 wx bl b12 w14.heap.size w.heap.size B col m { l with pending := List.zipWith (· - ·) l.pending U, paid := List.zipWith (· + ·) l.paid T, periods := P1 } [.int .i64 (l.periods : Int), .int .i64 md, .int .i64 hh, .slice (some ⟨g3, 0, none⟩) N c3, .slice (some ⟨g4, 0, none⟩) N c4, .slice (some ⟨g5, 0, none⟩) N c5] (some ⟨g3, 0, none⟩) N c3 C (some ⟨g4, 0, none⟩) N c4 U (some ⟨g5, 0, none⟩) N c5 T (some ⟨bA, offA, none⟩) N C))
      case first =>
       go_wp2_with fail
       go_meet
       exact Lib.hid (HCX.out.setL (q := bl) (by have := HH.out.cbl; omega) 1 (.int .i64 (P1 : Int)) (HCX.out.lat.reper P1 (by have := HP1.out; have := HPL.out; omega)))
      case rest =>
       have HC1 := hcut
       obtain ⟨w25, hw25⟩ : ∃ x, wc = x := ⟨_, rfl⟩
       try rw [hw25] at HC1 ⊢
       clear hcut hw25 c0 c1 f1 m0 HCX
       obtain ⟨Lk, hLk⟩ : ∃ x, m.ks.length = x := ⟨_, rfl⟩
       have HLK := Lib.hid hLk
       have HLT := Lib.hid HC1.out.lat
       have HR1 : Hid (w25.cell? ⟨bl, 20, none⟩ = some (.slice m.A Lk m.c)) := Lib.hid (by rw [← hLk]; exact (rcell_k HC1.out.lat.rcs HC1.out.lat.h16).1)
       have HR12 : Hid (IsRow w25 b12 31 [.int .i64 (P : Int), .int .i64 md, .int .i64 hh, .slice (some ⟨g3, 0, none⟩) N c3, .slice (some ⟨g4, 0, none⟩) N c4, .slice (some ⟨g5, 0, none⟩) N c5]) := Lib.hid (by have := HC1.out.row; rwa [HPP.out] at this)
       have HLB : Hid (bl < w25.heap.size ∧ b12 < w25.heap.size) := Lib.hid ⟨HC1.out.lat.row.lt, HC1.out.row.lt⟩
       clear hLk
       go_upto_region 26 with fail
       go_cut [] from 165 to 174 (fun wx => ∃ gk ok ck, Hid (RP26 w25 wx bl N P1 l.head gk ok ck m [.int .i64 (P : Int), .int .i64 md, .int .i64 hh, .slice (some ⟨g3, 0, none⟩) N c3, .slice (some ⟨g4, 0, none⟩) N c4, .slice (some ⟨g5, 0, none⟩) N c5]))
       case first =>
        go_wp2_with fail
        have hv0 : Below w25.heap.size w25 w25.drew := (Below.refl _ _).drew
        refine wp_region_late (fun W => Below w25.heap.size w25 W) [0, 7, 8, 9, 10] (by kernel_rfl) (hv0) (fun hHeld => ?_)
        obtain ⟨wd, hwd⟩ : ∃ x, w25.drew = x := ⟨_, rfl⟩
        rw [hwd] at hv0 hHeld ⊢
        clear hwd
        refine tkE 0 oU59 ?v0_2601 (.inl ⟨by rfl, ?h0_2601⟩) ?r0_2601
        case h0_2601 =>
         intro W
         unfold oU59
         go_simp
         try with_reducible rfl
        try simp only [oU59, PT]
        refine tkL 1 oU60 ?v1_2602 (.inl ⟨by rfl, ?h1_2602⟩) ?r1_2602
        case h1_2602 =>
         intro W hSW
         unfold oU60
         try dsimp only at hSW
         go_simp
         try with_reducible rfl
        try simp only [oU60, PT]
        refine tkL 2 oU61 ?v2_2603 (.inl ⟨by rfl, ?h2_2603⟩) ?r2_2603
        case h2_2603 =>
         intro W hSW
         unfold oU61
         try dsimp only at hSW
         go_simp
         try with_reducible rfl
        try simp only [oU61, PT]
        refine tkL 3 oU62 ?v3_2604 (.inl ⟨by rfl, ?h3_2604⟩) ?r3_2604
        case h3_2604 =>
         intro W hSW
         unfold oU62
         try dsimp only at hSW
         go_simp
         try with_reducible rfl
        try simp only [oU62, PT]
        refine tkL 4 oU63 ?v4_2605 (.inl ⟨by rfl, ?h4_2605⟩) ?r4_2605
        case h4_2605 =>
         intro W hSW
         unfold oU63
         try dsimp only at hSW
         have hcc := (hSW.cell (p := ⟨bl, 20, none⟩) HLB.out.1).trans HR1.out
         go_simp
         try with_reducible rfl
        try simp only [oU63, PT]
        refine tkL 5 oU64 (.agg #[.int .i64 (P : Int), .int .i64 md, .int .i64 hh, .slice (some ⟨g3, 0, none⟩) N c3, .slice (some ⟨g4, 0, none⟩) N c4, .slice (some ⟨g5, 0, none⟩) N c5]) (yieldsIf_load_mid rfl _ (.tmp 12) rfl b12 0 rfl [.int .i64 (P : Int), .int .i64 md, .int .i64 hh, .slice (some ⟨g3, 0, none⟩) N c3, .slice (some ⟨g4, 0, none⟩) N c4, .slice (some ⟨g5, 0, none⟩) N c5] _ (fun W hSW => fun j v hv => by rw [(HR12.out.below' hSW).cell, Nat.zero_add]; exact hv) Tryd.underlying31 rfl size6) ?_
        try simp only [oU64, PT]
        refine rdyL [6] ?_
        refine AllReadyL.cons (o := oU65) rfl (fun K hK => ?_) AllReadyL.nil
        unfold oU65
        go_simp
        obtain ⟨g171, hg171⟩ : ∃ x, wd.heap.size = x := ⟨_, rfl⟩
        have r171 := IsRow.new wd 31 [.int .i64 (P : Int), .int .i64 md, .int .i64 hh, .slice (some ⟨g3, 0, none⟩) N c3, .slice (some ⟨g4, 0, none⟩) N c4, .slice (some ⟨g5, 0, none⟩) N c5]
        obtain ⟨w600, hw600⟩ : ∃ x, wd.alloc (.cells #[.int .i64 (P : Int), .int .i64 md, .int .i64 hh, .slice (some ⟨g3, 0, none⟩) N c3, .slice (some ⟨g4, 0, none⟩) N c4, .slice (some ⟨g5, 0, none⟩) N c5] 31) = x := ⟨_, rfl⟩
        rw [show ([.int .i64 (P : Int), .int .i64 md, .int .i64 hh, .slice (some ⟨g3, 0, none⟩) N c3, .slice (some ⟨g4, 0, none⟩) N c4, .slice (some ⟨g5, 0, none⟩) N c5] : List Value).toArray = #[.int .i64 (P : Int), .int .i64 md, .int .i64 hh, .slice (some ⟨g3, 0, none⟩) N c3, .slice (some ⟨g4, 0, none⟩) N c4, .slice (some ⟨g5, 0, none⟩) N c5] from rfl, hw600, hg171] at r171
        rw [hw600, hg171]
        have b600 : Below wd.heap.size wd w600 := by rw [← hw600]; exact (Below.refl _ _).alloc (Nat.le_refl _) _
        have hv600 : Below w25.heap.size w25 w600 := hv0.trans (b600.mono hv0.size)
        clear hw600 b600 hg171
        refine hK.out _ _ (hv600) (fun hHeld => ?_)
        clear hK K
        try simp only [PT]
        refine rdyL [7] ?_
        refine AllReadyL.late (o := oU66) rfl (by rfl) (fun K hK => ?_) AllReadyL.nil
        unfold oU66
        rw [if_pos (by rfl)]
        have hlat := HLT.out.below hv600
        have hkr := hlat.krow
        replace hkr : ORow w600 31 6 m.A m.c (m.ks.map (RA.bill N)) := by rw [← HNN.out]; exact hkr
        obtain ⟨gk, ok, ck, w601, hrun, hKR, hor, hgr⟩ := run_oapp billT hkr [.int .i64 (P : Int), .int .i64 md, .int .i64 hh, .slice (some ⟨g3, 0, none⟩) N c3, .slice (some ⟨g4, 0, none⟩) N c4, .slice (some ⟨g5, 0, none⟩) N c5] rfl (by intro u hu; simp only [List.mem_cons, List.not_mem_nil, or_false] at hu; rcases hu with rfl | rfl | rfl | rfl | rfl | rfl <;> rfl) g171 (fun j u hu => by rw [r171.cell]; exact hu) (by rw [List.length_map]; have := hlat.len; omega) (by rw [List.length_map]; have := hlat.len; omega) 74
        rw [List.length_map, HLK.out] at hrun
        refine wp_arun (.tmp 169) (.tmp 171) 74 rfl _ _ _ rfl rfl hrun ?_
        have HRW := hlat.row
        have hnb : gk ≠ bl := fun e => Or.elim hor (fun ⟨o, ho⟩ => by have h1 : col gk = 4 := hlat.cka _ ho; have h2 := hlat.cbl; rw [e] at h1; omega) (fun ho => by have := HRW.lt; omega)
        have hrw := HRW.grown hgr (by intro e; exact hnb (Option.some.inj e))
        have hk1 : w601.cell? ⟨bl, 20, none⟩ = some _ := (hrw.cell 20).trans (RM.cells_tail hlat.h16 2)
        have hf1 : w601.frozen? ⟨bl, 20, none⟩ = false := hrw.frozen 20
        have hKR' : ORow w601 31 6 (some ⟨gk, ok, none⟩) ck (m.ks.map (RA.bill l.n) ++ [[.int .i64 (P : Int), .int .i64 md, .int .i64 hh, .slice (some ⟨g3, 0, none⟩) N c3, .slice (some ⟨g4, 0, none⟩) N c4, .slice (some ⟨g5, 0, none⟩) N c5]]) := by rw [HNN.out]; exact hKR
        have HPF0 := Lib.hid (rp26_of HLT.out hv600 hgr hKR' hor)
        have hv601 := hgr
        clear hKR hKR' hor hrun hkr hlat HRW hrw r171
        refine hK.out _ _ ?_
        clear hK K
        try simp only [PT]
        refine tkE 8 oU67 ?v8_2607 (.inl ⟨by rfl, ?h8_2607⟩) ?r8_2607
        case h8_2607 =>
         intro W
         unfold oU67
         go_simp
         try with_reducible rfl
        try simp only [oU67, PT]
        refine tkE 9 oU68 ?v9_2608 (.inl ⟨by rfl, ?h9_2608⟩) ?r9_2608
        case h9_2608 =>
         intro W
         unfold oU68
         go_simp
         try with_reducible rfl
        try simp only [oU68, PT]
        refine rdyL [10] ?_
        refine AllReadyL.late (o := oU69) rfl (by rfl) (fun K hK => ?_) AllReadyL.nil
        unfold oU69
        go_simp
        obtain ⟨w602, hw602⟩ : ∃ x, w601.setCell ⟨bl, 20, none⟩ (.slice (some ⟨gk, ok, none⟩) (Lk + 1) ck) = x := ⟨_, rfl⟩
        rw [hw602]
        have HPF : Hid (RP26 w25 w602 bl N P1 l.head gk ok ck m [.int .i64 (P : Int), .int .i64 md, .int .i64 hh, .slice (some ⟨g3, 0, none⟩) N c3, .slice (some ⟨g4, 0, none⟩) N c4, .slice (some ⟨g5, 0, none⟩) N c5]) := Lib.hid (by have h1 := HPF0.out; rw [HLK.out, hw602] at h1; rw [← HNN.out]; rw [← HNN.out] at h1; exact h1)
        have hv602 := HPF
        clear hw602
        refine hK.out _ _ ?_
        clear hK K
        try simp only [PT]
        refine wpAnyL_done (by kernel_rfl) ?_ _
        go_wp2_with fail
        go_meet
        exact ⟨gk, ok, ck, HPF⟩
       case rest =>
        obtain ⟨gk, ok, ck, HP⟩ := hcut
        obtain ⟨w26, hw26⟩ : ∃ x, wc = x := ⟨_, rfl⟩
        try rw [hw26] at HP ⊢
        clear hw26 HR1 HR12
        obtain ⟨M, hM, hmk⟩ := mkInts N (by have := HN.out; have := HNN.out; omega)
        have HM := Lib.hid hM
        clear hM
        have HR2 : Hid (w26.cell? ⟨bl, 0, none⟩ = some (.int .i64 (N : Int)) ∧ w26.cell? ⟨bl, 21, none⟩ = some (.slice m.G Lk m.d) ∧ bl < w26.heap.size) := Lib.hid ⟨rcell_n HP.out.row, by rw [← HLK.out]; exact (rcell_g HP.out.row HH.out.h16).1, HP.out.row.lt⟩
        have HMG : Hid (∀ a, m.G = some a → a.block < w26.heap.size ∧ a.block ≠ bl) := Lib.hid (fun a ha => ⟨Nat.lt_of_lt_of_le (HLT.out.grow.lt ha) HP.out.keep.size, fun e => by have h1 := HLT.out.cga a ha; have h2 := HLT.out.cbl; rw [e] at h1; omega⟩)
        have HGR : Hid (ORow w26 29 1 m.G m.d (m.ks.map (RA.gr N))) := Lib.hid (by
         have h1 := HLT.out.grow
         have h3 : ORow w25 29 1 m.G m.d (m.ks.map (RA.gr l.n)) := h1
         rw [HNN.out] at h3
         refine h3.keep fun a ha => HP.out.keep.block a.block (HLT.out.grow.lt ha) fun e => ?_
         have h2 := HLT.out.cga a ha
         rcases e with e | ⟨a', ha', e⟩
         ·
          have := HLT.out.cbl; rw [e] at h2; omega
         ·
          have := HLT.out.cka a' ha'; rw [e] at h2; omega)
        go_upto_region 27 with fail
        go_cut [] from 175 to 188 (fun wx => ∃ gg og gc bg, Hid (RP27 w26 wx bl N P1 l.head (.slice (some ⟨gk, ok, none⟩) (m.ks.length + 1) ck) gg og gc m bg))
        case first =>
         go_wp2_with fail
         have hv0 : Below w26.heap.size w26 w26.drew := (Below.refl _ _).drew
         refine wp_region_late (fun W => Below w26.heap.size w26 W) [0, 11, 12, 13, 14] (by kernel_rfl) (hv0) (fun hHeld => ?_)
         obtain ⟨wd, hwd⟩ : ∃ x, w26.drew = x := ⟨_, rfl⟩
         rw [hwd] at hv0 hHeld ⊢
         clear hwd
         refine tkE 0 oU70 ?v0_2701 (.inl ⟨by rfl, ?h0_2701⟩) ?r0_2701
         case h0_2701 =>
          intro W
          unfold oU70
          go_simp
          try with_reducible rfl
         try simp only [oU70, PT]
         refine tkL 1 oU71 ?v1_2702 (.inl ⟨by rfl, ?h1_2702⟩) ?r1_2702
         case h1_2702 =>
          intro W hSW
          unfold oU71
          try dsimp only at hSW
          go_simp
          try with_reducible rfl
         try simp only [oU71, PT]
         refine tkL 2 oU72 ?v2_2703 (.inl ⟨by rfl, ?h2_2703⟩) ?r2_2703
         case h2_2703 =>
          intro W hSW
          unfold oU72
          try dsimp only at hSW
          go_simp
          try with_reducible rfl
         try simp only [oU72, PT]
         refine tkL 3 oU73 ?v3_2704 (.inl ⟨by rfl, ?h3_2704⟩) ?r3_2704
         case h3_2704 =>
          intro W hSW
          unfold oU73
          try dsimp only at hSW
          go_simp
          try with_reducible rfl
         try simp only [oU73, PT]
         refine tkL 4 oU74 ?v4_2705 (.inl ⟨by rfl, ?h4_2705⟩) ?r4_2705
         case h4_2705 =>
          intro W hSW
          unfold oU74
          try dsimp only at hSW
          have hcc := (hSW.cell (p := ⟨bl, 21, none⟩) HR2.out.2.2).trans HR2.out.2.1
          go_simp
          try with_reducible rfl
         try simp only [oU74, PT]
         refine tkL 5 oU75 ?v5_2706 (.inl ⟨by rfl, ?h5_2706⟩) ?r5_2706
         case h5_2706 =>
          intro W hSW
          unfold oU75
          try dsimp only at hSW
          go_simp
          try with_reducible rfl
         try simp only [oU75, PT]
         refine tkL 6 oU76 ?v6_2707 (.inl ⟨by rfl, ?h6_2707⟩) ?r6_2707
         case h6_2707 =>
          intro W hSW
          unfold oU76
          try dsimp only at hSW
          go_simp
          try with_reducible rfl
         try simp only [oU76, PT]
         refine tkL 7 oU77 ?v7_2708 (.inl ⟨by rfl, ?h7_2708⟩) ?r7_2708
         case h7_2708 =>
          intro W hSW
          unfold oU77
          try dsimp only at hSW
          go_simp
          try with_reducible rfl
         try simp only [oU77, PT]
         refine tkL 8 oU78 ?v8_2709 (.inl ⟨by rfl, ?h8_2709⟩) ?r8_2709
         case h8_2709 =>
          intro W hSW
          unfold oU78
          try dsimp only at hSW
          have hcc := (hSW.cell (p := ⟨bl, 0, none⟩) HR2.out.2.2).trans HR2.out.1
          go_simp
          try with_reducible rfl
         try simp only [oU78, PT]
         refine rdyL [9] ?_
         refine AllReadyL.cons (o := oU79) rfl (fun K hK => ?_) AllReadyL.nil
         unfold oU79
         go_simp
         obtain ⟨g184, hg184⟩ : ∃ x, wd.heap.size = x := ⟨_, rfl⟩
         obtain ⟨w700, hw700⟩ : ∃ x, wd.alloc (.cells M 3) = x := ⟨_, rfl⟩
         rw [hw700, hg184]
         obtain ⟨r184, z700, b700⟩ := new_ints hw700 HM.out
         rw [hg184] at r184
         have hv700 : Below w26.heap.size w26 w700 := hv0.trans (b700.mono hv0.size)
         have l184 : w26.heap.size ≤ g184 := by rw [← hg184]; exact hv0.size
         clear hw700 b700 z700 hg184
         refine hK.out _ _ (hv700) (fun hHeld => ?_)
         clear hK K
         try simp only [PT]
         refine rdyL [10] ?_
         refine AllReadyL.cons (o := oU80) rfl (fun K hK => ?_) AllReadyL.nil
         unfold oU80
         go_simp
         obtain ⟨g185, hg185⟩ : ∃ x, w700.heap.size = x := ⟨_, rfl⟩
         have r185 := IsRow.new w700 29 [.slice (some ⟨g184, 0, none⟩) N N]
         obtain ⟨w701, hw701⟩ : ∃ x, w700.alloc (.cells #[.slice (some ⟨g184, 0, none⟩) N N] 29) = x := ⟨_, rfl⟩
         rw [show ([.slice (some ⟨g184, 0, none⟩) N N] : List Value).toArray = #[.slice (some ⟨g184, 0, none⟩) N N] from rfl, hw701, hg185] at r185
         rw [hw701, hg185]
         have b701 : Below w700.heap.size w700 w701 := by rw [← hw701]; exact (Below.refl _ _).alloc (Nat.le_refl _) _
         have hv701 : Below w26.heap.size w26 w701 := hv700.trans (b701.mono hv700.size)
         have r184 := r184.below b701
         clear hw701 b701 hg185
         refine hK.out _ _ (hv701) (fun hHeld => ?_)
         clear hK K
         try simp only [PT]
         refine rdyL [11] ?_
         refine AllReadyL.late (o := oU81) rfl (by rfl) (fun K hK => ?_) AllReadyL.nil
         unfold oU81
         rw [if_pos (by rfl)]
         have hgr0 := HGR.out.below hv701
         obtain ⟨gg, og, gc, w702, hrun, hKR, hor, hgr⟩ := run_oapp rintsT hgr0 [.slice (some ⟨g184, 0, none⟩) N N] rfl (by intro u hu; obtain rfl := List.mem_singleton.1 hu; rfl) g185 (fun j u hu => by rw [r185.cell]; exact hu) (by rw [List.length_map]; have := HLT.out.len; omega) (by rw [List.length_map]; have := HLT.out.len; omega) 39
         rw [List.length_map, HLK.out] at hrun
         refine wp_arun (.tmp 179) (.tmp 185) 39 rfl _ _ _ rfl rfl hrun ?_
         have HRW := HP.out.row.below' hv701
         have hnb : gg ≠ bl := fun e => Or.elim hor (fun ⟨o, ho⟩ => (HMG.out _ ho).2 e) (fun ho => by have := HRW.lt; omega)
         have hrw := HRW.grown hgr (by intro e; exact hnb (Option.some.inj e))
         have hk1 : w702.cell? ⟨bl, 21, none⟩ = some _ := (rcell_g hrw HH.out.h16).1
         have hf1 : w702.frozen? ⟨bl, 21, none⟩ = false := (rcell_g hrw HH.out.h16).2
         have HPF0 := Lib.hid (rp27_of HH.out.h16 HP.out.row HMG.out hv701 hgr hKR hor r184 l184)
         have hv702 := hgr
         clear hKR hor hrun hgr0 HRW hrw r185 r184 l184
         refine hK.out _ _ ?_
         clear hK K
         try simp only [PT]
         refine tkE 12 oU82 ?v12_2710 (.inl ⟨by rfl, ?h12_2710⟩) ?r12_2710
         case h12_2710 =>
          intro W
          unfold oU82
          go_simp
          try with_reducible rfl
         try simp only [oU82, PT]
         refine tkE 13 oU83 ?v13_2711 (.inl ⟨by rfl, ?h13_2711⟩) ?r13_2711
         case h13_2711 =>
          intro W
          unfold oU83
          go_simp
          try with_reducible rfl
         try simp only [oU83, PT]
         refine rdyL [14] ?_
         refine AllReadyL.late (o := oU84) rfl (by rfl) (fun K hK => ?_) AllReadyL.nil
         unfold oU84
         go_simp
         obtain ⟨w703, hw703⟩ : ∃ x, w702.setCell ⟨bl, 21, none⟩ (.slice (some ⟨gg, og, none⟩) (Lk + 1) gc) = x := ⟨_, rfl⟩
         rw [hw703]
         have HPF := HPF0.out
         rw [HLK.out, hw703] at HPF
         rw [← HLK.out] at HPF
         have HPF := Lib.hid HPF
         have hv703 := HPF
         clear hw703
         refine hK.out _ _ ?_
         clear hK K
         try simp only [PT]
         refine wpAnyL_done (by kernel_rfl) ?_ _
         go_wp2_with fail
         go_meet
         exact ⟨gg, og, gc, g184, by have := HPF.out; exact Lib.hid this⟩
        case rest =>
         obtain ⟨gg, og, gc, bg, HP7⟩ := hcut
         obtain ⟨w27, hw27⟩ : ∃ x, wc = x := ⟨_, rfl⟩
         try rw [hw27] at HP7 ⊢
         clear hw27 hmk HM HR2 HMG HGR
         obtain ⟨L1, hL1⟩ : ∃ y, Lk + 1 = y := ⟨_, rfl⟩
         have hck : L1 ≤ ck := by
          obtain ⟨g', off', he, h1, _⟩ := HP.out.kr.form (by rw [List.length_append]; simp)
          rw [List.length_append, List.length_singleton, List.length_map, HLK.out, hL1] at h1
          exact h1
         have hgc : L1 ≤ gc := by
          obtain ⟨g', off', he, h1, _⟩ := HP7.out.gr.form (by rw [List.length_append]; simp)
          rw [List.length_append, List.length_singleton, List.length_map, HLK.out, hL1] at h1
          exact h1
         have hks : m.ks.length ≤ 16 := HLT.out.len
         have hL17 : L1 ≤ 17 := by rw [← hL1, ← HLK.out]; omega
         obtain ⟨d, hd⟩ : ∃ y, L1 - 16 = y := ⟨_, rfl⟩
         have HROW : Hid (IsRow w27 bl 76 (rcs N P1 l.head m.bp m.cp m.bq m.cq (.slice (some ⟨gk, ok, none⟩) L1 ck) (.slice (some ⟨gg, og, none⟩) L1 gc))) := Lib.hid (by have := HP7.out.row; rwa [HLK.out, hL1] at this)
         obtain ⟨k20, f20⟩ := rcell_k HROW.out HH.out.h16
         obtain ⟨k21, f21⟩ := rcell_g HROW.out HH.out.h16
         have HL1 := Lib.hid (And.intro hL1 hd)
         go_upto_if 194 with fail
         go_cut [] from 194 to 210 (fun wx => Hid (IsRow wx bl 76 (rcs N P1 l.head m.bp m.cp m.bq m.cq (.slice (some ⟨gk, ok + d * 6, none⟩) (L1 - d) (ck - d)) (.slice (some ⟨gg, og + d * 1, none⟩) (L1 - d) (gc - d))) ∧ Keep (fun q => q = bl) w27 wx))
         case first =>
          by_cases h16 : L1 ≤ 16
          ·
           obtain rfl : d = 0 := by omega
           clear hck hgc hks hL17 hL1
           have n1 : ¬ ((16 : Int) < (L1 : Int)) := by omega
           have n2 : decide ((16 : Int) < (L1 : Int)) = false := decide_eq_false n1
           have n3 : decide (16 < L1) = false := decide_eq_false (by omega)
           clear h16 hd
           go_wp2_with fail
           go_meet
           exact Lib.hid ⟨by simpa using HROW.out, Keep.refl _ _⟩
          ·
           obtain rfl : d = 1 := by omega
           have n1 : (16 : Int) < (L1 : Int) := by omega
           have n2 : decide ((16 : Int) < (L1 : Int)) = true := decide_eq_true n1
           have hs1 : ∀ W : World, (Instr.sliceAt 74 (.slice (some ⟨gk, ok, none⟩) L1 ck) (some (.int .i64 1)) none none).run Tryd.prog W = .ok (.slice (some ⟨gk, ok + 1 * 6, none⟩) (L1 - 1) (ck - 1)) W := fun W => (run_cutFrom (P := Tryd.prog) W billT (some ⟨gk, ok, none⟩) L1 ck 1 .i64 (by omega)).trans (by rw [cut_valS gk ok 6 L1 ck 1 (by omega)])
           have hs2 : ∀ W : World, (Instr.sliceAt 39 (.slice (some ⟨gg, og, none⟩) L1 gc) (some (.int .i64 1)) none none).run Tryd.prog W = .ok (.slice (some ⟨gg, og + 1 * 1, none⟩) (L1 - 1) (gc - 1)) W := fun W => (run_cutFrom (P := Tryd.prog) W rintsT (some ⟨gg, og, none⟩) L1 gc 1 .i64 (by omega)).trans (by rw [cut_valS gg og 1 L1 gc 1 (by omega)])
           have k21' : (w27.setCell ⟨bl, 20, none⟩ (.slice (some ⟨gk, ok + 1 * 6, none⟩) (L1 - 1) (ck - 1))).cell? ⟨bl, 21, none⟩ = some (.slice (some ⟨gg, og, none⟩) L1 gc) := by rw [cell_set_ne _ _ (by omega)]; exact k21
           clear h16 hd hck hgc hks hL17 hL1
           go_wp2_with fail
           go_meet
           refine Lib.hid ⟨?_, ?_⟩
           ·
            have h1 := (HROW.out.set 20 (.slice (some ⟨gk, ok + 1 * 6, none⟩) (L1 - 1) (ck - 1))).set 21 (.slice (some ⟨gg, og + 1 * 1, none⟩) (L1 - 1) (gc - 1))
            rw [rcs_set20 HH.out.h16, rcs_set21 HH.out.h16] at h1
            exact h1
           ·
            exact Keep.setCell (S := fun q => q = bl) (a := ⟨bl, 21, none⟩) (Keep.setCell (S := fun q => q = bl) (a := ⟨bl, 20, none⟩) (Keep.refl _ _) (.inl rfl) _) (.inl rfl) _
         case rest =>
          have HP30 := hcut
          obtain ⟨w30, hw30⟩ : ∃ x, wc = x := ⟨_, rfl⟩
          try rw [hw30] at HP30 ⊢
          clear hw30 hcut k20 f20 k21 f21 hck hgc
          have hcn : C.length = N := by rw [HC.out, HNN.out]
          have hUn : U.length = N := by rw [HUL.out, hcn]
          have hTn : T.length = N := by rw [HTL.out, hcn]
          have hmem := @rclose_fin w25 w26 bl gk ok ck gg og gc col m l w w14 w27 w30 b12 w14.heap.size B N c c3 c4 c5 P P1 d bg g3 g4 g5 L1 Lk _ C U T (some ⟨bA, offA, none⟩) md hh HC1 HNN.out hcn hUn hTn HP HP7 HP30 HLK.out hL1 hd HTB.out HTT.out
          obtain ⟨col', m', hl30, hc2, hc3, hk30, hr12, F3, F4, F5, rd30, hq3, hq4, hq5⟩ := hmem
          have HQ6 := Lib.hid (And.intro hq3 (And.intro hq4 hq5))
          clear hq3 hq4 hq5
          have hbill : Bil.billOf l md hs C = ⟨(P : Int), md, hh, C, U, T⟩ := by
           unfold Bil.billOf
           rw [HUT.out.1, HUT.out.2, HPP.out, ← HHH.out]
           unfold sumK
           rw [List.take_of_length_le (by omega)]
          have hcl : Bil.closeOf (bookHead l.head ⟨(encClose md hs C).toArray⟩) l md hs C = { l with periods := P1, pending := List.zipWith (· - ·) l.pending U, paid := List.zipWith (· + ·) l.paid T, kept := (l.kept ++ [(⟨⟨(P : Int), md, hh, C, U, T⟩, List.replicate N 0⟩ : Bil.Acc)]).drop d, head := bookHead l.head ⟨(encClose md hs C).toArray⟩ } := by
           unfold Bil.closeOf Bil.keep16
           have hd' : (l.kept ++ [(⟨⟨(P : Int), md, hh, C, U, T⟩, List.replicate N 0⟩ : Bil.Acc)]).length - 16 = d := by
            rw [List.length_append, List.length_singleton, HH.out.klen, HLK.out, hL1, hd]
           rw [hbill, HUT.out.1, HUT.out.2, HNN.out, hd', HPP.out, HP1.out]
          have hle : (encClose md hs C).length ≤ 1000000 := by
           have h1 := Wire.enc_length_le 1
           have h2 := Wire.enc_length_le md
           have h3 := Wire.enc_length_le hs
           have h4 := encI_len C
           have := HN.out.2
           have := HNN.out
           unfold encClose
           simp only [List.length_append]
           omega
          have hmdr := fits_range HOK.out.2.1
          have hhsr := HHS.out
          have hi64 : I64s C := fun x hx => by
           have := fits_range (HOK.out.2.2.2.1 x hx)
           omega
          have z30 := hk30.size
          have z25 := HC1.out.keep.size
          have z14 := HW14.out.size
          have HE := Lib.hid (rEncodeClose_any md hs (by omega) (by omega) (by omega) (by omega) (some ⟨bA, offA, none⟩) N c C hcn (by have := HN.out; have := HNN.out; omega) hi64 B w30 rd30 (by have := HBB.out; omega))
          have hsz : (⟨(encClose md hs C).toArray⟩ : ByteArray).size ≤ 1000000 := by show (encClose md hs C).toArray.size ≤ _; simpa using hle
          have h15 := HG15.out
          have hcz : ∀ b, w.heap.size ≤ b → col b = 0 := fun b hb => by
           rcases Nat.eq_zero_or_pos (col b) with h | h
           ·
            exact h
           ·
            have := HCZ.out b (by omega); omega
          have K25 : Keep (fun b => col b ≠ 0 ∧ col b ≠ 6) w w25 := (Keep.of_below HW14.out).then HC1.out.keep (fun k h => h.elim .inl (fun e => .inr (by omega)))
          have K30 := K25.trans hk30
          have HBK := Lib.hid (fun (W : World) (hW : Below w30.heap.size w30 W) => rbook_any bl col' m' _ ⟨(encClose md hs C).toArray⟩ hsz W (hl30.below hW) (HTT.out.keeps (K30.then_below hW) (by have := HH.out.tab.2.2; omega)))
          have hcb' : col' b8 = 0 := by
           rcases Nat.eq_zero_or_pos (col' b8) with h0 | h0
           ·
            exact h0
           ·
            have h9 := hcz b8 (by omega)
            rcases hc2 b8 (by omega) with h | h <;> omega
          have Q8 : IsRow w30 b8 31 Z6 := by
           have h9 := hcz b8 (by omega)
           have h1 := HQ14.out.keep (HC1.out.keep.block b8 HQ14.out.lt (fun e => by omega))
           exact h1.keep (hk30.block b8 h1.lt (fun e => by omega))
          have hr12' : IsRow w30 b12 31 [.int .i64 (P : Int), .int .i64 md, .int .i64 hh, .slice (some ⟨g3, 0, none⟩) N c3, .slice (some ⟨g4, 0, none⟩) N c4, .slice (some ⟨g5, 0, none⟩) N c5] := by rwa [HPP.out] at hr12
          have hbl' : ∀ b, w.heap.size ≤ b → b ≠ bl := fun b hb h => by have := hcz b hb; have := HH.out.cbl; subst h; omega
          have hg3 := own_above HC1.out.own3 (k := g3) rfl
          have hg4 := own_above HC1.out.own4 (k := g4) rfl
          have hg5 := own_above HC1.out.own5 (k := g5) rfl
          have HBZ : Hid (b12 ≠ bl ∧ b8 ≠ bl ∧ g3 ≠ bl ∧ g4 ≠ bl ∧ g5 ≠ bl ∧ w.heap.size ≤ b8 ∧ col' b8 = 0) := Lib.hid ⟨hbl' _ (by omega), hbl' _ (by omega), hbl' _ (by omega), hbl' _ (by omega), hbl' _ (by omega), by omega, hcb'⟩
          have HFF := Lib.hid (And.intro F3 (And.intro F4 (And.intro F5 (And.intro Q8 hr12'))))
          have HLN := Lib.hid (And.intro hcn (And.intro hUn hTn))
          have HCL' := Lib.hid (And.intro hbill hcl)
          have HC23 := Lib.hid (And.intro hc2 hc3)
          have HK30 := Lib.hid K30
          clear hbill hcl hle hmdr hhsr hi64 z30 z25 z14 hsz h15 hcz K25 K30 hcb' Q8 hr12 hr12' hbl' hg3 hg4 hg5 F3 F4 F5 rd30 hl30 hc2 hc3 hk30 hcn hUn hTn hL1 hd hks hL17
          go_wp2_with (first
           | (go_at_call 40; refine HE.out.mono ?_; rintro e w31 ⟨rfl, b31⟩; have HB31 := Lib.hid b31; clear b31)
           | (go_at_call 39; refine (HBK.out w31 HB31.out).mono ?_; rintro e w32 ⟨rfl, hl32, hk32⟩; have HL32 := Lib.hid hl32; have HK32 := Lib.hid hk32; have q12 := (HFF.out.2.2.2.2.below' HB31.out).keep (hk32.block b12 (Nat.lt_of_lt_of_le HFF.out.2.2.2.2.lt HB31.out.size) HBZ.out.1); have q8 := (HFF.out.2.2.2.1.below' HB31.out).keep (hk32.block b8 (Nat.lt_of_lt_of_le HFF.out.2.2.2.1.lt HB31.out.size) HBZ.out.2.1); clear hl32 hk32)
           | (refine wpList_loadS rfl _ (.tmp 12) rfl q12 rfl Tryd.underlying31 size6 ?_)
           | (refine wpList_storeRow rfl _ (.tmp 8) (.tmp 217) rfl (l' := [.int .i64 (P : Int), .int .i64 md, .int .i64 hh, .slice (some ⟨g3, 0, none⟩) N c3, .slice (some ⟨g4, 0, none⟩) N c4, .slice (some ⟨g5, 0, none⟩) N c5]) q8 rfl rfl size6 rfl rfl ?_; intro w33 r33 g33 z33))
          have K32 : Keep (fun b => col b ≠ 0 ∧ col b ≠ 6) w w32 := (HK30.out.then_below HB31.out).trans (HK32.out.mono fun b _ e => by subst e; show col b ≠ 0 ∧ col b ≠ 6; have := HH.out.cbl; omega)
          have K33 : Keep (fun b => col b ≠ 0 ∧ col b ≠ 6) w w33 := K32.grown g33 fun k e => .inr (by have := Option.some.inj e; have := HBZ.out.2.2.2.2.2.1; omega)
          have HL33 := HL32.out.keeps (S := fun k => k = b8) (Keep.of_grown g33 fun k e => (Option.some.inj e).symm) (fun b e => by subst e; exact HBZ.out.2.2.2.2.2.2)
          have fr : ∀ {g : Nat} {X : List Int}, FRow w30 g N (fun t => X.getD t 0) → g ≠ bl → g ≠ b8 → X.length = N → Rd w33 w33.heap.size 1 (some ⟨g, 0, none⟩) N (ivs X) := fun h1 h2 h3 h4 => (((h1.below HB31.out).keeps HK32.out h2).keep (g33.block _ ((h1.below HB31.out).keeps HK32.out h2).lt (fun e => h3 (Option.some.inj e)))).rd h4
          have hgb : g3 ≠ b8 ∧ g4 ≠ b8 ∧ g5 ≠ b8 := by
           have h15 := HG15.out
           have hg3 := own_above HC1.out.own3 (k := g3) rfl
           have hg4 := own_above HC1.out.own4 (k := g4) rfl
           have hg5 := own_above HC1.out.own5 (k := g5) rfl
           omega
          exact bodyPost_ret (resultRowST rfl _ _ r33 rfl Tryd.underlying31 size6) rfl (.inr ⟨by rw [HPP.out]; exact HPL.out, _, col', _, rfl, by rw [HCL'.out.1]; exact ⟨_, _, _, N, N, N, c3, c4, c5, rfl, HLN.out, fr HFF.out.1 HBZ.out.2.2.1 hgb.1 HLN.out.1, fr HFF.out.2.1 HBZ.out.2.2.2.1 hgb.2.1 HLN.out.2.1, fr HFF.out.2.2.1 HBZ.out.2.2.2.2.1 hgb.2.2 HLN.out.2.2, fun a ha => (by obtain rfl := Option.some.inj ha; show col' g3 ≠ 0; rw [HQ6.out.1]; decide), fun a ha => (by obtain rfl := Option.some.inj ha; show col' g4 ≠ 0; rw [HQ6.out.2.1]; decide), fun a ha => (by obtain rfl := Option.some.inj ha; show col' g5 ≠ 0; rw [HQ6.out.2.2]; decide)⟩, by rw [HCL'.out.2]; exact HL33, K33, fun b hb => (HC23.out.1 b hb).imp id (fun h => Nat.le_trans HW14.out.size h), HC23.out.2⟩)

end Go.Proofs.YtkjomnakolhdcaaDoor
