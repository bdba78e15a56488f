/- Layer 35's Close where its arguments fit. Conditions: at most 16 tenants; what is pending and paid at most 2^60; the tables of the digest are in memory. -/
import Derived.Test.YtkjomnakolhdcaaDoorHeld2
import Derived.Test.YtkjomnakolhdcaaDoorBilLX
namespace Go.Proofs.YtkjomnakolhdcaaDoor
set_option linter.unusedVariables false
set_option linter.unusedSimpArgs false
open Go.RowKit
abbrev oY0 : Oper := { dst := some 117, op := Op.fieldAddr 31 (Operand.tmp 15) 4, type := 0, pos := "bills.go:89", after := #[], guard := none }
abbrev oY1 : Oper := { dst := some 118, op := Op.load 29 (Operand.tmp 117), type := 29, pos := "bills.go:89", after := #[{ on := 0, ground := Ground.data }], guard := none }
abbrev oY2 : Oper := { dst := some 119, op := Op.move (Operand.tmp 18), type := 3, pos := "bills.go:89", after := #[], guard := none }
abbrev oY3 : Oper := { dst := some 122, op := Op.fieldAddr 31 (Operand.tmp 15) 5, type := 0, pos := "bills.go:89", after := #[], guard := none }
abbrev oY4 : Oper := { dst := some 123, op := Op.load 29 (Operand.tmp 122), type := 29, pos := "bills.go:89", after := #[{ on := 5, ground := Ground.data }], guard := none }
abbrev oY5 : Oper := { dst := some 124, op := Op.move (Operand.tmp 17), type := 3, pos := "bills.go:89", after := #[], guard := none }
abbrev oY6 : Oper := { dst := some 125, op := Op.move (Operand.tmp 18), type := 3, pos := "bills.go:89", after := #[], guard := none }
abbrev oY7 : Oper := { dst := some 126, op := Op.binOp BinOp.sub 3 (Operand.tmp 124) (Operand.tmp 125) 3, type := 3, pos := "bills.go:89", after := #[{ on := 7, ground := Ground.data }, { on := 8, ground := Ground.data }], guard := none }
abbrev oY8 : Oper := { dst := some 120, op := Op.buildSlice 29 1 #[(0, Operand.tmp 119)], type := 29, pos := "bills.go:89", after := #[{ on := 2, ground := Ground.data }], guard := none }
abbrev oY9 : Oper := { dst := some 121, op := Op.call { callee := Callee.builtin Builtin.append, args := #[Operand.tmp 118, Operand.tmp 120], argTypes := #[29, 29] }, type := 29, pos := "bills.go:89", after := #[{ on := 1, ground := Ground.data }, { on := 3, ground := Ground.data }], guard := none }
abbrev oY10 : Oper := { dst := some 129, op := Op.fieldAddr 31 (Operand.tmp 15) 4, type := 0, pos := "bills.go:89", after := #[{ on := 0, ground := Ground.phase }, { on := 1, ground := Ground.phase }, { on := 2, ground := Ground.phase }, { on := 3, ground := Ground.phase }, { on := 4, ground := Ground.phase }, { on := 5, ground := Ground.phase }, { on := 6, ground := Ground.phase }, { on := 7, ground := Ground.textOnly Departure.lateStores }, { on := 8, ground := Ground.textOnly Departure.lateStores }, { on := 9, ground := Ground.textOnly Departure.lateStores }, { on := 10, ground := Ground.textOnly Departure.lateStores }, { on := 11, ground := Ground.textOnly Departure.lateStoresUnsure }], guard := none }
abbrev oY11 : Oper := { dst := some 127, op := Op.buildSlice 29 1 #[(0, Operand.tmp 126)], type := 29, pos := "bills.go:89", after := #[{ on := 9, ground := Ground.data }], guard := none }
abbrev oY12 : Oper := { dst := some 128, op := Op.call { callee := Callee.builtin Builtin.append, args := #[Operand.tmp 123, Operand.tmp 127], argTypes := #[29, 29] }, type := 29, pos := "bills.go:89", after := #[{ on := 6, ground := Ground.data }, { on := 10, ground := Ground.data }, { on := 4, ground := Ground.chain }], guard := none }
abbrev oY13 : Oper := { dst := none, op := Op.store 29 (Operand.tmp 129) (Operand.tmp 121), type := 0, pos := "bills.go:89", after := #[{ on := 12, ground := Ground.data }, { on := 4, ground := Ground.data }, { on := 11, ground := Ground.chain }, { on := 0, ground := Ground.phase }, { on := 1, ground := Ground.phase }, { on := 2, ground := Ground.phase }, { on := 3, ground := Ground.phase }, { on := 4, ground := Ground.phase }, { on := 5, ground := Ground.phase }, { on := 6, ground := Ground.phase }, { on := 7, ground := Ground.textOnly Departure.lateStores }, { on := 8, ground := Ground.textOnly Departure.lateStores }, { on := 9, ground := Ground.textOnly Departure.lateStores }, { on := 10, ground := Ground.textOnly Departure.lateStores }, { on := 11, ground := Ground.textOnly Departure.lateStoresUnsure }], guard := none }
abbrev oY14 : Oper := { dst := some 130, op := Op.fieldAddr 31 (Operand.tmp 15) 5, type := 0, pos := "bills.go:89", after := #[{ on := 0, ground := Ground.phase }, { on := 1, ground := Ground.phase }, { on := 2, ground := Ground.phase }, { on := 3, ground := Ground.phase }, { on := 4, ground := Ground.phase }, { on := 5, ground := Ground.phase }, { on := 6, ground := Ground.phase }, { on := 7, ground := Ground.phase }, { on := 8, ground := Ground.phase }, { on := 9, ground := Ground.phase }, { on := 10, ground := Ground.phase }, { on := 11, ground := Ground.phase }, { on := 12, ground := Ground.phase }, { on := 13, ground := Ground.phase }], guard := none }
abbrev oY15 : Oper := { dst := none, op := Op.store 29 (Operand.tmp 130) (Operand.tmp 128), type := 0, pos := "bills.go:89", after := #[{ on := 14, ground := Ground.data }, { on := 11, ground := Ground.data }, { on := 13, ground := Ground.chain }, { on := 0, ground := Ground.phase }, { on := 1, ground := Ground.phase }, { on := 2, ground := Ground.phase }, { on := 3, ground := Ground.phase }, { on := 4, ground := Ground.phase }, { on := 5, ground := Ground.phase }, { on := 6, ground := Ground.phase }, { on := 7, ground := Ground.phase }, { on := 8, ground := Ground.phase }, { on := 9, ground := Ground.phase }, { on := 10, ground := Ground.phase }, { on := 11, ground := Ground.phase }, { on := 12, ground := Ground.phase }, { on := 13, ground := Ground.phase }], guard := none }
abbrev oY16 : Oper := { dst := some 139, op := Op.move (Operand.tmp 0), type := 25, pos := "bills.go:92", after := #[], guard := none }
abbrev oY17 : Oper := { dst := some 140, op := Op.move (Operand.tmp 0), type := 25, pos := "bills.go:92", after := #[], guard := none }
abbrev oY18 : Oper := { dst := some 141, op := Op.nilCheck (Operand.tmp 140), type := 0, pos := "bills.go:92", after := #[{ on := 1, ground := Ground.data }], guard := none }
abbrev oY19 : Oper := { dst := some 142, op := Op.fieldAddr 71 (Operand.tmp 141) 1, type := 0, pos := "bills.go:92", after := #[{ on := 2, ground := Ground.data }], guard := none }
abbrev oY20 : Oper := { dst := some 143, op := Op.load 69 (Operand.tmp 142), type := 69, pos := "bills.go:92", after := #[{ on := 3, ground := Ground.data }], guard := none }
abbrev oY21 : Oper := { dst := some 144, op := Op.load 31 (Operand.tmp 15), type := 31, pos := "bills.go:92", after := #[], guard := none }
abbrev oY22 : Oper := { dst := some 145, op := Op.move (Operand.tmp 0), type := 25, pos := "bills.go:92", after := #[], guard := none }
abbrev oY23 : Oper := { dst := some 146, op := Op.call { callee := Callee.value (Operand.func 43), args := #[Operand.tmp 145], argTypes := #[25] }, type := 3, pos := "bills.go:92", after := #[{ on := 6, ground := Ground.data }], guard := none }
abbrev oY24 : Oper := { dst := some 147, op := Op.makeSlice 29 (Operand.tmp 146) (Operand.tmp 146), type := 29, pos := "bills.go:92", after := #[{ on := 7, ground := Ground.data }, { on := 7, ground := Ground.data }], guard := none }
abbrev oY25 : Oper := { dst := some 148, op := Op.build 79 #[(0, Operand.tmp 144), (1, Operand.tmp 147)], type := 79, pos := "bills.go:92", after := #[{ on := 5, ground := Ground.data }, { on := 8, ground := Ground.data }], guard := none }
abbrev oY26 : Oper := { dst := some 149, op := Op.buildSlice 69 1 #[(0, Operand.tmp 148)], type := 69, pos := "bills.go:92", after := #[{ on := 9, ground := Ground.data }], guard := none }
abbrev oY27 : Oper := { dst := some 150, op := Op.call { callee := Callee.builtin Builtin.append, args := #[Operand.tmp 143, Operand.tmp 149], argTypes := #[69, 69] }, type := 69, pos := "bills.go:92", after := #[{ on := 4, ground := Ground.data }, { on := 10, ground := Ground.data }, { on := 7, ground := Ground.chain }], guard := none }
abbrev oY28 : Oper := { dst := some 151, op := Op.nilCheck (Operand.tmp 139), type := 0, pos := "bills.go:92", after := #[{ on := 0, ground := Ground.data }, { on := 0, ground := Ground.phase }, { on := 1, ground := Ground.phase }, { on := 2, ground := Ground.phase }, { on := 3, ground := Ground.phase }, { on := 4, ground := Ground.phase }, { on := 5, ground := Ground.phase }, { on := 6, ground := Ground.phase }, { on := 7, ground := Ground.phase }, { on := 8, ground := Ground.phase }, { on := 9, ground := Ground.phase }, { on := 10, ground := Ground.phase }, { on := 11, ground := Ground.phase }], guard := none }
abbrev oY29 : Oper := { dst := some 152, op := Op.fieldAddr 71 (Operand.tmp 151) 1, type := 0, pos := "bills.go:92", after := #[{ on := 12, ground := Ground.data }, { on := 0, ground := Ground.phase }, { on := 1, ground := Ground.phase }, { on := 2, ground := Ground.phase }, { on := 3, ground := Ground.phase }, { on := 4, ground := Ground.phase }, { on := 5, ground := Ground.phase }, { on := 6, ground := Ground.phase }, { on := 7, ground := Ground.phase }, { on := 8, ground := Ground.phase }, { on := 9, ground := Ground.phase }, { on := 10, ground := Ground.phase }, { on := 11, ground := Ground.phase }], guard := none }
abbrev oY30 : Oper := { dst := none, op := Op.store 69 (Operand.tmp 152) (Operand.tmp 150), type := 0, pos := "bills.go:92", after := #[{ on := 13, ground := Ground.data }, { on := 11, ground := Ground.data }, { on := 11, ground := Ground.chain }, { on := 0, ground := Ground.phase }, { on := 1, ground := Ground.phase }, { on := 2, ground := Ground.phase }, { on := 3, ground := Ground.phase }, { on := 4, ground := Ground.phase }, { on := 5, ground := Ground.phase }, { on := 6, ground := Ground.phase }, { on := 7, ground := Ground.phase }, { on := 8, ground := Ground.phase }, { on := 9, ground := Ground.phase }, { on := 10, ground := Ground.phase }, { on := 11, ground := Ground.phase }], guard := none }
abbrev oY31 : Oper := { dst := some 153, op := Op.move (Operand.tmp 0), type := 25, pos := "bills.go:93", after := #[], guard := none }
abbrev oY32 : Oper := { dst := some 154, op := Op.move (Operand.tmp 0), type := 25, pos := "bills.go:93", after := #[], guard := none }
abbrev oY33 : Oper := { dst := some 155, op := Op.nilCheck (Operand.tmp 154), type := 0, pos := "bills.go:93", after := #[{ on := 1, ground := Ground.data }], guard := none }
abbrev oY34 : Oper := { dst := some 156, op := Op.fieldAddr 71 (Operand.tmp 155) 1, type := 0, pos := "bills.go:93", after := #[{ on := 2, ground := Ground.data }], guard := none }
abbrev oY35 : Oper := { dst := some 157, op := Op.load 69 (Operand.tmp 156), type := 69, pos := "bills.go:93", after := #[{ on := 3, ground := Ground.data }], guard := none }
abbrev oY36 : Oper := { dst := some 158, op := Op.move (Operand.tmp 0), type := 25, pos := "bills.go:93", after := #[], guard := none }
abbrev oY37 : Oper := { dst := some 159, op := Op.nilCheck (Operand.tmp 158), type := 0, pos := "bills.go:93", after := #[{ on := 5, ground := Ground.data }], guard := none }
abbrev oY38 : Oper := { dst := some 160, op := Op.fieldAddr 71 (Operand.tmp 159) 1, type := 0, pos := "bills.go:93", after := #[{ on := 6, ground := Ground.data }], guard := none }
abbrev oY39 : Oper := { dst := some 161, op := Op.load 69 (Operand.tmp 160), type := 69, pos := "bills.go:93", after := #[{ on := 7, ground := Ground.data }], guard := none }
abbrev oY40 : Oper := { dst := some 162, op := Op.call { callee := Callee.builtin Builtin.len, args := #[Operand.tmp 161], argTypes := #[69] }, type := 3, pos := "bills.go:93", after := #[{ on := 8, ground := Ground.data }], guard := none }
abbrev oY41 : Oper := { dst := some 163, op := Op.binOp BinOp.sub 3 (Operand.tmp 162) (Operand.const (Value.int IntKind.i64 16)) 3, type := 3, pos := "bills.go:93", after := #[{ on := 9, ground := Ground.data }], guard := none }
abbrev oY42 : Oper := { dst := some 164, op := Op.call { callee := Callee.builtin Builtin.max, args := #[Operand.const (Value.int IntKind.i64 0), Operand.tmp 163], argTypes := #[3, 3] }, type := 3, pos := "bills.go:93", after := #[{ on := 10, ground := Ground.data }], guard := none }
abbrev oY43 : Oper := { dst := some 165, op := Op.slice 69 (Operand.tmp 157) (some (Operand.tmp 164)) none none, type := 69, pos := "bills.go:93", after := #[{ on := 4, ground := Ground.data }, { on := 11, ground := Ground.data }], guard := none }
abbrev oY44 : Oper := { dst := some 166, op := Op.nilCheck (Operand.tmp 153), type := 0, pos := "bills.go:93", after := #[{ on := 0, ground := Ground.data }, { on := 0, ground := Ground.phase }, { on := 1, ground := Ground.phase }, { on := 2, ground := Ground.phase }, { on := 3, ground := Ground.phase }, { on := 4, ground := Ground.phase }, { on := 5, ground := Ground.phase }, { on := 6, ground := Ground.phase }, { on := 7, ground := Ground.phase }, { on := 8, ground := Ground.phase }, { on := 9, ground := Ground.phase }, { on := 10, ground := Ground.phase }, { on := 11, ground := Ground.phase }, { on := 12, ground := Ground.phase }], guard := none }
abbrev oY45 : Oper := { dst := some 167, op := Op.fieldAddr 71 (Operand.tmp 166) 1, type := 0, pos := "bills.go:93", after := #[{ on := 13, ground := Ground.data }, { on := 0, ground := Ground.phase }, { on := 1, ground := Ground.phase }, { on := 2, ground := Ground.phase }, { on := 3, ground := Ground.phase }, { on := 4, ground := Ground.phase }, { on := 5, ground := Ground.phase }, { on := 6, ground := Ground.phase }, { on := 7, ground := Ground.phase }, { on := 8, ground := Ground.phase }, { on := 9, ground := Ground.phase }, { on := 10, ground := Ground.phase }, { on := 11, ground := Ground.phase }, { on := 12, ground := Ground.phase }], guard := none }
abbrev oY46 : Oper := { dst := none, op := Op.store 69 (Operand.tmp 167) (Operand.tmp 165), type := 0, pos := "bills.go:93", after := #[{ on := 14, ground := Ground.data }, { on := 12, ground := Ground.data }, { on := 0, ground := Ground.phase }, { on := 1, ground := Ground.phase }, { on := 2, ground := Ground.phase }, { on := 3, ground := Ground.phase }, { on := 4, ground := Ground.phase }, { on := 5, ground := Ground.phase }, { on := 6, ground := Ground.phase }, { on := 7, ground := Ground.phase }, { on := 8, ground := Ground.phase }, { on := 9, ground := Ground.phase }, { on := 10, ground := Ground.phase }, { on := 11, ground := Ground.phase }, { on := 12, ground := Ground.phase }], guard := none }
section
variable {w w' W wd : World} {col : Nat → Nat} {n bl : Nat} {m : LM} {l : Bil.Lg}
theorem LAt.reper (h : LAt w bl col m l) (p : Nat) (hp : p ≤ 65536) : LAt (w.setCell ⟨bl, 0, none⟩ (.int .i64 (p : Int))) bl col m { l with periods := p } := by
  have hk : Keep (fun k => k = bl) w (w.setCell ⟨bl, 0, none⟩ (.int .i64 (p : Int))) := Keep.of_grown (grown_setCell _ _ _ _) (fun k e => (Option.some.inj e).symm)
  have f : ∀ b q, col b = q → q ≠ 1 → ¬ b = bl := fun b q hq h0 hS => by subst hS; rw [h.cbl] at hq; omega
  have kat : ∀ k ∈ m.ks, KAt (w.setCell ⟨bl, 0, none⟩ (.int .i64 (p : Int))) col l.n k := fun k hk' => by
    have x := h.kat k hk'
    exact ⟨x.c.keeps hk (f _ _ x.qc (by omega)), x.r.keeps hk (f _ _ x.qr (by omega)), x.t.keeps hk (f _ _ x.qt (by omega)), x.g.keeps hk (f _ _ x.qg (by omega)), x.lc, x.lr, x.lt, x.lg, x.qc, x.qr, x.qt, x.qg⟩
  have hr : IsRow (w.setCell ⟨bl, 0, none⟩ (.int .i64 (p : Int))) bl 71 (m.cells { l with periods := p }) := h.row.set 0 _
  exact ⟨hr, h.h16, h.n1, h.n2, hp, h.len, h.pend.keeps hk (f _ _ h.cbp (by omega)), h.paid.keeps hk (f _ _ h.cbq (by omega)), h.lp, h.lq, h.kept,
    h.krow.keep fun a ha => hk.block a.block (h.krow.lt ha) (f _ _ (h.cka a ha) (by omega)), kat, h.cbl, h.cbp, h.cbq, h.cka, fun k hc => Nat.lt_of_lt_of_le (h.lt k hc) hk.size, h.tab⟩
end
theorem wp_arun {P : Program} {w w' : World} {o : Oper} {a : Act} {K : Act → World → Prop} {Q : Exit → Act → World → Prop} (s x : Operand) (t : TypeId) (ho : o.op = .call { callee := .builtin .append, args := #[s, x], argTypes := #[t, t] }) (vs vx v : Value) (hs : a.eval s = vs) (hx : a.eval x = vx)
    (hrun : (Builtin.append_ #[t, t] o.type #[vs, vx]).run P w = .ok v w') (h : K (a.put o.dst v) w') : o.wp P a w K Q := by
  unfold Oper.wp execOp
  simp only [ho, resolve, invoke, builtin, Sem.run_bind, Sem.run_pure, Result.andThen_ok, List.map_toArray, List.map_cons, List.map_nil, hs, hx, hrun]
  exact h
theorem ivs_tk (U : List Int) (j : Nat) (hj : j < U.length) : ivs (U.take j) ++ [Value.int .i64 (U.getD j 0)] = ivs (U.take (j + 1)) := by
  have e : U.getD j 0 = U[j] := by simp [List.getD, hj]
  rw [e, List.take_succ_eq_append_getElem hj]
  simp only [ivs, List.map_append, List.map_cons, List.map_nil]
theorem rd_far {W W' : World} {B g k c : Nat} {A : Option Addr} {xs : List Value} (r : Rd W B 1 (some ⟨g, 0, none⟩) 1 xs) (hg : W.grownBy W' (Value.slice A k c).ownBlock) (hne : ∀ q, (Value.slice A k c).ownBlock = some q → q ≠ g) (hB : B ≤ W.heap.size) : Rd W' B 1 (some ⟨g, 0, none⟩) 1 xs := by
  refine r.keepS (Keep.of_grown (S := fun q => (Value.slice A k c).ownBlock = some q) hg (fun _ e => e)) hB (fun a ha h => ?_)
  obtain rfl := Option.some.inj ha
  exact hne _ h rfl
theorem y_build01 {ops : Array Oper} {S : World → Prop} {o : Oper} {a : Act} (hw : Region.wanted o (yielded ops a.tmps) = true) (t : TypeId) (i j : Nat) (x y : Operand) (ho : o.op = .build t #[(i, x), (j, y)]) (u v : Value) (hx : a.eval x = u) (hy : a.eval y = v) (cells : Array Value)
    (hf : Tryd.prog.built t [(i, u), (j, v)] = some cells) : YieldsIf Tryd.prog ops S o (.agg cells) a := by
  subst hx hy
  refine .inl ⟨hw, fun W _ => ?_⟩
  have hr := run_build (P := Tryd.prog) W t #[(i, a.eval x), (j, a.eval y)] cells hf
  unfold execOp
  simp only [ho, List.map_toArray, List.map_cons, List.map_nil, Sem.run_bind, Sem.run_pure, Result.andThen_ok, hr]
theorem built_acc (p md h : Int) (A1 A2 A3 A4 : Option Addr) (n1 n2 n3 n4 c1 c2 c3 c4 : Nat) : Tryd.prog.built 79 [(0, .agg #[.int .i64 p, .int .i64 md, .int .i64 h, .slice A1 n1 c1, .slice A2 n2 c2, .slice A3 n3 c3]), (1, .slice A4 n4 c4)] =
    some #[.int .i64 p, .int .i64 md, .int .i64 h, .slice A1 n1 c1, .slice A2 n2 c2, .slice A3 n3 c3, .slice A4 n4 c4] := by kernel_rfl
theorem yasI {P : Program} {ops : Array Oper} {S : World → Prop} {o : Oper} {v v' : Value} {a : Act} (h : YieldsIf P ops S o v a) (e : v = v') : YieldsIf P ops S o v' a := e ▸ h
/-- behind the append to the kept accounts -/
structure P25 (w24 wx : World) (bl n : Nat) (P1 : Nat) (g off c' : Nat) (m : LM) (hd : List UInt8) (kn : KA) : Prop where
  row : IsRow wx bl 71 (.int .i64 (P1 : Int) :: .slice (some ⟨g, off, none⟩) (m.ks.length + 1) c' :: .slice (some ⟨m.bp, 0, none⟩) n m.cp :: .slice (some ⟨m.bq, 0, none⟩) n m.cq :: bvs hd)
  kr : KRow wx n (some ⟨g, off, none⟩) c' (m.ks ++ [kn])
  hor : (∃ o, m.A = some ⟨g, o, none⟩) ∨ w24.heap.size ≤ g
  keep : Keep (fun q => q = bl ∨ ∃ a, m.A = some a ∧ q = a.block) w24 wx
  glt : g < wx.heap.size
  fg : FRow wx kn.bg n (fun _ => 0)
  bg : w24.heap.size ≤ kn.bg
  ne : kn.bg ≠ g
theorem p25_of {w24 W0 W : World} {bl n gk ok ck : Nat} {col : Nat → Nat} {m : LM} {l : Bil.Lg} {kn : KA} (h : LAt w24 bl col m l) (hn : l.n = n) (hb : Below w24.heap.size w24 W0) (hg : W0.grownBy W (some gk)) (hK : KRow W n (some ⟨gk, ok, none⟩) ck (m.ks ++ [kn])) (hor : (∃ o, m.A = some ⟨gk, o, none⟩) ∨ gk = W0.heap.size) (f : FRow W0 kn.bg n (fun _ => 0)) (hl : w24.heap.size ≤ kn.bg) :
    P25 w24 (W.setCell ⟨bl, 1, none⟩ (.slice (some ⟨gk, ok, none⟩) (m.ks.length + 1) ck)) bl n l.periods gk ok ck m l.head kn := by
  have hrw := h.row
  have hbl := hrw.lt
  have hz := hb.size
  have hz2 := hg.size
  have hfl := f.lt
  have hold : (∃ o, m.A = some ⟨gk, o, none⟩) → col gk = 4 ∧ gk < w24.heap.size := fun ⟨o, ho⟩ => ⟨h.cka _ ho, h.lt gk (by have : col gk = 4 := h.cka _ ho; omega)⟩
  have hnb : gk ≠ bl := fun e => by
    rcases hor with ho | ho
    · have h1 := (hold ho).1; have h2 := h.cbl; rw [e] at h1; omega
    · omega
  have hne : kn.bg ≠ gk := fun e => by
    rcases hor with ho | ho
    · have := (hold ho).2; omega
    · omega
  have z : (W.setCell ⟨bl, 1, none⟩ (.slice (some ⟨gk, ok, none⟩) (m.ks.length + 1) ck)).heap.size = W.heap.size := by simp
  have hgs := grown_setCell W bl 1 (.slice (some ⟨gk, ok, none⟩) (m.ks.length + 1) ck)
  refine ⟨?_, ?_, ?_, ?_, ?_, ?_, hl, hne⟩
  · have := ((hrw.below' hb).grown hg (by intro e; exact hnb (Option.some.inj e))).set 1 (.slice (some ⟨gk, ok, none⟩) (m.ks.length + 1) ck)
    rw [← hn]; exact this
  · exact hK.keep fun a ha => by
      have hal := hK.lt ha
      obtain rfl := Option.some.inj ha
      exact hgs.block _ hal (fun e => hnb (Option.some.inj e))
  · rcases hor with ho | ho
    · exact .inl ho
    · exact .inr (by omega)
  · refine ((Keep.of_below hb).grown hg fun k e => ?_).grown hgs fun k e => .inl (.inl (Option.some.inj e).symm)
    have e := Option.some.inj e
    subst e
    rcases hor with ⟨o, ho⟩ | ho
    · exact .inl (.inr ⟨_, ho, rfl⟩)
    · exact .inr (by omega)
  · rw [z]; exact hK.lt rfl
  · exact (f.keep (hg.block _ hfl (fun e => hne (Option.some.inj e)))).keep (hgs.block _ (by omega) (fun e => by have := Option.some.inj e; omega))
theorem cut_val (g off n c d : Nat) (hne : c ≠ d) : Value.slice (if c = d then some ⟨g, off, none⟩ else (some (⟨g, off, none⟩ : Addr)).map (·.add (d * 7))) (n - d) (c - d) = .slice (some ⟨g, off + d * 7, none⟩) (n - d) (c - d) := by
  rw [if_neg hne]; simp [Addr.add_lit]
/-- what Close does where its arguments fit -/
def Bil.closeSt (l : Bil.Lg) (md hs : Int) (C : List Int) : Bil.Lg := if 65536 ≤ l.periods then l else Bil.closeOf (bookHead l.head ⟨(encClose md hs C).toArray⟩) l md hs C
def CloseRes (w : World) (bl : Nat) (col : Nat → Nat) (l : Bil.Lg) (md hs : Int) (C : List Int) (e : Ending) (w' : World) : Prop :=
  (65536 ≤ l.periods ∧ e = .returned (.tuple #[zBill, .int .i64 2]) ∧ Below w.heap.size w w') ∨
  (l.periods < 65536 ∧ ∃ v col' m', e = .returned (.tuple #[v, .int .i64 0]) ∧ BillV w' w.heap.size v (Bil.billOf l md hs C) ∧ LAt w' bl col' m' (Bil.closeOf (bookHead l.head ⟨(encClose md hs C).toArray⟩) l md hs C) ∧ Keep (fun b => col b ≠ 0) w w' ∧ ∀ b, col' b ≠ 0 → col b ≠ 0 ∨ w.heap.size ≤ b)
/-- the state of the second loop before round k -/
def LoopR (w11 wr : World) (bl b15 B4 B0 B : Nat) (col : Nat → Nat) (m : LM) (l : Bil.Lg) (md hs : Int) (C U T : List Int) (Ac : Option Addr) (n cc : Nat) (A : Option Addr) (k : Nat) : Prop :=
  ∃ A4 c4 A5 c5, CSt w11 wr bl b15 B4 B0 B col m { l with pending := mixL (· - ·) l.pending U k, paid := mixL (· + ·) l.paid T k } [.int .i64 (l.periods : Int), .int .i64 md, .int .i64 (hs + sumK U k), .slice Ac n cc, .slice A4 k c4, .slice A5 k c5] A4 k c4 (U.take k) A5 k c5 (T.take k) A n C
set_option maxRecDepth 100000 in
set_option maxHeartbeats 6400000 in
theorem close_good (bl : Nat) (col : Nat → Nat) (m : LM) (l : Bil.Lg) (md hs : Int) (A : Option Addr) (n0 c : Nat) (C : List Int) (hC : C.length = n0) (B : Nat) (w : World) (h : LAt w bl col m l) (hO : Bil.Ok l) (hS : Bil.Sm l 1152921504606846976) (hT : Tabs w) (hR : RG w) (rd : Rd w B 1 A n0 (ivs C)) (hB : B ≤ w.heap.size) (hA : ∀ a, A = some a → col a.block = 0)
    (hok : Bil.CloseOk l md hs C) :
    Calls Tryd.prog 29 #[.pointer (some ⟨bl, 0, none⟩), .int .i64 md, .int .i64 hs, .slice A n0 c] w (CloseRes w bl col l md hs C) := by
  have hn0 : n0 = l.n := by rw [← hC]; exact hok.1
  subst hn0
  obtain ⟨bA, offA, rfl, hbA, _⟩ := rd_int rd hC (by have := h.n1; omega)
  have HUL := Lib.hid (Bil.used_len (c := C) (p := l.pending) (by rw [hC, h.lp]))
  have HTL := Lib.hid (Bil.net_len (c := C) (p := l.pending) (by rw [hC, h.lp]))
  have HUG := Lib.hid (fun (j : Nat) (hj : j < l.n) => Bil.used_get (c := C) (p := l.pending) (by rw [hC, h.lp]) (t := j) (by rw [hC]; exact hj))
  have HTG := Lib.hid (fun (j : Nat) (hj : j < l.n) => Bil.net_get (c := C) (p := l.pending) (by rw [hC, h.lp]) (t := j) (by rw [hC]; exact hj))
  obtain ⟨U, hU⟩ : ∃ x, Bil.usedL C l.pending = x := ⟨_, rfl⟩
  rw [hU] at HUL HUG HTL HTG
  obtain ⟨T, hT'⟩ : ∃ x, Bil.netL C U = x := ⟨_, rfl⟩
  rw [hT'] at HTL HTG
  have HUT := Lib.hid (And.intro hU hT')
  have HCZ : Hid (∀ q, col q ≠ 0 → q < w.heap.size) := Lib.hid h.lt
  clear hU hT'
  have q8 := IsRow.new w 31 Z6
  have hb8 : Below w.heap.size w (w.alloc (.cells Z6.toArray 31)) := (Below.refl _ _).alloc (Nat.le_refl _) _
  obtain ⟨w8, hw8⟩ : ∃ x, w.alloc (.cells Z6.toArray 31) = x := ⟨_, rfl⟩
  rw [hw8] at q8 hb8
  have HW8 := Lib.hid (show w.alloc (.cells #[.int .i64 0, .int .i64 0, .int .i64 0, .slice none 0 0, .slice none 0 0, .slice none 0 0] 31) = w8 from hw8)
  have HTN := Lib.hid (fun W (hW : Below w8.heap.size w8 W) => tenants_any bl col m l W ((h.below hb8).below hW))
  have HPE := Lib.hid (fun W (hW : Below w8.heap.size w8 W) => periods_any bl col m l W ((h.below hb8).below hW))
  have rd8 := rd.below (hb8.mono hB)
  have HB8 := Lib.hid hb8
  obtain ⟨b8, hb8'⟩ : ∃ x, w.heap.size = x := ⟨_, rfl⟩
  have HBE := Lib.hid hb8'
  rw [hb8'] at q8
  have HQ8 := Lib.hid q8
  have HF := Lib.hid (fun x W => fits_any x W)
  have HC := Lib.hid hC
  have HR := Lib.hid rd8
  have HRD := Lib.hid rd
  have HH := Lib.hid h
  have HOK := Lib.hid hok
  have HO := Lib.hid hO
  have HSM := Lib.hid hS
  have HTT := Lib.hid hT
  have HRT := Lib.hid hR
  have HBB := Lib.hid hB
  have HA := Lib.hid hA
  have hpu : l.pending.length = l.n := h.lp
  have hhs := fits_range hok.2.2.1
  have hmdf := hok.2.1
  have hhsf := hok.2.2.1
  have hfC : ∀ j, j < l.n → Bil.fits (C.getD j 0) = true := fun j hj => hok.2.2.2.1 _ (Bil.getD_mem (by omega))
  have hsum : hs + sumK C l.n = md := by have := hok.2.2.2.2; unfold sumK; rw [List.take_of_length_le (by omega)]; exact this
  have HFC := Lib.hid hfC
  have HSUM := Lib.hid hsum
  have HHS := Lib.hid hhs
  have hn1 := h.n1
  have hn2 := h.n2
  have HN := Lib.hid (And.intro hn1 hn2)
  obtain ⟨N, hN⟩ : ∃ x, l.n = x := ⟨_, rfl⟩
  rw [hN] at HTN
  have hper := h.per
  have HPER := Lib.hid hper
  obtain ⟨P, hP⟩ : ∃ x, l.periods = x := ⟨_, rfl⟩
  rw [hP] at HPE
  have HPP := Lib.hid hP
  have HNN := Lib.hid hN
  rw [hN]
  clear h hO hS hT hR rd hB hA hok hw8 q8 hb8 hb8' rd8 hC hpu hhs hfC hsum hn1 hn2 hper hN hP
  go_enter Tryd.func29, Tryd.ntmps29
  go_upto_region 2 with fail
  rw [show _ = w8 from HW8.out, show w.heap.size = b8 from HBE.out]
  go_cut [11, 12] (fun u11 u12 wx => u11 = .int .i64 hs ∧ u12 = .bool true ∧ wx = w8)
  case first =>
    go_wp2_with (first
      | (go_at_call 43; refine (HTN.out _ (Below.refl _ _)).mono ?_; rintro e w2 ⟨rfl, hw2⟩; rw [hw2]; clear hw2 w2)
      | (go_at_call 68; refine (HF.out md _).mono ?_; rintro e w2 ⟨rfl, hw2⟩; rw [hw2, hmdf]; clear hw2 w2)
      | (go_at_call 68; refine (HF.out hs _).mono ?_; rintro e w2 ⟨rfl, hw2⟩; rw [hw2, hhsf]; clear hw2 w2))
    go_meet
    exact ⟨rfl, rfl, rfl⟩
  case rest =>
    obtain ⟨rfl, rfl, hwc⟩ := hcut
    rw [hwc]
    clear hwc hmdf hhsf
    go_wp2_with fail
    go_loopw [11, 12, 37] (fun u11 u12 u37 wr => ∃ k : Nat, k ≤ N ∧ u37 = .int .i64 k ∧ u11 = .int .i64 (hs + sumK C k) ∧ u12 = .bool true ∧ wr = w8) (fun _ _ u37 _ => N - (intOf u37).toNat)
    case atStart => exact ⟨0, Nat.zero_le _, rfl, by simp [sumK], rfl, rfl⟩
    case round =>
      obtain ⟨k, hk, rfl, rfl, rfl, hwr⟩ := hrel
      rw [hwr]
      clear hwr
      by_cases hlt : k < N
      · obtain ⟨b, off, hAA, _, hc⟩ := rd_int HR.out HC.out (by have := HN.out; omega)
        rw [hAA]
        have hck := hc k (by have := HNN.out; omega)
        have i0 : (0 : Int) ≤ (k : Int) := by omega
        have i1 : (k : Int) < (N : Int) := by omega
        obtain ⟨x, hx⟩ : ∃ x, C.getD k 0 = x := ⟨_, rfl⟩
        have ef := HFC.out k (by have := HNN.out; omega)
        rw [hx] at hck ef
        have HX := Lib.hid hx
        have hhs := HHS.out
        have hsk := sumK_bound C k (by have := HC.out; have := HNN.out; omega) (fun j hj => HFC.out j (by have := HNN.out; omega))
        have hfx := fits_range ef
        have hstep := sumK_step C k (by have := HC.out; have := HNN.out; omega)
        rw [hx] at hstep
        obtain ⟨s, hs'⟩ : ∃ s, hs + sumK C k = s := ⟨_, rfl⟩
        rw [hs']
        obtain ⟨sx, hsx⟩ : ∃ y, s + x = y := ⟨_, rfl⟩
        have hn16 := HN.out.2
        have hNN := HNN.out
        have m1 : IntKind.i64.wrap (s + x) = sx := by rw [hsx]; exact IntWalk.i64_in _ (by omega)
        have HS' := Lib.hid (show hs + sumK C (k + 1) = sx from by omega)
        clear hc hx hhs hsk hfx hstep hs' hsx hAA
        rw [hNN] at hn16
        clear hNN
        go_wp2_with (go_at_call 68; refine (HF.out x _).mono ?_; rintro e w2 ⟨rfl, hw2⟩; rw [hw2, ef]; clear hw2 w2)
        go_roundw
        case rel => exact ⟨k + 1, by omega, by go_num, by rw [HS'.out], rfl, trivial⟩
        case measure => simp [intOf]; omega
      · obtain rfl : N = k := by omega
        have hse : hs + sumK C N = md := by have := HSUM.out; rwa [HNN.out] at this
        rw [hse]
        clear hse
        by_cases hpl : 65536 ≤ P
        · have hpl' : (65536 : Int) ≤ (P : Int) := by omega
          go_wp2_with (first
            | (go_at_call 14; refine (HPE.out _ (Below.refl _ _)).mono ?_; rintro e w2 ⟨rfl, hw2⟩; rw [hw2]; clear hw2 w2)
            | (refine wpList_storeRow rfl _ (.tmp 8) (.tmp 66) rfl (l' := Z6) HQ8.out rfl rfl size6 rfl rfl ?_; intro w9 r9 g9 z9))
          exact bodyPost_ret (resultRowST rfl _ _ r9 rfl Tryd.underlying31 size6) rfl (.inl ⟨by rw [HPP.out]; exact hpl, rfl, HB8.out.grown g9 HB8.out.size (by intro j hj; have hj := Option.some.inj hj; have := HBE.out; omega)⟩)
        · have HPL : Hid (P < 65536) := Lib.hid (by omega)
          have n1 : ¬ ((65536 : Int) ≤ (P : Int)) := by omega
          have n2 : decide ((65536 : Int) ≤ (P : Int)) = false := decide_eq_false n1
          have n3 : decide (65536 ≤ P) = false := decide_eq_false hpl
          have HCL := Lib.hid (fun W (hW : Below w8.heap.size w8 W) => cloneI (some ⟨bA, offA, none⟩) N c C (by rw [HC.out, HNN.out]) (by have := HN.out; have := HNN.out; omega) B W (by have := HR.out.below (hW.mono (Nat.le_trans HBB.out HB8.out.size)); rwa [HNN.out] at this) (Nat.le_trans (Nat.le_trans HBB.out HB8.out.size) hW.size))
          clear hpl
          go_upto_region 15 with (first
            | (go_at_call 14; refine (HPE.out _ (Below.refl _ _)).mono ?_; rintro e w2 ⟨rfl, hw2⟩; rw [hw2]; clear hw2 w2)
            | (go_at_call 36; refine (HCL.out _ (Below.refl _ _)).mono ?_; rintro e w9 ⟨Ac, cc, rfl, own9, b9⟩)
            | (refine wpList_allocRow rfl _ rfl _ info6 ?_; intro w10 r10 b10 z10)
            | (refine wpList_storeRow rfl _ (.tmp 15) (.tmp 73) rfl (l' := [.int .i64 (P : Int), .int .i64 md, .int .i64 hs, .slice Ac N cc, .slice none 0 0, .slice none 0 0]) r10 rfl rfl size6 rfl rfl ?_; intro w11 r11 g11 z11))
          have hb9 : Below w8.heap.size w8 w9 := b9
          obtain ⟨b15, hb15⟩ : ∃ x, w9.heap.size = x := ⟨_, rfl⟩
          rw [hb15] at r10 r11 g11 z10 ⊢
          have hz8 : b8 < w8.heap.size := HQ8.out.lt
          have hz9 := b9.size
          obtain ⟨gC, hgC, hgCb, fC⟩ := FRow.of_own own9 (by have := HN.out; have := HNN.out; omega)
          subst hgC
          have hgC2 : gC < b15 := by rw [← hb15]; exact fC.lt
          have fC11 : FRow w11 gC N (fun t => C.getD t 0) := (fC.below b10).keep (g11.block gC (by omega) (fun e => by have := Option.some.inj e; omega))
          have q11 : IsRow w11 b8 31 Z6 := ((HQ8.out.below' b9).below' b10).grown g11 (by intro e; have := Option.some.inj e; omega)
          have hbw9 : Below w.heap.size w w9 := HB8.out.trans (b9.mono HB8.out.size)
          have hbw10 := hbw9.trans (b10.mono hbw9.size)
          have hbw11 : Below w.heap.size w w11 := hbw10.grown g11 hbw10.size (by intro j hj; have hj := Option.some.inj hj; have := hbw9.size; omega)
          have hc0 : CSt w11 w11 bl b15 w11.heap.size w.heap.size B col m l [.int .i64 (l.periods : Int), .int .i64 md, .int .i64 hs, .slice (some ⟨gC, 0, none⟩) N cc, .slice none 0 0, .slice none 0 0] none 0 0 [] none 0 0 [] (some ⟨bA, offA, none⟩) N C :=
            ⟨HH.out.below hbw11, by rw [HPP.out]; exact r11, World.ownsRow_nil _ _ _ _, World.ownsRow_nil _ _ _ _, (fun a b ha => by cases ha), by have := HRD.out.below (hbw11.mono HBB.out); rwa [HNN.out] at this, HA.out, Keep.refl _ _, HBB.out, by have := hbw9.size; omega, Nat.le_refl _, by omega, Nat.le_refl _, HCZ.out⟩
          have HC0 := Lib.hid hc0
          have HW11 := Lib.hid hbw11
          have HFC11 := Lib.hid fC11
          have HQ11 := Lib.hid q11
          have HG15 : Hid (b8 < gC ∧ gC < b15 ∧ w.heap.size ≤ b8 ∧ b15 < w11.heap.size) := Lib.hid (by have := HBE.out; omega)
          clear hb9 hb15 r10 r11 g11 z10 z11 hz8 hz9 hgCb fC hgC2 fC11 q11 hbw9 hbw10 hbw11 hc0 b9 b10 own9
          go_wp2_with fail
          go_loopw [76] (fun u76 wr => ∃ j : Nat, j ≤ N ∧ u76 = .int .i64 j ∧ LoopR w11 wr bl b15 w11.heap.size w.heap.size B col m l md hs C U T (some ⟨gC, 0, none⟩) N cc (some ⟨bA, offA, none⟩) j) (fun u76 _ => N - (intOf u76).toNat)
          case atStart => exact ⟨0, Nat.zero_le _, rfl, none, 0, none, 0, by simpa [mixL_zero, sumK] using HC0.out⟩
          case round =>
            obtain ⟨j, hj, rfl, A4, c4, A5, c5, hcs⟩ := hrel
            have HCS := Lib.hid hcs
            by_cases hlt : j < N
            · obtain ⟨b, off, hAA, _, hc⟩ := rd_int hcs.rd (by rw [HC.out, HNN.out]) (by omega)
              obtain ⟨rfl, rfl⟩ : bA = b ∧ offA = off := by have e := Option.some.inj hAA; exact ⟨congrArg (·.block) e, congrArg (·.off) e⟩
              have hck := hc j hlt
              have hNN := HNN.out
              have hn16 := HN.out.2
              have hjn : j < l.n := by omega
              have hlp := HH.out.lp
              have hlq := HH.out.lq
              have hul := HUL.out
              have htl := HTL.out
              have hcl := HC.out
              have cp : wr.cell? ⟨m.bp, j, none⟩ = some (.int .i64 (l.pending.getD j 0)) := by rw [← mixL_get (· - ·) l.pending U j (by omega) (by omega)]; exact hcs.lat.pend.cell j hjn
              have c2 : wr.cell? ⟨bl, 2, none⟩ = some (.slice (some ⟨m.bp, 0, none⟩) N m.cp) := by rw [← hNN]; exact hcs.lat.row.cell 2
              have hug := HUG.out j hjn
              have htg := HTG.out j hjn
              have hcr := fits_range (HFC.out j hjn)
              have hsm := HSM.out j
              obtain ⟨x, hx⟩ : ∃ x, C.getD j 0 = x := ⟨_, rfl⟩
              obtain ⟨p, hp⟩ : ∃ x, l.pending.getD j 0 = x := ⟨_, rfl⟩
              obtain ⟨q, hq⟩ : ∃ x, l.paid.getD j 0 = x := ⟨_, rfl⟩
              rw [hx] at hck hug htg hcr
              rw [hp] at cp hug htg hsm
              rw [hq] at hsm
              obtain ⟨u, hu⟩ : ∃ u, min x p = u := ⟨_, rfl⟩
              rw [hu] at hug htg
              have HXP := Lib.hid (And.intro hx (And.intro hp hq))
              have HUJ := Lib.hid (And.intro hug htg)
              have HU' := Lib.hid hu
              have hub : 0 ≤ u ∧ u ≤ x := by omega
              obtain ⟨pu, hpu⟩ : ∃ y, p - u = y := ⟨_, rfl⟩
              obtain ⟨xu, hxu⟩ : ∃ y, x - u = y := ⟨_, rfl⟩
              obtain ⟨qxu, hqxu⟩ : ∃ y, q + xu = y := ⟨_, rfl⟩
              have hsk := sumK_bound U j (by omega) (fun i hi => by
                have h1 := HUG.out i (by omega); have h2 := fits_range (HFC.out i (by omega)); have h3 := HSM.out i
                unfold Bil.fits; rw [decide_eq_true_iff, h1]; omega)
              have hhs := HHS.out
              have hstep := sumK_step U j (by omega)
              rw [hug] at hstep
              obtain ⟨hh, hhh⟩ : ∃ y, hs + sumK U j = y := ⟨_, rfl⟩
              obtain ⟨hhu, hhhu⟩ : ∃ y, hh + u = y := ⟨_, rfl⟩
              have m1 : IntKind.i64.wrap (p - u) = pu := by rw [hpu]; exact IntWalk.i64_in _ (by omega)
              have m2 : IntKind.i64.wrap (x - u) = xu := by rw [hxu]; exact IntWalk.i64_in _ (by omega)
              have m3 : IntKind.i64.wrap (q + xu) = qxu := by rw [hqxu]; exact IntWalk.i64_in _ (by omega)
              have m4 : IntKind.i64.wrap (hh + u) = hhu := by rw [hhhu]; exact IntWalk.i64_in _ (by omega)
              have HEQ := Lib.hid (And.intro hpu (And.intro hxu (And.intro hqxu (And.intro hhh (show hs + sumK U (j + 1) = hhu by omega)))))
              have i0 : (0 : Int) ≤ (j : Int) := by omega
              have i1 : (j : Int) < (N : Int) := by omega
              clear hcs hc hAA hNN hn16 hjn hlp hlq hul htl hcl hug htg hcr hsm hx hp hq hu hub hpu hxu hqxu hsk hhs hstep hhh hhhu
              have HM3 := Lib.hid m3
              have HM4 := Lib.hid m4
              clear m3 m4
              go_upto_region 18 with fail
              go_cut [18] (fun u18 wx => u18 = .int .i64 u ∧ wx = wr)
              case first =>
                go_wp2_with fail
                go_meet
                exact ⟨by rw [HU'.out], rfl⟩
              case rest =>
                obtain ⟨rfl, hwc⟩ := hcut
                rw [hwc]
                have f1 : wr.frozen? ⟨m.bp, j, none⟩ = false := HCS.out.lat.pend.free j (by rw [HNN.out]; exact hlt)
                go_upto_region 19 with fail
                go_cut [] (fun wx => Hid (CSt w11 wx bl b15 w11.heap.size w.heap.size B col m { l with pending := mixL (· - ·) l.pending U (j + 1), paid := mixL (· + ·) l.paid T j } [.int .i64 (l.periods : Int), .int .i64 md, .int .i64 hh, .slice (some ⟨gC, 0, none⟩) N cc, .slice A4 j c4, .slice A5 j c5] A4 j c4 (U.take j) A5 j c5 (T.take j) (some ⟨bA, offA, none⟩) N C))
                case first =>
                  go_wp2_with fail
                  go_meet
                  have hc1 := HCS.out.setL (q := m.bp) (by have := HH.out.cbp; omega) j (.int .i64 pu) (HCS.out.lat.setPend (by rw [HNN.out]; exact hlt) pu)
                  have e1 : (mixL (· - ·) l.pending U j).set j pu = mixL (· - ·) l.pending U (j + 1) := by
                    rw [← mixL_step (· - ·) l.pending U j (by rw [HUL.out, HC.out, HH.out.lp]) (by rw [HH.out.lp, HNN.out]; exact hlt), HXP.out.2.1, HUJ.out.1, HEQ.out.1]
                  have hc2 : CSt w11 _ bl b15 w11.heap.size w.heap.size B col m { l with pending := (mixL (· - ·) l.pending U j).set j pu, paid := mixL (· + ·) l.paid T j } _ A4 j c4 (U.take j) A5 j c5 (T.take j) (some ⟨bA, offA, none⟩) N C := hc1
                  rw [e1, HEQ.out.2.2.2.1] at hc2
                  exact Lib.hid hc2
                case rest =>
                  have HC2 := hcut
                  obtain ⟨w2, hw2⟩ : ∃ x, wc = x := ⟨_, rfl⟩
                  try rw [hw2] at HC2 ⊢
                  clear hcut hw2 f1 c2 cp hck HCS
                  have c3 : w2.cell? ⟨bl, 3, none⟩ = some (.slice (some ⟨m.bq, 0, none⟩) N m.cq) := by rw [← HNN.out]; exact HC2.out.lat.row.cell 3
                  have cq : w2.cell? ⟨m.bq, j, none⟩ = some (.int .i64 q) := by rw [← HXP.out.2.2, ← mixL_get (· + ·) l.paid T j (by rw [HTL.out, HC.out, HH.out.lq]) (by rw [HH.out.lq, HNN.out]; exact hlt)]; exact HC2.out.lat.paid.cell j (by rw [HNN.out]; exact hlt)
                  have f2 : w2.frozen? ⟨m.bq, j, none⟩ = false := HC2.out.lat.paid.free j (by rw [HNN.out]; exact hlt)
                  have m3 := HM3.out
                  go_upto_region 20 with fail
                  go_cut [] (fun wx => Hid (CSt w11 wx bl b15 w11.heap.size w.heap.size B col m { l with pending := mixL (· - ·) l.pending U (j + 1), paid := mixL (· + ·) l.paid T (j + 1) } [.int .i64 (l.periods : Int), .int .i64 md, .int .i64 hh, .slice (some ⟨gC, 0, none⟩) N cc, .slice A4 j c4, .slice A5 j c5] A4 j c4 (U.take j) A5 j c5 (T.take j) (some ⟨bA, offA, none⟩) N C))
                  case first =>
                    go_wp2_with fail
                    go_meet
                    have hc1 := HC2.out.setL (q := m.bq) (by have := HH.out.cbq; omega) j (.int .i64 qxu) (HC2.out.lat.setPaid (by rw [HNN.out]; exact hlt) qxu)
                    have e1 : (mixL (· + ·) l.paid T j).set j qxu = mixL (· + ·) l.paid T (j + 1) := by
                      rw [← mixL_step (· + ·) l.paid T j (by rw [HTL.out, HC.out, HH.out.lq]) (by rw [HH.out.lq, HNN.out]; exact hlt), HXP.out.2.2, HUJ.out.2, HEQ.out.2.1, HEQ.out.2.2.1]
                    have hc2 : CSt w11 _ bl b15 w11.heap.size w.heap.size B col m { l with pending := mixL (· - ·) l.pending U (j + 1), paid := (mixL (· + ·) l.paid T j).set j qxu } _ A4 j c4 (U.take j) A5 j c5 (T.take j) (some ⟨bA, offA, none⟩) N C := hc1
                    rw [e1] at hc2
                    exact Lib.hid hc2
                  case rest =>
                    have HC3 := hcut
                    obtain ⟨w3, hw3⟩ : ∃ x, wc = x := ⟨_, rfl⟩
                    try rw [hw3] at HC3 ⊢
                    clear hcut hw3 c3 cq f2 m3 HC2
                    have c4' : w3.cell? ⟨b15, 2, none⟩ = some (.int .i64 hh) := HC3.out.row.cell 2
                    have f4 : w3.frozen? ⟨b15, 2, none⟩ = false := HC3.out.row.frozen 2
                    have m4 := HM4.out
                    go_upto_region 21 with fail
                    go_cut [] (fun wx => Hid (CSt w11 wx bl b15 w11.heap.size w.heap.size B col m { l with pending := mixL (· - ·) l.pending U (j + 1), paid := mixL (· + ·) l.paid T (j + 1) } [.int .i64 (l.periods : Int), .int .i64 md, .int .i64 hhu, .slice (some ⟨gC, 0, none⟩) N cc, .slice A4 j c4, .slice A5 j c5] A4 j c4 (U.take j) A5 j c5 (T.take j) (some ⟨bA, offA, none⟩) N C))
                    case first =>
                      go_wp2_with fail
                      go_meet
                      exact Lib.hid (HC3.out.set15 2 (.int .i64 hhu))
                    case rest =>
                      have HC4 := hcut
                      obtain ⟨w4, hw4⟩ : ∃ x, wc = x := ⟨_, rfl⟩
                      try rw [hw4] at HC4 ⊢
                      clear hcut hw4 c4' f4 m4 HC3
                      go_upto_region 22 with fail
                      have e4 : ivs (U.take j) ++ [Value.int .i64 u] = ivs (U.take (j + 1)) := by
                        have hj' : j < U.length := by rw [HUL.out, HC.out, HNN.out]; exact hlt
                        rw [← ivs_tk U j hj', HUJ.out.1]
                      have e5 : ivs (T.take j) ++ [Value.int .i64 xu] = ivs (T.take (j + 1)) := by
                        have hj' : j < T.length := by rw [HTL.out, HC.out, HNN.out]; exact hlt
                        rw [← ivs_tk T j hj', HUJ.out.2, HEQ.out.2.1]
                      have HE4 := Lib.hid e4
                      have HE5 := Lib.hid e5
                      have HO4 := Lib.hid HC4.out.own4
                      have HO5 := Lib.hid HC4.out.own5
                      have HJ16 : Hid ((j + 1) * 8 ≤ 140737488355328 ∧ j + 1 ≤ maxLen) := Lib.hid (by have := HN.out; have := HNN.out; unfold maxLen; omega)
                      clear e4 e5
                      go_wp2_with fail
                      have hv0 : CSt w11 w4.drew bl b15 w11.heap.size w.heap.size B col m { l with pending := mixL (· - ·) l.pending U (j + 1), paid := mixL (· + ·) l.paid T (j + 1) } [.int .i64 (l.periods : Int), .int .i64 md, .int .i64 hhu, .slice (some ⟨gC, 0, none⟩) N cc, .slice A4 j c4, .slice A5 j c5] A4 j c4 (U.take j) A5 j c5 (T.take j) (some ⟨bA, offA, none⟩) N C := HC4.out.below (Below.refl _ _).drew
                      refine wp_region_late (fun W => IsRow W b15 31 [.int .i64 (l.periods : Int), .int .i64 md, .int .i64 hhu, .slice (some ⟨gC, 0, none⟩) N cc, .slice A4 j c4, .slice A5 j c5]) [13, 14, 15] (by kernel_rfl) ((hv0).row) (fun hHeld => ?_)
                      obtain ⟨wd, hwd⟩ : ∃ x, w4.drew = x := ⟨_, rfl⟩
                      rw [hwd] at hv0 hHeld ⊢
                      clear hwd
                      refine tkL 0 oY0 ?v0_2201 (.inl ⟨by rfl, ?h0_2201⟩) ?r0_2201
                      case h0_2201 =>
                        intro W hSW
                        unfold oY0
                        try dsimp only at hSW
                        go_simp
                        try with_reducible rfl
                      try simp only [oY0, PT]
                      refine tkL 1 oY1 ?v1_2202 (.inl ⟨by rfl, ?h1_2202⟩) ?r1_2202
                      case h1_2202 =>
                        intro W hSW
                        unfold oY1
                        try dsimp only at hSW
                        have hcc : W.cell? ⟨b15, 4, none⟩ = some (.slice A4 j c4) := hSW.cell 4
                        go_simp
                        try with_reducible rfl
                      try simp only [oY1, PT]
                      refine tkL 2 oY2 ?v2_2203 (.inl ⟨by rfl, ?h2_2203⟩) ?r2_2203
                      case h2_2203 =>
                        intro W hSW
                        unfold oY2
                        try dsimp only at hSW
                        go_simp
                        try with_reducible rfl
                      try simp only [oY2, PT]
                      refine tkL 5 oY3 ?v5_2204 (.inl ⟨by rfl, ?h5_2204⟩) ?r5_2204
                      case h5_2204 =>
                        intro W hSW
                        unfold oY3
                        try dsimp only at hSW
                        go_simp
                        try with_reducible rfl
                      try simp only [oY3, PT]
                      refine tkL 6 oY4 ?v6_2205 (.inl ⟨by rfl, ?h6_2205⟩) ?r6_2205
                      case h6_2205 =>
                        intro W hSW
                        unfold oY4
                        try dsimp only at hSW
                        have hcc : W.cell? ⟨b15, 5, none⟩ = some (.slice A5 j c5) := hSW.cell 5
                        go_simp
                        try with_reducible rfl
                      try simp only [oY4, PT]
                      refine tkL 7 oY5 ?v7_2206 (.inl ⟨by rfl, ?h7_2206⟩) ?r7_2206
                      case h7_2206 =>
                        intro W hSW
                        unfold oY5
                        try dsimp only at hSW
                        go_simp
                        try with_reducible rfl
                      try simp only [oY5, PT]
                      refine tkL 8 oY6 ?v8_2207 (.inl ⟨by rfl, ?h8_2207⟩) ?r8_2207
                      case h8_2207 =>
                        intro W hSW
                        unfold oY6
                        try dsimp only at hSW
                        go_simp
                        try with_reducible rfl
                      try simp only [oY6, PT]
                      refine tkL 9 oY7 ?v9_2208 (.inl ⟨by rfl, ?h9_2208⟩) ?r9_2208
                      case h9_2208 =>
                        intro W hSW
                        unfold oY7
                        try dsimp only at hSW
                        go_simp
                        try with_reducible rfl
                      try simp only [oY7, PT]
                      refine rdyL [3, 10] ?_
                      refine AllReadyL.cons (o := oY8) rfl (fun K hK => ?_) ?_
                      · skip
                        unfold oY8
                        go_simp
                        obtain ⟨g120, hg120⟩ : ∃ x, wd.heap.size = x := ⟨_, rfl⟩
                        have rd120 := Rd.new wd [Value.int .i64 u] 3 1 (size := 1) rfl
                        obtain ⟨w400, hw400⟩ : ∃ x, wd.alloc (.cells #[Value.int .i64 u] 3) = x := ⟨_, rfl⟩
                        rw [show ([Value.int .i64 u] : List Value).toArray = #[Value.int .i64 u] from rfl, hw400, hg120] at rd120
                        rw [hw400, hg120]
                        have b400 : Below wd.heap.size wd w400 := by rw [← hw400]; exact (Below.refl _ _).alloc (Nat.le_refl _) _
                        have hv400 := (hv0).below b400
                        try have hf120 : ∀ q, (Value.slice A4 j c4).ownBlock = some q → q ≠ g120 := fun q hq => by have := (own_above (hv0).own4 hq).2; omega
                        have rd120 : Rd w400 w400.heap.size 1 _ _ _ := rd120.more (by rw [← hw400, alloc_size1, hg120]; exact Nat.le_refl _)
                        try have rd127 := (rd127.below b400).more b400.size
                        clear hw400 b400 hg120
                        refine hK.out _ _ ((hv400).row) (fun hHeld => ?_)
                        clear hK K
                        try simp only [PT]
                        refine rdyL [4, 10] ?_
                        refine AllReadyL.cons (o := oY9) rfl (fun K hK => ?_) ?_
                        · skip
                          unfold oY9
                          rw [if_pos (by rfl)]
                          refine wp_app _ (.tmp 118) (.tmp 120) 29 rfl w11.heap.size 3 (.int .i64 0) 1 8 bintT A4 j c4 (ivs (U.take j)) rfl (hv400).own4 w400.heap.size (some ⟨g120, 0, none⟩) 1 1 [Value.int .i64 u] rfl rd120 (ivs_one [u]) HJ16.out.1 HJ16.out.2 (hv400).hb4 ?_
                          intro A4n c4n w401 own401 gr401 hA401
                          rw [HE4.out] at own401
                          have hv401 := (hv400).app4 own401 gr401 hA401
                          try have rd127 := (rd_far rd127 gr401 hf127 (Nat.le_refl _)).more gr401.size
                          clear own401 gr401 hA401 rd120
                          refine hK.out _ _ ((hv401).row) (fun hHeld => ?_)
                          clear hK K
                          try simp only [PT]
                          refine tkL 12 oY10 ?v12_2209 (.inl ⟨by rfl, ?h12_2209⟩) ?r12_2209
                          case h12_2209 =>
                            intro W hSW
                            unfold oY10
                            try dsimp only at hSW
                            go_simp
                            try with_reducible rfl
                          try simp only [oY10, PT]
                          refine rdyL [10] ?_
                          refine AllReadyL.cons (o := oY11) rfl (fun K hK => ?_) AllReadyL.nil
                          unfold oY11
                          go_simp
                          obtain ⟨g127, hg127⟩ : ∃ x, w401.heap.size = x := ⟨_, rfl⟩
                          have rd127 := Rd.new w401 [Value.int .i64 xu] 3 1 (size := 1) rfl
                          obtain ⟨w402, hw402⟩ : ∃ x, w401.alloc (.cells #[Value.int .i64 xu] 3) = x := ⟨_, rfl⟩
                          rw [show ([Value.int .i64 xu] : List Value).toArray = #[Value.int .i64 xu] from rfl, hw402, hg127] at rd127
                          rw [hw402, hg127]
                          have b402 : Below w401.heap.size w401 w402 := by rw [← hw402]; exact (Below.refl _ _).alloc (Nat.le_refl _) _
                          have hv402 := (hv401).below b402
                          try have hf127 : ∀ q, (Value.slice A4 j c4).ownBlock = some q → q ≠ g127 := fun q hq => by have := (own_above (hv401).own4 hq).2; omega
                          have rd127 : Rd w402 w402.heap.size 1 _ _ _ := rd127.more (by rw [← hw402, alloc_size1, hg127]; exact Nat.le_refl _)
                          try have rd120 := (rd120.below b402).more b402.size
                          clear hw402 b402 hg127
                          refine hK.out _ _ ((hv402).row) (fun hHeld => ?_)
                          clear hK K
                          try simp only [PT]
                          refine rdyL [11] ?_
                          refine AllReadyL.cons (o := oY12) rfl (fun K hK => ?_) AllReadyL.nil
                          unfold oY12
                          rw [if_pos (by rfl)]
                          refine wp_app _ (.tmp 123) (.tmp 127) 29 rfl w11.heap.size 3 (.int .i64 0) 1 8 bintT A5 j c5 (ivs (T.take j)) rfl (hv402).own5 w402.heap.size (some ⟨g127, 0, none⟩) 1 1 [Value.int .i64 xu] rfl rd127 (ivs_one [xu]) HJ16.out.1 HJ16.out.2 (hv402).hb4 ?_
                          intro A5n c5n w403 own403 gr403 hA403
                          rw [HE5.out] at own403
                          have hv403 := (hv402).app5 own403 gr403 hA403
                          have k4 : w403.cell? ⟨b15, 4, none⟩ = some (.slice A4 j c4) := hv403.row.cell 4
                          have f4 : w403.frozen? ⟨b15, 4, none⟩ = false := hv403.row.frozen 4
                          have k5 : w403.cell? ⟨b15, 5, none⟩ = some (.slice A5 j c5) := hv403.row.cell 5
                          have f5 : w403.frozen? ⟨b15, 5, none⟩ = false := hv403.row.frozen 5
                          clear own403 gr403 hA403 rd127
                          refine hK.out _ _ ((hv403).row) (fun hHeld => ?_)
                          clear hK K
                          try simp only [PT]
                          refine rdyL [13] ?_
                          refine AllReadyL.late (o := oY13) rfl (by rfl) (fun K hK => ?_) AllReadyL.nil
                          unfold oY13
                          go_simp
                          obtain ⟨w404, hw404⟩ : ∃ x, w403.setCell ⟨b15, 4, none⟩ (.slice A4n (j + 1) c4n) = x := ⟨_, rfl⟩
                          rw [hw404]
                          have hv404 : CSt w11 w404 bl b15 w11.heap.size w.heap.size B col m { l with pending := mixL (· - ·) l.pending U (j + 1), paid := mixL (· + ·) l.paid T (j + 1) } [.int .i64 (l.periods : Int), .int .i64 md, .int .i64 hhu, .slice (some ⟨gC, 0, none⟩) N cc, .slice A4n (j + 1) c4n, .slice A5 j c5] A4n (j + 1) c4n (U.take (j + 1)) A5n (j + 1) c5n (T.take (j + 1)) (some ⟨bA, offA, none⟩) N C := by rw [← hw404]; exact (hv403).set15 4 _
                          have k5 : w404.cell? ⟨b15, 5, none⟩ = some (.slice A5 j c5) := hv404.row.cell 5
                          have f5 : w404.frozen? ⟨b15, 5, none⟩ = false := hv404.row.frozen 5
                          clear hw404
                          refine hK.out _ _ ?_
                          clear hK K
                          try simp only [PT]
                          refine tkE 14 oY14 ?v14_2210 (.inl ⟨by rfl, ?h14_2210⟩) ?r14_2210
                          case h14_2210 =>
                            intro W
                            unfold oY14
                            go_simp
                            try with_reducible rfl
                          try simp only [oY14, PT]
                          refine rdyL [15] ?_
                          refine AllReadyL.late (o := oY15) rfl (by rfl) (fun K hK => ?_) AllReadyL.nil
                          unfold oY15
                          go_simp
                          obtain ⟨w405, hw405⟩ : ∃ x, w404.setCell ⟨b15, 5, none⟩ (.slice A5n (j + 1) c5n) = x := ⟨_, rfl⟩
                          rw [hw405]
                          have hv405 : CSt w11 w405 bl b15 w11.heap.size w.heap.size B col m { l with pending := mixL (· - ·) l.pending U (j + 1), paid := mixL (· + ·) l.paid T (j + 1) } [.int .i64 (l.periods : Int), .int .i64 md, .int .i64 hhu, .slice (some ⟨gC, 0, none⟩) N cc, .slice A4n (j + 1) c4n, .slice A5n (j + 1) c5n] A4n (j + 1) c4n (U.take (j + 1)) A5n (j + 1) c5n (T.take (j + 1)) (some ⟨bA, offA, none⟩) N C := by rw [← hw405]; exact (hv404).set15 5 _
                          have k5 : w405.cell? ⟨b15, 5, none⟩ = some (.slice A5n (j + 1) c5n) := hv405.row.cell 5
                          have f5 : w405.frozen? ⟨b15, 5, none⟩ = false := hv405.row.frozen 5
                          clear hw405
                          refine hK.out _ _ ?_
                          clear hK K
                          try simp only [PT]
                          refine wpAnyL_done (by kernel_rfl) ?_ _
                          have HCF := Lib.hid hv405
                          clear hv405 k4 f4 k5 f5
                          have hN16 : N ≤ 16 := by have := HN.out; have := HNN.out; omega
                          go_wp2_with fail
                          go_roundw
                          case rel => exact ⟨j + 1, by omega, by go_num, A4n, c4n, A5n, c5n, by rw [HEQ.out.2.2.2.2]; exact HCF.out⟩
                          case measure => simp [intOf]; omega
                        · skip
                          refine AllReadyL.cons (o := oY11) rfl (fun K hK => ?_) AllReadyL.nil
                          unfold oY11
                          go_simp
                          obtain ⟨g127, hg127⟩ : ∃ x, w400.heap.size = x := ⟨_, rfl⟩
                          have rd127 := Rd.new w400 [Value.int .i64 xu] 3 1 (size := 1) rfl
                          obtain ⟨w401, hw401⟩ : ∃ x, w400.alloc (.cells #[Value.int .i64 xu] 3) = x := ⟨_, rfl⟩
                          rw [show ([Value.int .i64 xu] : List Value).toArray = #[Value.int .i64 xu] from rfl, hw401, hg127] at rd127
                          rw [hw401, hg127]
                          have b401 : Below w400.heap.size w400 w401 := by rw [← hw401]; exact (Below.refl _ _).alloc (Nat.le_refl _) _
                          have hv401 := (hv400).below b401
                          try have hf127 : ∀ q, (Value.slice A4 j c4).ownBlock = some q → q ≠ g127 := fun q hq => by have := (own_above (hv400).own4 hq).2; omega
                          have rd127 : Rd w401 w401.heap.size 1 _ _ _ := rd127.more (by rw [← hw401, alloc_size1, hg127]; exact Nat.le_refl _)
                          try have rd120 := (rd120.below b401).more b401.size
                          clear hw401 b401 hg127
                          refine hK.out _ _ ((hv401).row) (fun hHeld => ?_)
                          clear hK K
                          try simp only [PT]
                          refine rdyL [4] ?_
                          refine AllReadyL.cons (o := oY9) rfl (fun K hK => ?_) AllReadyL.nil
                          unfold oY9
                          rw [if_pos (by rfl)]
                          refine wp_app _ (.tmp 118) (.tmp 120) 29 rfl w11.heap.size 3 (.int .i64 0) 1 8 bintT A4 j c4 (ivs (U.take j)) rfl (hv401).own4 w401.heap.size (some ⟨g120, 0, none⟩) 1 1 [Value.int .i64 u] rfl rd120 (ivs_one [u]) HJ16.out.1 HJ16.out.2 (hv401).hb4 ?_
                          intro A4n c4n w402 own402 gr402 hA402
                          rw [HE4.out] at own402
                          have hv402 := (hv401).app4 own402 gr402 hA402
                          try have rd127 := (rd_far rd127 gr402 hf127 (Nat.le_refl _)).more gr402.size
                          clear own402 gr402 hA402 rd120
                          refine hK.out _ _ ((hv402).row) (fun hHeld => ?_)
                          clear hK K
                          try simp only [PT]
                          refine tkL 12 oY10 ?v12_2211 (.inl ⟨by rfl, ?h12_2211⟩) ?r12_2211
                          case h12_2211 =>
                            intro W hSW
                            unfold oY10
                            try dsimp only at hSW
                            go_simp
                            try with_reducible rfl
                          try simp only [oY10, PT]
                          refine rdyL [11] ?_
                          refine AllReadyL.cons (o := oY12) rfl (fun K hK => ?_) AllReadyL.nil
                          unfold oY12
                          rw [if_pos (by rfl)]
                          refine wp_app _ (.tmp 123) (.tmp 127) 29 rfl w11.heap.size 3 (.int .i64 0) 1 8 bintT A5 j c5 (ivs (T.take j)) rfl (hv402).own5 w402.heap.size (some ⟨g127, 0, none⟩) 1 1 [Value.int .i64 xu] rfl rd127 (ivs_one [xu]) HJ16.out.1 HJ16.out.2 (hv402).hb4 ?_
                          intro A5n c5n w403 own403 gr403 hA403
                          rw [HE5.out] at own403
                          have hv403 := (hv402).app5 own403 gr403 hA403
                          have k4 : w403.cell? ⟨b15, 4, none⟩ = some (.slice A4 j c4) := hv403.row.cell 4
                          have f4 : w403.frozen? ⟨b15, 4, none⟩ = false := hv403.row.frozen 4
                          have k5 : w403.cell? ⟨b15, 5, none⟩ = some (.slice A5 j c5) := hv403.row.cell 5
                          have f5 : w403.frozen? ⟨b15, 5, none⟩ = false := hv403.row.frozen 5
                          clear own403 gr403 hA403 rd127
                          refine hK.out _ _ ((hv403).row) (fun hHeld => ?_)
                          clear hK K
                          try simp only [PT]
                          refine rdyL [13] ?_
                          refine AllReadyL.late (o := oY13) rfl (by rfl) (fun K hK => ?_) AllReadyL.nil
                          unfold oY13
                          go_simp
                          obtain ⟨w404, hw404⟩ : ∃ x, w403.setCell ⟨b15, 4, none⟩ (.slice A4n (j + 1) c4n) = x := ⟨_, rfl⟩
                          rw [hw404]
                          have hv404 : CSt w11 w404 bl b15 w11.heap.size w.heap.size B col m { l with pending := mixL (· - ·) l.pending U (j + 1), paid := mixL (· + ·) l.paid T (j + 1) } [.int .i64 (l.periods : Int), .int .i64 md, .int .i64 hhu, .slice (some ⟨gC, 0, none⟩) N cc, .slice A4n (j + 1) c4n, .slice A5 j c5] A4n (j + 1) c4n (U.take (j + 1)) A5n (j + 1) c5n (T.take (j + 1)) (some ⟨bA, offA, none⟩) N C := by rw [← hw404]; exact (hv403).set15 4 _
                          have k5 : w404.cell? ⟨b15, 5, none⟩ = some (.slice A5 j c5) := hv404.row.cell 5
                          have f5 : w404.frozen? ⟨b15, 5, none⟩ = false := hv404.row.frozen 5
                          clear hw404
                          refine hK.out _ _ ?_
                          clear hK K
                          try simp only [PT]
                          refine tkE 14 oY14 ?v14_2212 (.inl ⟨by rfl, ?h14_2212⟩) ?r14_2212
                          case h14_2212 =>
                            intro W
                            unfold oY14
                            go_simp
                            try with_reducible rfl
                          try simp only [oY14, PT]
                          refine rdyL [15] ?_
                          refine AllReadyL.late (o := oY15) rfl (by rfl) (fun K hK => ?_) AllReadyL.nil
                          unfold oY15
                          go_simp
                          obtain ⟨w405, hw405⟩ : ∃ x, w404.setCell ⟨b15, 5, none⟩ (.slice A5n (j + 1) c5n) = x := ⟨_, rfl⟩
                          rw [hw405]
                          have hv405 : CSt w11 w405 bl b15 w11.heap.size w.heap.size B col m { l with pending := mixL (· - ·) l.pending U (j + 1), paid := mixL (· + ·) l.paid T (j + 1) } [.int .i64 (l.periods : Int), .int .i64 md, .int .i64 hhu, .slice (some ⟨gC, 0, none⟩) N cc, .slice A4n (j + 1) c4n, .slice A5n (j + 1) c5n] A4n (j + 1) c4n (U.take (j + 1)) A5n (j + 1) c5n (T.take (j + 1)) (some ⟨bA, offA, none⟩) N C := by rw [← hw405]; exact (hv404).set15 5 _
                          have k5 : w405.cell? ⟨b15, 5, none⟩ = some (.slice A5n (j + 1) c5n) := hv405.row.cell 5
                          have f5 : w405.frozen? ⟨b15, 5, none⟩ = false := hv405.row.frozen 5
                          clear hw405
                          refine hK.out _ _ ?_
                          clear hK K
                          try simp only [PT]
                          refine wpAnyL_done (by kernel_rfl) ?_ _
                          have HCF := Lib.hid hv405
                          clear hv405 k4 f4 k5 f5
                          have hN16 : N ≤ 16 := by have := HN.out; have := HNN.out; omega
                          go_wp2_with fail
                          go_roundw
                          case rel => exact ⟨j + 1, by omega, by go_num, A4n, c4n, A5n, c5n, by rw [HEQ.out.2.2.2.2]; exact HCF.out⟩
                          case measure => simp [intOf]; omega
                      · skip
                        refine AllReadyL.cons (o := oY11) rfl (fun K hK => ?_) AllReadyL.nil
                        unfold oY11
                        go_simp
                        obtain ⟨g127, hg127⟩ : ∃ x, wd.heap.size = x := ⟨_, rfl⟩
                        have rd127 := Rd.new wd [Value.int .i64 xu] 3 1 (size := 1) rfl
                        obtain ⟨w400, hw400⟩ : ∃ x, wd.alloc (.cells #[Value.int .i64 xu] 3) = x := ⟨_, rfl⟩
                        rw [show ([Value.int .i64 xu] : List Value).toArray = #[Value.int .i64 xu] from rfl, hw400, hg127] at rd127
                        rw [hw400, hg127]
                        have b400 : Below wd.heap.size wd w400 := by rw [← hw400]; exact (Below.refl _ _).alloc (Nat.le_refl _) _
                        have hv400 := (hv0).below b400
                        try have hf127 : ∀ q, (Value.slice A4 j c4).ownBlock = some q → q ≠ g127 := fun q hq => by have := (own_above (hv0).own4 hq).2; omega
                        have rd127 : Rd w400 w400.heap.size 1 _ _ _ := rd127.more (by rw [← hw400, alloc_size1, hg127]; exact Nat.le_refl _)
                        try have rd120 := (rd120.below b400).more b400.size
                        clear hw400 b400 hg127
                        refine hK.out _ _ ((hv400).row) (fun hHeld => ?_)
                        clear hK K
                        try simp only [PT]
                        refine rdyL [3] ?_
                        refine AllReadyL.cons (o := oY8) rfl (fun K hK => ?_) AllReadyL.nil
                        unfold oY8
                        go_simp
                        obtain ⟨g120, hg120⟩ : ∃ x, w400.heap.size = x := ⟨_, rfl⟩
                        have rd120 := Rd.new w400 [Value.int .i64 u] 3 1 (size := 1) rfl
                        obtain ⟨w401, hw401⟩ : ∃ x, w400.alloc (.cells #[Value.int .i64 u] 3) = x := ⟨_, rfl⟩
                        rw [show ([Value.int .i64 u] : List Value).toArray = #[Value.int .i64 u] from rfl, hw401, hg120] at rd120
                        rw [hw401, hg120]
                        have b401 : Below w400.heap.size w400 w401 := by rw [← hw401]; exact (Below.refl _ _).alloc (Nat.le_refl _) _
                        have hv401 := (hv400).below b401
                        try have hf120 : ∀ q, (Value.slice A4 j c4).ownBlock = some q → q ≠ g120 := fun q hq => by have := (own_above (hv400).own4 hq).2; omega
                        have rd120 : Rd w401 w401.heap.size 1 _ _ _ := rd120.more (by rw [← hw401, alloc_size1, hg120]; exact Nat.le_refl _)
                        try have rd127 := (rd127.below b401).more b401.size
                        clear hw401 b401 hg120
                        refine hK.out _ _ ((hv401).row) (fun hHeld => ?_)
                        clear hK K
                        try simp only [PT]
                        refine rdyL [4] ?_
                        refine AllReadyL.cons (o := oY9) rfl (fun K hK => ?_) AllReadyL.nil
                        unfold oY9
                        rw [if_pos (by rfl)]
                        refine wp_app _ (.tmp 118) (.tmp 120) 29 rfl w11.heap.size 3 (.int .i64 0) 1 8 bintT A4 j c4 (ivs (U.take j)) rfl (hv401).own4 w401.heap.size (some ⟨g120, 0, none⟩) 1 1 [Value.int .i64 u] rfl rd120 (ivs_one [u]) HJ16.out.1 HJ16.out.2 (hv401).hb4 ?_
                        intro A4n c4n w402 own402 gr402 hA402
                        rw [HE4.out] at own402
                        have hv402 := (hv401).app4 own402 gr402 hA402
                        try have rd127 := (rd_far rd127 gr402 hf127 (Nat.le_refl _)).more gr402.size
                        clear own402 gr402 hA402 rd120
                        refine hK.out _ _ ((hv402).row) (fun hHeld => ?_)
                        clear hK K
                        try simp only [PT]
                        refine tkL 12 oY10 ?v12_2213 (.inl ⟨by rfl, ?h12_2213⟩) ?r12_2213
                        case h12_2213 =>
                          intro W hSW
                          unfold oY10
                          try dsimp only at hSW
                          go_simp
                          try with_reducible rfl
                        try simp only [oY10, PT]
                        refine rdyL [11] ?_
                        refine AllReadyL.cons (o := oY12) rfl (fun K hK => ?_) AllReadyL.nil
                        unfold oY12
                        rw [if_pos (by rfl)]
                        refine wp_app _ (.tmp 123) (.tmp 127) 29 rfl w11.heap.size 3 (.int .i64 0) 1 8 bintT A5 j c5 (ivs (T.take j)) rfl (hv402).own5 w402.heap.size (some ⟨g127, 0, none⟩) 1 1 [Value.int .i64 xu] rfl rd127 (ivs_one [xu]) HJ16.out.1 HJ16.out.2 (hv402).hb4 ?_
                        intro A5n c5n w403 own403 gr403 hA403
                        rw [HE5.out] at own403
                        have hv403 := (hv402).app5 own403 gr403 hA403
                        have k4 : w403.cell? ⟨b15, 4, none⟩ = some (.slice A4 j c4) := hv403.row.cell 4
                        have f4 : w403.frozen? ⟨b15, 4, none⟩ = false := hv403.row.frozen 4
                        have k5 : w403.cell? ⟨b15, 5, none⟩ = some (.slice A5 j c5) := hv403.row.cell 5
                        have f5 : w403.frozen? ⟨b15, 5, none⟩ = false := hv403.row.frozen 5
                        clear own403 gr403 hA403 rd127
                        refine hK.out _ _ ((hv403).row) (fun hHeld => ?_)
                        clear hK K
                        try simp only [PT]
                        refine rdyL [13] ?_
                        refine AllReadyL.late (o := oY13) rfl (by rfl) (fun K hK => ?_) AllReadyL.nil
                        unfold oY13
                        go_simp
                        obtain ⟨w404, hw404⟩ : ∃ x, w403.setCell ⟨b15, 4, none⟩ (.slice A4n (j + 1) c4n) = x := ⟨_, rfl⟩
                        rw [hw404]
                        have hv404 : CSt w11 w404 bl b15 w11.heap.size w.heap.size B col m { l with pending := mixL (· - ·) l.pending U (j + 1), paid := mixL (· + ·) l.paid T (j + 1) } [.int .i64 (l.periods : Int), .int .i64 md, .int .i64 hhu, .slice (some ⟨gC, 0, none⟩) N cc, .slice A4n (j + 1) c4n, .slice A5 j c5] A4n (j + 1) c4n (U.take (j + 1)) A5n (j + 1) c5n (T.take (j + 1)) (some ⟨bA, offA, none⟩) N C := by rw [← hw404]; exact (hv403).set15 4 _
                        have k5 : w404.cell? ⟨b15, 5, none⟩ = some (.slice A5 j c5) := hv404.row.cell 5
                        have f5 : w404.frozen? ⟨b15, 5, none⟩ = false := hv404.row.frozen 5
                        clear hw404
                        refine hK.out _ _ ?_
                        clear hK K
                        try simp only [PT]
                        refine tkE 14 oY14 ?v14_2214 (.inl ⟨by rfl, ?h14_2214⟩) ?r14_2214
                        case h14_2214 =>
                          intro W
                          unfold oY14
                          go_simp
                          try with_reducible rfl
                        try simp only [oY14, PT]
                        refine rdyL [15] ?_
                        refine AllReadyL.late (o := oY15) rfl (by rfl) (fun K hK => ?_) AllReadyL.nil
                        unfold oY15
                        go_simp
                        obtain ⟨w405, hw405⟩ : ∃ x, w404.setCell ⟨b15, 5, none⟩ (.slice A5n (j + 1) c5n) = x := ⟨_, rfl⟩
                        rw [hw405]
                        have hv405 : CSt w11 w405 bl b15 w11.heap.size w.heap.size B col m { l with pending := mixL (· - ·) l.pending U (j + 1), paid := mixL (· + ·) l.paid T (j + 1) } [.int .i64 (l.periods : Int), .int .i64 md, .int .i64 hhu, .slice (some ⟨gC, 0, none⟩) N cc, .slice A4n (j + 1) c4n, .slice A5n (j + 1) c5n] A4n (j + 1) c4n (U.take (j + 1)) A5n (j + 1) c5n (T.take (j + 1)) (some ⟨bA, offA, none⟩) N C := by rw [← hw405]; exact (hv404).set15 5 _
                        have k5 : w405.cell? ⟨b15, 5, none⟩ = some (.slice A5n (j + 1) c5n) := hv405.row.cell 5
                        have f5 : w405.frozen? ⟨b15, 5, none⟩ = false := hv405.row.frozen 5
                        clear hw405
                        refine hK.out _ _ ?_
                        clear hK K
                        try simp only [PT]
                        refine wpAnyL_done (by kernel_rfl) ?_ _
                        have HCF := Lib.hid hv405
                        clear hv405 k4 f4 k5 f5
                        have hN16 : N ≤ 16 := by have := HN.out; have := HNN.out; omega
                        go_wp2_with fail
                        go_roundw
                        case rel => exact ⟨j + 1, by omega, by go_num, A4n, c4n, A5n, c5n, by rw [HEQ.out.2.2.2.2]; exact HCF.out⟩
                        case measure => simp [intOf]; omega

            · obtain rfl : N = j := by omega
              clear hcs HR
              have hc := HCS.out
              have hN1 : 0 < N := by have := HN.out; have := HNN.out; omega
              rw [mixL_full (· - ·) l.pending U (by rw [HUL.out, HC.out, HH.out.lp]) N (by rw [HH.out.lp, HNN.out]), mixL_full (· + ·) l.paid T (by rw [HTL.out, HC.out, HH.out.lq]) N (by rw [HH.out.lq, HNN.out]), List.take_of_length_le (l := U) (by rw [HUL.out, HC.out, HNN.out]; exact Nat.le_refl _), List.take_of_length_le (l := T) (by rw [HTL.out, HC.out, HNN.out]; exact Nat.le_refl _)] at hc
              obtain ⟨g4, rfl, hg4, F4⟩ := FRow.of_own hc.own4 hN1
              obtain ⟨g5, rfl, hg5, F5⟩ := FRow.of_own hc.own5 hN1
              obtain ⟨hh, hhh⟩ : ∃ y, hs + sumK U N = y := ⟨_, rfl⟩
              rw [hhh] at hc
              have HHH := Lib.hid hhh
              have c0 : wr.cell? ⟨bl, 0, none⟩ = some (.int .i64 (P : Int)) := by rw [← HPP.out]; exact hc.lat.row.cell 0
              have f0 : wr.frozen? ⟨bl, 0, none⟩ = false := hc.lat.row.frozen 0
              obtain ⟨P1, hP1⟩ : ∃ y, P + 1 = y := ⟨_, rfl⟩
              have m0 : IntKind.i64.wrap ((P : Int) + 1) = (P1 : Int) := by rw [← hP1]; have := HPL.out; exact IntWalk.i64_in _ (by omega)
              have HP1 := Lib.hid hP1
              have HC := Lib.hid hc
              have HG45 : Hid (w11.heap.size ≤ g4 ∧ w11.heap.size ≤ g5) := Lib.hid (And.intro hg4 hg5)
              clear hc hhh hP1 HCS hg4 hg5 F4 F5
              go_upto_region 24 with fail
              go_cut [] (fun wx => Hid (CSt w11 wx bl b15 w11.heap.size w.heap.size B col m { l with pending := List.zipWith (· - ·) l.pending U, paid := List.zipWith (· + ·) l.paid T, periods := P1 } [.int .i64 (l.periods : Int), .int .i64 md, .int .i64 hh, .slice (some ⟨gC, 0, none⟩) N cc, .slice (some ⟨g4, 0, none⟩) N c4, .slice (some ⟨g5, 0, none⟩) N c5] (some ⟨g4, 0, none⟩) N c4 U (some ⟨g5, 0, none⟩) N c5 T (some ⟨bA, offA, none⟩) N C))
              case first =>
                go_wp2_with fail
                go_meet
                exact Lib.hid (HC.out.setL (q := bl) (by have := HH.out.cbl; omega) 0 (.int .i64 (P1 : Int)) (HC.out.lat.reper P1 (by have := HP1.out; have := HPL.out; omega)))
              case rest =>
                have HC1 := hcut
                obtain ⟨w24, hw24⟩ : ∃ x, wc = x := ⟨_, rfl⟩
                try rw [hw24] at HC1 ⊢
                clear hcut hw24 c0 f0 m0 HC
                obtain ⟨M, hM, hmk⟩ := mkInts N (by have := HN.out; have := HNN.out; omega)
                have HM := Lib.hid hM
                have HTN' := Lib.hid (fun (W : World) (hW : Below w24.heap.size w24 W) => (show Calls Tryd.prog 43 #[.pointer (some ⟨bl, 0, none⟩)] W fun e w' => e = .returned (.int .i64 (N : Int)) ∧ w' = W from by
                  have h1 := HC1.out.lat.below hW
                  have h2 := tenants_any bl col m _ W h1
                  have this : Calls Tryd.prog 43 #[.pointer (some ⟨bl, 0, none⟩)] W (fun e w' => e = .returned (.int .i64 (l.n : Int)) ∧ w' = W) := h2
                  rwa [HNN.out] at this))
                have HLB : Hid (bl < w24.heap.size ∧ b15 < w24.heap.size) := Lib.hid ⟨HC1.out.lat.row.lt, HC1.out.row.lt⟩
                clear hM
                obtain ⟨Lk, hLk⟩ : ∃ x, m.ks.length = x := ⟨_, rfl⟩
                have HLK := Lib.hid hLk
                have HR1 : Hid (w24.cell? ⟨bl, 1, none⟩ = some (.slice m.A Lk m.c)) := Lib.hid (by rw [← hLk]; exact HC1.out.lat.row.cell 1)
                have HR15 : Hid (IsRow w24 b15 31 [.int .i64 (P : Int), .int .i64 md, .int .i64 hh, .slice (some ⟨gC, 0, none⟩) N cc, .slice (some ⟨g4, 0, none⟩) N c4, .slice (some ⟨g5, 0, none⟩) N c5]) := Lib.hid (by have := HC1.out.row; rwa [HPP.out] at this)
                clear hLk
                go_upto_region 25 with fail
                go_cut [] (fun wx => ∃ gk ok ck bg, Hid (P25 w24 wx bl N P1 gk ok ck m l.head ⟨⟨⟨P, md, hh, C, U, T⟩, List.replicate N 0⟩, gC, cc, g4, c4, g5, c5, bg, N⟩))
                case first =>
                  go_wp2_with fail
                  have hv0 : Below w24.heap.size w24 w24.drew := (Below.refl _ _).drew
                  refine wp_region_late (fun W => Below w24.heap.size w24 W) [0, 11, 12, 13, 14] (by kernel_rfl) (hv0) (fun hHeld => ?_)
                  obtain ⟨wd, hwd⟩ : ∃ x, w24.drew = x := ⟨_, rfl⟩
                  rw [hwd] at hv0 hHeld ⊢
                  clear hwd
                  refine tkE 0 oY16 ?v0_2501 (.inl ⟨by rfl, ?h0_2501⟩) ?r0_2501
                  case h0_2501 =>
                    intro W
                    unfold oY16
                    go_simp
                    try with_reducible rfl
                  try simp only [oY16, PT]
                  refine tkL 1 oY17 ?v1_2502 (.inl ⟨by rfl, ?h1_2502⟩) ?r1_2502
                  case h1_2502 =>
                    intro W hSW
                    unfold oY17
                    try dsimp only at hSW
                    go_simp
                    try with_reducible rfl
                  try simp only [oY17, PT]
                  refine tkL 2 oY18 ?v2_2503 (.inl ⟨by rfl, ?h2_2503⟩) ?r2_2503
                  case h2_2503 =>
                    intro W hSW
                    unfold oY18
                    try dsimp only at hSW
                    go_simp
                    try with_reducible rfl
                  try simp only [oY18, PT]
                  refine tkL 3 oY19 ?v3_2504 (.inl ⟨by rfl, ?h3_2504⟩) ?r3_2504
                  case h3_2504 =>
                    intro W hSW
                    unfold oY19
                    try dsimp only at hSW
                    go_simp
                    try with_reducible rfl
                  try simp only [oY19, PT]
                  refine tkL 4 oY20 ?v4_2505 (.inl ⟨by rfl, ?h4_2505⟩) ?r4_2505
                  case h4_2505 =>
                    intro W hSW
                    unfold oY20
                    try dsimp only at hSW
                    have hcc := (hSW.cell (p := ⟨bl, 1, none⟩) HLB.out.1).trans HR1.out
                    go_simp
                    try with_reducible rfl
                  try simp only [oY20, PT]
                  refine tkL 5 oY21 ?v5_2506 (.inl ⟨by rfl, ?h5_2506⟩) ?r5_2506
                  case h5_2506 =>
                    intro W hSW
                    unfold oY21
                    try dsimp only at hSW
                    have hcc0 := (hSW.cell (p := ⟨b15, 0, none⟩) HLB.out.2).trans (HR15.out.cell 0)
                    have hcc1 := (hSW.cell (p := ⟨b15, 1, none⟩) HLB.out.2).trans (HR15.out.cell 1)
                    have hcc2 := (hSW.cell (p := ⟨b15, 2, none⟩) HLB.out.2).trans (HR15.out.cell 2)
                    have hcc3 := (hSW.cell (p := ⟨b15, 3, none⟩) HLB.out.2).trans (HR15.out.cell 3)
                    have hcc4 := (hSW.cell (p := ⟨b15, 4, none⟩) HLB.out.2).trans (HR15.out.cell 4)
                    have hcc5 := (hSW.cell (p := ⟨b15, 5, none⟩) HLB.out.2).trans (HR15.out.cell 5)
                    go_simp
                    try with_reducible rfl
                  try simp only [oY21, PT]
                  refine tkL 6 oY22 ?v6_2507 (.inl ⟨by rfl, ?h6_2507⟩) ?r6_2507
                  case h6_2507 =>
                    intro W hSW
                    unfold oY22
                    try dsimp only at hSW
                    go_simp
                    try with_reducible rfl
                  try simp only [oY22, PT]
                  refine rdyL [7] ?_
                  refine AllReadyL.cons (o := oY23) rfl (fun K hK => ?_) AllReadyL.nil
                  unfold oY23
                  go_simp
                  refine (HTN'.out _ hv0).mono ?_
                  rintro e w600 ⟨rfl, hw600⟩
                  have hv600 : Below w24.heap.size w24 w600 := by rw [hw600]; exact hv0
                  clear hw600
                  refine hK.out _ _ (hv600) (fun hHeld => ?_)
                  clear hK K
                  try simp only [PT]
                  refine rdyL [8] ?_
                  refine AllReadyL.cons (o := oY24) rfl (fun K hK => ?_) AllReadyL.nil
                  unfold oY24
                  go_simp
                  obtain ⟨g147, hg147⟩ : ∃ x, w600.heap.size = x := ⟨_, rfl⟩
                  obtain ⟨w601, hw601⟩ : ∃ x, w600.alloc (.cells M 3) = x := ⟨_, rfl⟩
                  rw [hw601, hg147]
                  obtain ⟨r147, z601, b601⟩ := new_ints hw601 HM.out
                  rw [hg147] at r147
                  have hv601 : Below w24.heap.size w24 w601 := hv600.trans (b601.mono hv600.size)
                  have l147 : w24.heap.size ≤ g147 := by rw [← hg147]; exact hv600.size
                  clear hw601 b601 z601 hg147
                  refine hK.out _ _ (hv601) (fun hHeld => ?_)
                  clear hK K
                  try simp only [PT]
                  refine tkL 9 oY25 _ (y_build01 rfl 79 0 1 (.tmp 144) (.tmp 147) rfl (.agg #[.int .i64 (P : Int), .int .i64 md, .int .i64 hh, .slice (some ⟨gC, 0, none⟩) N cc, .slice (some ⟨g4, 0, none⟩) N c4, .slice (some ⟨g5, 0, none⟩) N c5]) (.slice (some ⟨g147, 0, none⟩) N N) rfl rfl _ (built_acc _ _ _ _ _ _ _ _ _ _ _ _ _ _ _)) ?_
                  try simp only [oY25, PT]
                  refine rdyL [10] ?_
                  refine AllReadyL.cons (o := oY26) rfl (fun K hK => ?_) AllReadyL.nil
                  unfold oY26
                  go_simp
                  obtain ⟨g149, hg149⟩ : ∃ x, w601.heap.size = x := ⟨_, rfl⟩
                  have r149 := IsRow.new w601 79 [.int .i64 (P : Int), .int .i64 md, .int .i64 hh, .slice (some ⟨gC, 0, none⟩) N cc, .slice (some ⟨g4, 0, none⟩) N c4, .slice (some ⟨g5, 0, none⟩) N c5, .slice (some ⟨g147, 0, none⟩) N N]
                  obtain ⟨w602, hw602⟩ : ∃ x, w601.alloc (.cells #[.int .i64 (P : Int), .int .i64 md, .int .i64 hh, .slice (some ⟨gC, 0, none⟩) N cc, .slice (some ⟨g4, 0, none⟩) N c4, .slice (some ⟨g5, 0, none⟩) N c5, .slice (some ⟨g147, 0, none⟩) N N] 79) = x := ⟨_, rfl⟩
                  rw [show ([.int .i64 (P : Int), .int .i64 md, .int .i64 hh, .slice (some ⟨gC, 0, none⟩) N cc, .slice (some ⟨g4, 0, none⟩) N c4, .slice (some ⟨g5, 0, none⟩) N c5, .slice (some ⟨g147, 0, none⟩) N N] : List Value).toArray = #[.int .i64 (P : Int), .int .i64 md, .int .i64 hh, .slice (some ⟨gC, 0, none⟩) N cc, .slice (some ⟨g4, 0, none⟩) N c4, .slice (some ⟨g5, 0, none⟩) N c5, .slice (some ⟨g147, 0, none⟩) N N] from rfl, hw602, hg149] at r149
                  rw [hw602, hg149]
                  have b602 : Below w601.heap.size w601 w602 := by rw [← hw602]; exact (Below.refl _ _).alloc (Nat.le_refl _) _
                  have hv602 : Below w24.heap.size w24 w602 := hv601.trans (b602.mono hv601.size)
                  have r147 := r147.below b602
                  clear hw602 b602 hg149
                  refine hK.out _ _ (hv602) (fun hHeld => ?_)
                  clear hK K
                  try simp only [PT]
                  refine rdyL [11] ?_
                  refine AllReadyL.late (o := oY27) rfl (by rfl) (fun K hK => ?_) AllReadyL.nil
                  unfold oY27
                  rw [if_pos (by rfl)]
                  have hlat := HC1.out.lat.below hv602
                  have hkr := hlat.krow
                  replace hkr : KRow w602 N m.A m.c m.ks := by rw [← HNN.out]; exact hkr
                  have hcells : ∀ j u, ((⟨⟨⟨P, md, hh, C, U, T⟩, List.replicate N 0⟩, gC, cc, g4, c4, g5, c5, g147, N⟩ : KA).cells N)[j]? = some u → w602.cell? ⟨g149, j, none⟩ = some u := fun j u hu => by rw [r149.cell]; exact hu
                  obtain ⟨gk, ok, ck, w603, hrun, hKR, hor, hgr⟩ := run_kapp w602 N m.c m.A m.ks hkr _ g149 hcells (by have := hlat.len; omega) 69
                  rw [HLK.out] at hrun
                  refine wp_arun (.tmp 143) (.tmp 149) 69 rfl _ _ _ rfl rfl hrun ?_
                  have HRW := hlat.row
                  have hnb : gk ≠ bl := fun e => Or.elim hor (fun ⟨o, ho⟩ => by have h1 : col gk = 4 := hlat.cka _ ho; have h2 := hlat.cbl; rw [e] at h1; omega) (fun ho => by have := HRW.lt; omega)
                  have hrw := HRW.grown hgr (by intro e; exact hnb (Option.some.inj e))
                  have hk1 : w603.cell? ⟨bl, 1, none⟩ = some _ := hrw.cell 1
                  have hf1 : w603.frozen? ⟨bl, 1, none⟩ = false := hrw.frozen 1
                  have hp25 := Lib.hid (fun (kn : KA) (hK : KRow w603 N (some ⟨gk, ok, none⟩) ck (m.ks ++ [kn])) (f : FRow w602 kn.bg N (fun _ => 0)) (hl : w24.heap.size ≤ kn.bg) => p25_of HC1.out.lat HNN.out hv602 hgr hK hor f hl)
                  have HKR := Lib.hid hKR
                  have H147 := Lib.hid (And.intro r147 l147)
                  have hv603 := hgr
                  clear hKR r147 l147 hor hrun hcells hkr hlat HRW hrw r149
                  refine hK.out _ _ ?_
                  clear hK K
                  try simp only [PT]
                  refine tkE 12 oY28 ?v12_2509 (.inl ⟨by rfl, ?h12_2509⟩) ?r12_2509
                  case h12_2509 =>
                    intro W
                    unfold oY28
                    go_simp
                    try with_reducible rfl
                  try simp only [oY28, PT]
                  refine tkE 13 oY29 ?v13_2510 (.inl ⟨by rfl, ?h13_2510⟩) ?r13_2510
                  case h13_2510 =>
                    intro W
                    unfold oY29
                    go_simp
                    try with_reducible rfl
                  try simp only [oY29, PT]
                  refine rdyL [14] ?_
                  refine AllReadyL.late (o := oY30) rfl (by rfl) (fun K hK => ?_) AllReadyL.nil
                  unfold oY30
                  go_simp
                  obtain ⟨w604, hw604⟩ : ∃ x, w603.setCell ⟨bl, 1, none⟩ (.slice (some ⟨gk, ok, none⟩) (Lk + 1) ck) = x := ⟨_, rfl⟩
                  rw [hw604]
                  have HPF := Lib.hid (hp25.out _ HKR.out H147.out.1 H147.out.2)
                  rw [HLK.out, hw604] at HPF
                  have hv604 := HPF
                  clear hw604
                  refine hK.out _ _ ?_
                  clear hK K
                  try simp only [PT]
                  refine wpAnyL_done (by kernel_rfl) ?_ _
                  go_wp2_with fail
                  go_meet
                  exact ⟨gk, ok, ck, g147, HPF⟩
                case rest =>
                  obtain ⟨gk, ok, ck, bg, HP⟩ := hcut
                  obtain ⟨w25, hw25⟩ : ∃ x, wc = x := ⟨_, rfl⟩
                  try rw [hw25] at HP ⊢
                  clear hw25 hmk HM HTN' HR1 HR15
                  obtain ⟨L1, hL1⟩ : ∃ y, Lk + 1 = y := ⟨_, rfl⟩
                  have hks : m.ks.length ≤ 16 := HC1.out.lat.len
                  have HR1 : Hid (w25.cell? ⟨bl, 1, none⟩ = some (.slice (some ⟨gk, ok, none⟩) L1 ck) ∧ w25.frozen? ⟨bl, 1, none⟩ = false) := Lib.hid ⟨by rw [← hL1, ← HLK.out]; exact HP.out.row.cell 1, HP.out.row.frozen 1⟩
                  have HBL : Hid (bl < w25.heap.size) := Lib.hid HP.out.row.lt
                  obtain ⟨d, hd⟩ : ∃ y, L1 - 16 = y := ⟨_, rfl⟩
                  obtain ⟨y, hy⟩ : ∃ y, (L1 : Int) - 16 = y := ⟨_, rfl⟩
                  have hck : L1 ≤ ck := by
                    obtain ⟨g', off', he, h1, _⟩ := HP.out.kr.form (by rw [List.length_append]; simp)
                    rw [List.length_append, List.length_singleton, HLK.out, hL1] at h1
                    exact h1
                  have hLk := HLK.out
                  have HMAX : Hid (max 0 y = (d : Int)) := Lib.hid (by omega)
                  have HDL : Hid (d ≤ L1 ∧ ck ≠ d ∧ d = m.ks.length + 1 - 16) := Lib.hid (by omega)
                  have m16 : IntKind.i64.wrap ((L1 : Int) - 16) = y := by rw [hy]; exact IntWalk.i64_in _ (by omega)
                  have HL1 := Lib.hid hL1
                  clear hks hL1 hd hy hck hLk
                  go_upto_region 26 with fail
                  go_cut [] (fun wx => Hid (IsRow wx bl 71 (.int .i64 (P1 : Int) :: .slice (some ⟨gk, ok + d * 7, none⟩) (L1 - d) (ck - d) :: .slice (some ⟨m.bp, 0, none⟩) N m.cp :: .slice (some ⟨m.bq, 0, none⟩) N m.cq :: bvs l.head) ∧ Keep (fun q => q = bl) w25 wx))
                  case first =>
                    go_wp2_with fail
                    have hv0 : Below w25.heap.size w25 w25.drew := (Below.refl _ _).drew
                    refine wp_region_late (fun W => Below w25.heap.size w25 W) [15] (by kernel_rfl) (hv0) (fun hHeld => ?_)
                    obtain ⟨wd, hwd⟩ : ∃ x, w25.drew = x := ⟨_, rfl⟩
                    rw [hwd] at hv0 hHeld ⊢
                    clear hwd
                    refine tkL 0 oY31 ?v0_2601 (.inl ⟨by rfl, ?h0_2601⟩) ?r0_2601
                    case h0_2601 =>
                      intro W hSW
                      unfold oY31
                      try dsimp only at hSW
                      go_simp
                      try with_reducible rfl
                    try simp only [oY31, PT]
                    refine tkL 1 oY32 ?v1_2602 (.inl ⟨by rfl, ?h1_2602⟩) ?r1_2602
                    case h1_2602 =>
                      intro W hSW
                      unfold oY32
                      try dsimp only at hSW
                      go_simp
                      try with_reducible rfl
                    try simp only [oY32, PT]
                    refine tkL 2 oY33 ?v2_2603 (.inl ⟨by rfl, ?h2_2603⟩) ?r2_2603
                    case h2_2603 =>
                      intro W hSW
                      unfold oY33
                      try dsimp only at hSW
                      go_simp
                      try with_reducible rfl
                    try simp only [oY33, PT]
                    refine tkL 3 oY34 ?v3_2604 (.inl ⟨by rfl, ?h3_2604⟩) ?r3_2604
                    case h3_2604 =>
                      intro W hSW
                      unfold oY34
                      try dsimp only at hSW
                      go_simp
                      try with_reducible rfl
                    try simp only [oY34, PT]
                    refine tkL 4 oY35 ?v4_2605 (.inl ⟨by rfl, ?h4_2605⟩) ?r4_2605
                    case h4_2605 =>
                      intro W hSW
                      unfold oY35
                      try dsimp only at hSW
                      have hcc := (hSW.cell (p := ⟨bl, 1, none⟩) HBL.out).trans HR1.out.1
                      go_simp
                      try with_reducible rfl
                    try simp only [oY35, PT]
                    refine tkL 5 oY36 ?v5_2606 (.inl ⟨by rfl, ?h5_2606⟩) ?r5_2606
                    case h5_2606 =>
                      intro W hSW
                      unfold oY36
                      try dsimp only at hSW
                      go_simp
                      try with_reducible rfl
                    try simp only [oY36, PT]
                    refine tkL 6 oY37 ?v6_2607 (.inl ⟨by rfl, ?h6_2607⟩) ?r6_2607
                    case h6_2607 =>
                      intro W hSW
                      unfold oY37
                      try dsimp only at hSW
                      go_simp
                      try with_reducible rfl
                    try simp only [oY37, PT]
                    refine tkL 7 oY38 ?v7_2608 (.inl ⟨by rfl, ?h7_2608⟩) ?r7_2608
                    case h7_2608 =>
                      intro W hSW
                      unfold oY38
                      try dsimp only at hSW
                      go_simp
                      try with_reducible rfl
                    try simp only [oY38, PT]
                    refine tkL 8 oY39 ?v8_2609 (.inl ⟨by rfl, ?h8_2609⟩) ?r8_2609
                    case h8_2609 =>
                      intro W hSW
                      unfold oY39
                      try dsimp only at hSW
                      have hcc := (hSW.cell (p := ⟨bl, 1, none⟩) HBL.out).trans HR1.out.1
                      go_simp
                      try with_reducible rfl
                    try simp only [oY39, PT]
                    refine tkL 9 oY40 ?v9_2610 (.inl ⟨by rfl, ?h9_2610⟩) ?r9_2610
                    case h9_2610 =>
                      intro W hSW
                      unfold oY40
                      try dsimp only at hSW
                      go_simp
                      try with_reducible rfl
                    try simp only [oY40, PT]
                    refine tkL 10 oY41 ?v10_2611 (.inl ⟨by rfl, ?h10_2611⟩) ?r10_2611
                    case h10_2611 =>
                      intro W hSW
                      unfold oY41
                      try dsimp only at hSW
                      go_simp
                      try with_reducible rfl
                    try simp only [oY41, PT]
                    refine tkL 11 oY42 ?v11_2612 (.inl ⟨by rfl, ?h11_2612⟩) ?r11_2612
                    case h11_2612 =>
                      intro W hSW
                      unfold oY42
                      try dsimp only at hSW
                      go_simp
                      try with_reducible rfl
                    try simp only [oY42, PT]
                    refine tkL 12 oY43 _ (yasI (yi_cutFrom rfl 69 (.tmp 157) (.tmp 164) rfl accT (some ⟨gk, ok, none⟩) L1 ck d .i64 _ rfl rfl HMAX.out HDL.out.1) (cut_val gk ok L1 ck d HDL.out.2.1)) ?_
                    try simp only [oY43, PT]
                    refine tkL 13 oY44 ?v13_2614 (.inl ⟨by rfl, ?h13_2614⟩) ?r13_2614
                    case h13_2614 =>
                      intro W hSW
                      unfold oY44
                      try dsimp only at hSW
                      go_simp
                      try with_reducible rfl
                    try simp only [oY44, PT]
                    refine tkL 14 oY45 ?v14_2615 (.inl ⟨by rfl, ?h14_2615⟩) ?r14_2615
                    case h14_2615 =>
                      intro W hSW
                      unfold oY45
                      try dsimp only at hSW
                      go_simp
                      try with_reducible rfl
                    try simp only [oY45, PT]
                    refine rdyL [15] ?_
                    refine AllReadyL.late (o := oY46) rfl (by rfl) (fun K hK => ?_) AllReadyL.nil
                    unfold oY46
                    rw [if_pos (by rfl)]
                    have hk1 := (hv0.cell (p := ⟨bl, 1, none⟩) HBL.out).trans HR1.out.1
                    have hf1 := (hv0.frozen (p := ⟨bl, 1, none⟩) HBL.out).trans HR1.out.2
                    go_simp
                    obtain ⟨w700, hw700⟩ : ∃ x, wd.setCell ⟨bl, 1, none⟩ (.slice (some ⟨gk, ok + d * 7, none⟩) (L1 - d) (ck - d)) = x := ⟨_, rfl⟩
                    rw [hw700]
                    have HRF : Hid (IsRow w700 bl 71 (.int .i64 (P1 : Int) :: .slice (some ⟨gk, ok + d * 7, none⟩) (L1 - d) (ck - d) :: .slice (some ⟨m.bp, 0, none⟩) N m.cp :: .slice (some ⟨m.bq, 0, none⟩) N m.cq :: bvs l.head) ∧ Keep (fun q => q = bl) w25 w700) := Lib.hid (by rw [← hw700]; exact ⟨(HP.out.row.below' hv0).set 1 _, Keep.setCell (S := fun q => q = bl) (a := ⟨bl, 1, none⟩) (Keep.of_below hv0) (.inl rfl) _⟩)
                    have hv700 := HRF
                    clear hw700 hk1 hf1
                    refine hK.out _ _ ?_
                    clear hK K
                    try simp only [PT]
                    refine wpAnyL_done (by kernel_rfl) ?_ _
                    go_wp2_with fail
                    go_meet
                    exact HRF
                  case rest =>
                    obtain ⟨w26, hw26⟩ : ∃ x, wc = x := ⟨_, rfl⟩
                    have HP6 := hcut
                    try rw [hw26] at HP6 ⊢
                    clear hw26 hcut m16 HR1
                    have hlat := HC1.out.lat
                    have h15 := HG15.out
                    have hz11 := HC1.out.keep.size
                    have hzw := HW11.out.size
                    have hcz : ∀ b, w.heap.size ≤ b → col b = 0 := fun b hb => by
                      rcases Nat.eq_zero_or_pos (col b) with h | h
                      · exact h
                      · have := HCZ.out b (by omega); omega
                    have hbll : col bl = 1 := hlat.cbl
                    have hAl : ∀ a, m.A = some a → col a.block = 4 := hlat.cka
                    have K24 : Keep (fun b => col b ≠ 0) w w24 := (Keep.of_below HW11.out).then HC1.out.keep (fun k h => h.elim .inl (fun e => .inr (by omega)))
                    have KA26 : Keep (fun q => q = bl ∨ ∃ a, m.A = some a ∧ q = a.block) w24 w26 := HP.out.keep.trans (HP6.out.2.mono fun k _ e => .inl e)
                    have K26 : Keep (fun b => col b ≠ 0) w w26 := K24.trans (KA26.mono fun k _ e => by
                      rcases e with e | ⟨a, ha, e⟩
                      · subst e; omega
                      · subst e; have := hAl a ha; omega)
                    have far : ∀ b, w.heap.size ≤ b → ¬ (b = bl ∨ ∃ a, m.A = some a ∧ b = a.block) := fun b hb e => by
                      have := hcz b hb
                      rcases e with e | ⟨a, ha, e⟩
                      · subst e; omega
                      · subst e; have := hAl a ha; omega
                    have far15 : ∀ b, w.heap.size ≤ b → b ≠ b15 → ¬ (col b ≠ 0 ∨ b = b15) := fun b hb h e => by
                      have := hcz b hb; omega
                    have FC : FRow w26 gC N (fun t => C.getD t 0) := (HFC11.out.keeps HC1.out.keep (far15 gC (by omega) (by omega))).keeps KA26 (far gC (by omega))
                    have Q8 : IsRow w26 b8 31 Z6 := (HQ11.out.keep (HC1.out.keep.block b8 HQ11.out.lt (far15 b8 (by omega) (by omega)))).keep (KA26.block b8 (by have := HQ11.out.lt; omega) (far b8 (by omega)))
                    have hlt4 := own_above HC1.out.own4 (k := g4) rfl
                    have hlt5 := own_above HC1.out.own5 (k := g5) rfl
                    obtain ⟨g4', e4, _, F4⟩ := FRow.of_own HC1.out.own4 hN1
                    obtain rfl : g4 = g4' := congrArg (·.block) (Option.some.inj e4)
                    obtain ⟨g5', e5, _, F5⟩ := FRow.of_own HC1.out.own5 hN1
                    obtain rfl : g5 = g5' := congrArg (·.block) (Option.some.inj e5)
                    have F4 := F4.keeps KA26 (far g4 (by omega))
                    have F5 := F5.keeps KA26 (far g5 (by omega))
                    have Q15 : IsRow w26 b15 31 [.int .i64 (P : Int), .int .i64 md, .int .i64 hh, .slice (some ⟨gC, 0, none⟩) N cc, .slice (some ⟨g4, 0, none⟩) N c4, .slice (some ⟨g5, 0, none⟩) N c5] := by
                      have := HC1.out.row.keep (KA26.block b15 (by omega) (far b15 (by omega)))
                      rwa [HPP.out] at this
                    have hgkk : gk ≠ bl := fun e => by
                      rcases HP.out.hor with ⟨o, ho⟩ | ho
                      · have : col gk = 4 := hAl _ ho
                        subst e; omega
                      · have := hlat.row.lt; omega
                    have hgn : ∀ b, w.heap.size ≤ b → b < w24.heap.size → b ≠ gk := fun b h1 h2 e => by
                      rcases HP.out.hor with ⟨o, ho⟩ | ho
                      · have : col gk = 4 := hAl _ ho
                        have := hcz b h1
                        subst e; omega
                      · omega
                    have hbg := HP.out.bg
                    have hfg := HP.out.fg
                    have FB : FRow w26 bg N (fun t => (List.replicate N (0 : Int)).getD t 0) := (hfg.keeps HP6.out.2 (show ¬ bg = bl from fun e => by have : w24.heap.size ≤ bg := hbg; have := hlat.row.lt; omega)).congr fun t _ => Bil.rep_zero N t
                    have hbg' : w24.heap.size ≤ bg := hbg
                    have hcn : C.length = N := by rw [HC.out, HNN.out]
                    have hUn : U.length = N := by rw [HUL.out, hcn]
                    have hTn : T.length = N := by rw [HTL.out, hcn]
                    have hkn : KNew w26 w.heap.size l.n gk ⟨⟨⟨P, md, hh, C, U, T⟩, List.replicate N 0⟩, gC, cc, g4, c4, g5, c5, bg, N⟩ := by
                      rw [HNN.out]
                      refine ⟨FC, F4, F5, FB, hcn, hUn, hTn, by simp, ?_, ?_, ?_, ?_, hgn _ ?_ ?_, hgn _ ?_ ?_, hgn _ ?_ ?_, HP.out.ne, ?_, ?_, ?_⟩ <;> dsimp only <;> omega
                    have hkr : KRow w26 l.n (some ⟨gk, ok + d * 7, none⟩) (ck - d) ((m.ks ++ [(⟨⟨⟨P, md, hh, C, U, T⟩, List.replicate N 0⟩, gC, cc, g4, c4, g5, c5, bg, N⟩ : KA)]).drop d) := by
                      rw [HNN.out]
                      refine (HP.out.kr.cut (by rw [List.length_append, List.length_singleton, HLK.out, HL1.out]; exact HDL.out.1)).keep fun a ha => ?_
                      obtain rfl := Option.some.inj ha
                      exact HP6.out.2.block _ HP.out.glt hgkk
                    have hdlen : ((m.ks ++ [(⟨⟨⟨P, md, hh, C, U, T⟩, List.replicate N 0⟩, gC, cc, g4, c4, g5, c5, bg, N⟩ : KA)]).drop d).length = L1 - d := by
                      rw [List.length_drop, List.length_append, List.length_singleton, HLK.out, HL1.out]
                    obtain ⟨col', hl6, hc6⟩ := LAt.pushed hlat KA26 w.heap.size hcz ⟨HTT.out.k.lt, HTT.out.s.lt, HRT.out.r.lt⟩ _ gk (ok + d * 7) (ck - d) d hkn hkr (by rw [hdlen]; have := HLK.out; have := HL1.out; have := HDL.out.2.2; omega)
                      (by rcases HP.out.hor with ⟨o, ho⟩ | ho; exact .inl ⟨_, ho⟩; exact .inr (by omega)) (by have := HP.out.glt; have := HP6.out.2.size; omega) (by rw [hdlen, HNN.out]; exact HP6.out.1)
                    have hle : (encClose md hs C).length ≤ 1000000 := by
                      have h1 := Wire.enc_length_le 1
                      have h2 := Wire.enc_length_le md
                      have h3 := Wire.enc_length_le hs
                      have h4 := encI_len C
                      have := HN.out.2
                      have := HNN.out
                      unfold encClose
                      simp only [List.length_append]
                      omega
                    have hmdr := fits_range HOK.out.2.1
                    have hhsr := HHS.out
                    have hi64 : I64s C := fun x hx => by
                      have := fits_range (HOK.out.2.2.2.1 x hx)
                      omega
                    have rd26 : Rd w26 B 1 (some ⟨bA, offA, none⟩) N (ivs C) := HC1.out.rd.keepS KA26 (by have := HC1.out.hB; omega) (fun a ha e => by
                      have h0 := HA.out a ha
                      rcases e with e | ⟨a', ha', e⟩
                      · rw [e] at h0; omega
                      · rw [e] at h0; have := hAl a' ha'; omega)
                    have HE := Lib.hid (encodeClose_any md hs (by omega) (by omega) (by omega) (by omega) (some ⟨bA, offA, none⟩) N c C hcn (by have := HN.out; have := HNN.out; omega) hi64 B w26 rd26 (by have := HC1.out.hB; have := HP6.out.2.size; have := HP.out.keep.size; omega))
                    have hsz : (⟨(encClose md hs C).toArray⟩ : ByteArray).size ≤ 1000000 := by show (encClose md hs C).toArray.size ≤ _; simpa using hle
                    have HBK := Lib.hid (fun (W : World) (hW : Below w26.heap.size w26 W) => book_any bl col' _ _ ⟨(encClose md hs C).toArray⟩ hsz W (hl6.below hW) (HTT.out.keeps (K26.then_below hW) (by have := HH.out.tab.1; omega) (by have := HH.out.tab.2.1; omega)))
                    have hbill : Bil.billOf l md hs C = ⟨(P : Int), md, hh, C, U, T⟩ := by
                      unfold Bil.billOf
                      rw [HUT.out.1, HUT.out.2, HPP.out, ← HHH.out]
                      unfold sumK
                      rw [List.take_of_length_le (by omega)]
                    have hcl : Bil.closeOf (bookHead l.head ⟨(encClose md hs C).toArray⟩) l md hs C = { l with periods := P1, pending := List.zipWith (· - ·) l.pending U, paid := List.zipWith (· + ·) l.paid T, kept := (l.kept ++ [(⟨⟨(P : Int), md, hh, C, U, T⟩, List.replicate N 0⟩ : Bil.Acc)]).drop d, head := bookHead l.head ⟨(encClose md hs C).toArray⟩ } := by
                      unfold Bil.closeOf Bil.keep16
                      have hd' : (l.kept ++ [(⟨⟨(P : Int), md, hh, C, U, T⟩, List.replicate N 0⟩ : Bil.Acc)]).length - 16 = d := by
                        rw [List.length_append, List.length_singleton, HH.out.klen]; exact HDL.out.2.2.symm
                      rw [hbill, HUT.out.1, HUT.out.2, HNN.out, hd', HPP.out, HP1.out]
                    have HCL' := Lib.hid (And.intro hbill hcl)
                    have HL6 := Lib.hid hl6
                    have HC6 := Lib.hid hc6
                    have h8g := hgn b8 (by omega) (by omega)
                    have H8 : Hid (col' b8 = 0) := Lib.hid (by
                      rcases Nat.eq_zero_or_pos (col' b8) with h0 | h0
                      · exact h0
                      · have h9 := hcz b8 (by omega)
                        rcases hc6 b8 (by omega) with h | ⟨_, h⟩
                        · omega
                        · simp only at h; omega)
                    have HK26 := Lib.hid K26
                    have HFF := Lib.hid (And.intro FC (And.intro F4 (And.intro F5 (And.intro Q8 Q15))))
                    have HLN := Lib.hid (And.intro hcn (And.intro hUn hTn))
                    have HBZ : Hid (b15 ≠ bl ∧ b8 ≠ bl ∧ gC ≠ bl ∧ g4 ≠ bl ∧ g5 ≠ bl ∧ w.heap.size ≤ b8) := Lib.hid (by
                      have e : ∀ b, w.heap.size ≤ b → b ≠ bl := fun b hb h => by have := hcz b hb; subst h; omega
                      exact ⟨e _ (by omega), e _ (by omega), e _ (by omega), e _ (by omega), e _ (by omega), by omega⟩)
                    have hN16 : N ≤ 16 := by have := HN.out; have := HNN.out; omega
                    have HN16 := Lib.hid hN16
                    clear hlat h15 hz11 hzw hcz hbll hAl K24 KA26 K26 far far15 FC Q8 hlt4 hlt5 e4 e5 F4 F5 Q15 hgkk hgn hbg hfg FB hbg' hcn hUn hTn hkn hkr hdlen hl6 hc6 hle hmdr hhsr hi64 rd26 hsz hbill hcl hN16
                    clear HP6 HDL HMAX HP HC1
                    go_wp2_with (first
                      | (go_at_call 52; refine HE.out.mono ?_; rintro e w27 ⟨rfl, b27⟩; have HB27 := Lib.hid b27; clear b27)
                      | (go_at_call 69; refine (HBK.out w27 HB27.out).mono ?_; rintro e w28 ⟨rfl, hl28, hk28⟩; have HL28 := Lib.hid hl28; have HK28 := Lib.hid hk28; have q15 := (HFF.out.2.2.2.2.below' HB27.out).keep (hk28.block b15 (Nat.lt_of_lt_of_le HFF.out.2.2.2.2.lt HB27.out.size) HBZ.out.1); clear hl28 hk28)
                      | (refine wpList_loadS rfl _ (.tmp 15) rfl q15 rfl Tryd.underlying31 size6 ?_)
                      | (go_at_call 37; refine (copied_any P md hh (some ⟨gC, 0, none⟩) (some ⟨g4, 0, none⟩) (some ⟨g5, 0, none⟩) N N N cc c4 c5 C U T HLN.out.1 HLN.out.2.1 HLN.out.2.2 (Nat.le_trans HN16.out (by decide)) (Nat.le_trans HN16.out (by decide)) (Nat.le_trans HN16.out (by decide)) w28.heap.size w28 (((HFF.out.1.below HB27.out).keeps HK28.out HBZ.out.2.2.1).rd HLN.out.1) (((HFF.out.2.1.below HB27.out).keeps HK28.out HBZ.out.2.2.2.1).rd HLN.out.2.1) (((HFF.out.2.2.1.below HB27.out).keeps HK28.out HBZ.out.2.2.2.2.1).rd HLN.out.2.2) (Nat.le_refl _)).mono ?_; rintro e w29 ⟨v, rfl, hbv, b29⟩; obtain ⟨A1, A2, A3, c1, c2, c3, hv, o1, o2, o3⟩ := hbv; dsimp only at hv o1 o2 o3; subst hv; have HO := Lib.hid (And.intro o1 (And.intro o2 o3)); have HB29 := Lib.hid b29; have q8 := ((HFF.out.2.2.2.1.below' HB27.out).keep (HK28.out.block b8 (Nat.lt_of_lt_of_le HFF.out.2.2.2.1.lt HB27.out.size) HBZ.out.2.1)).below' b29; clear o1 o2 o3 b29)
                      | (refine wpList_storeRow rfl _ (.tmp 8) (.tmp 175) rfl (l' := [.int .i64 (P : Int), .int .i64 md, .int .i64 hh, .slice A1 C.length c1, .slice A2 U.length c2, .slice A3 T.length c3]) q8 rfl rfl size6 rfl rfl ?_; intro w30 r30 g30 z30))
                    have K28 : Keep (fun b => col b ≠ 0) w w28 := (HK26.out.then_below HB27.out).trans (HK28.out.mono fun b _ e => by subst e; show col b ≠ 0; have := HH.out.cbl; omega)
                    have K29 := K28.then_below HB29.out
                    have K30 : Keep (fun b => col b ≠ 0) w w30 := K29.grown g30 fun k e => .inr (by have := Option.some.inj e; have := HBZ.out.2.2.2.2.2; omega)
                    have hb8l : b8 < w28.heap.size := by have := HFF.out.2.2.2.1.lt; have := HB27.out.size; have := HK28.out.size; omega
                    have ho : ∀ {A : Option Addr} {n c : Nat} {xs : List Value}, w29.ownsRow w28.heap.size 3 1 (.slice A n c) n xs → w30.ownsRow w.heap.size 3 1 (.slice A n c) n xs := fun h => own_base (own_far h g30 hb8l) K28.size
                    have HL30 := (HL28.out.below HB29.out).keeps (S := fun k => k = b8) (Keep.of_grown g30 fun k e => (Option.some.inj e).symm) (fun b e => by
                      subst e; exact H8.out)
                    exact bodyPost_ret (resultRowST rfl _ _ r30 rfl Tryd.underlying31 size6) rfl (.inr ⟨by rw [HPP.out]; exact HPL.out, _, col', _, rfl, ⟨A1, A2, A3, c1, c2, c3, by rw [HCL'.out.1], by rw [HCL'.out.1]; exact ho HO.out.1, by rw [HCL'.out.1]; exact ho HO.out.2.1, by rw [HCL'.out.1]; exact ho HO.out.2.2⟩, by rw [HCL'.out.2]; exact HL30, K30, fun b hb => (HC6.out b hb).imp id (·.1)⟩)
end Go.Proofs.YtkjomnakolhdcaaDoor
