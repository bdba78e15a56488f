/- Layer 35's book, New, copied. Conditions: 1 to 16 tenants; lists of at most 1000 numbers; strings of at most 1000000 bytes. -/
import Derived.Test.YtkjomnakolhdcaaDoorHeld2
import Derived.Test.YtkjomnakolhdcaaDoorBilM
namespace Go.Proofs.YtkjomnakolhdcaaDoor
set_option linter.unusedVariables false
set_option linter.unusedSimpArgs false
open Go.RowKit
abbrev oW10 : Oper := { dst := some 3, op := Op.fieldAddr 31 (Operand.tmp 1) 3, type := 0, pos := "bills.go:63", after := #[], guard := none }
abbrev oW11 : Oper := { dst := some 4, op := Op.load 29 (Operand.tmp 3), type := 29, pos := "bills.go:63", after := #[{ on := 0, ground := Ground.data }], guard := none }
abbrev oW12 : Oper := { dst := some 6, op := Op.fieldAddr 31 (Operand.tmp 1) 4, type := 0, pos := "bills.go:63", after := #[], guard := none }
abbrev oW13 : Oper := { dst := some 7, op := Op.load 29 (Operand.tmp 6), type := 29, pos := "bills.go:63", after := #[{ on := 3, ground := Ground.data }], guard := none }
abbrev oW14 : Oper := { dst := some 9, op := Op.fieldAddr 31 (Operand.tmp 1) 5, type := 0, pos := "bills.go:63", after := #[], guard := none }
abbrev oW15 : Oper := { dst := some 10, op := Op.load 29 (Operand.tmp 9), type := 29, pos := "bills.go:63", after := #[{ on := 6, ground := Ground.data }], guard := none }
abbrev oW16 : Oper := { dst := some 5, op := Op.call { callee := Callee.value (Operand.func 36), args := #[Operand.tmp 4], argTypes := #[29] }, type := 29, pos := "bills.go:63", after := #[{ on := 1, ground := Ground.data }], guard := none }
abbrev oW17 : Oper := { dst := some 12, op := Op.fieldAddr 31 (Operand.tmp 1) 3, type := 0, pos := "bills.go:63", after := #[{ on := 0, ground := Ground.phase }, { on := 1, ground := Ground.phase }, { on := 2, ground := Ground.phase }, { on := 3, ground := Ground.phase }, { on := 4, ground := Ground.phase }, { on := 5, ground := Ground.textOnly Departure.lateStoresUnsure }, { on := 6, ground := Ground.phase }, { on := 7, ground := Ground.phase }, { on := 8, ground := Ground.textOnly Departure.lateStoresUnsure }], guard := none }
abbrev oW18 : Oper := { dst := some 8, op := Op.call { callee := Callee.value (Operand.func 36), args := #[Operand.tmp 7], argTypes := #[29] }, type := 29, pos := "bills.go:63", after := #[{ on := 4, ground := Ground.data }, { on := 2, ground := Ground.chain }], guard := none }
abbrev oW19 : Oper := { dst := some 11, op := Op.call { callee := Callee.value (Operand.func 36), args := #[Operand.tmp 10], argTypes := #[29] }, type := 29, pos := "bills.go:63", after := #[{ on := 7, ground := Ground.data }, { on := 5, ground := Ground.chain }], guard := none }
abbrev oW110 : Oper := { dst := none, op := Op.store 29 (Operand.tmp 12) (Operand.tmp 5), type := 0, pos := "bills.go:63", after := #[{ on := 9, ground := Ground.data }, { on := 2, ground := Ground.data }, { on := 8, ground := Ground.chain }, { on := 0, ground := Ground.phase }, { on := 1, ground := Ground.phase }, { on := 2, ground := Ground.phase }, { on := 3, ground := Ground.phase }, { on := 4, ground := Ground.phase }, { on := 5, ground := Ground.textOnly Departure.lateStoresUnsure }, { on := 6, ground := Ground.phase }, { on := 7, ground := Ground.phase }, { on := 8, ground := Ground.textOnly Departure.lateStoresUnsure }], guard := none }
abbrev oW111 : Oper := { dst := some 13, op := Op.fieldAddr 31 (Operand.tmp 1) 4, type := 0, pos := "bills.go:63", after := #[{ on := 0, ground := Ground.phase }, { on := 1, ground := Ground.phase }, { on := 2, ground := Ground.phase }, { on := 3, ground := Ground.phase }, { on := 4, ground := Ground.phase }, { on := 5, ground := Ground.phase }, { on := 6, ground := Ground.phase }, { on := 7, ground := Ground.phase }, { on := 8, ground := Ground.textOnly Departure.lateStoresUnsure }, { on := 9, ground := Ground.phase }, { on := 10, ground := Ground.phase }], guard := none }
abbrev oW112 : Oper := { dst := none, op := Op.store 29 (Operand.tmp 13) (Operand.tmp 8), type := 0, pos := "bills.go:63", after := #[{ on := 11, ground := Ground.data }, { on := 5, ground := Ground.data }, { on := 10, ground := Ground.chain }, { on := 0, ground := Ground.phase }, { on := 1, ground := Ground.phase }, { on := 2, ground := Ground.phase }, { on := 3, ground := Ground.phase }, { on := 4, ground := Ground.phase }, { on := 5, ground := Ground.phase }, { on := 6, ground := Ground.phase }, { on := 7, ground := Ground.phase }, { on := 8, ground := Ground.textOnly Departure.lateStoresUnsure }, { on := 9, ground := Ground.phase }, { on := 10, ground := Ground.phase }], guard := none }
abbrev oW113 : Oper := { dst := some 14, op := Op.fieldAddr 31 (Operand.tmp 1) 5, type := 0, pos := "bills.go:63", after := #[{ on := 0, ground := Ground.phase }, { on := 1, ground := Ground.phase }, { on := 2, ground := Ground.phase }, { on := 3, ground := Ground.phase }, { on := 4, ground := Ground.phase }, { on := 5, ground := Ground.phase }, { on := 6, ground := Ground.phase }, { on := 7, ground := Ground.phase }, { on := 8, ground := Ground.phase }, { on := 9, ground := Ground.phase }, { on := 10, ground := Ground.phase }, { on := 11, ground := Ground.phase }, { on := 12, ground := Ground.phase }], guard := none }
abbrev oW114 : Oper := { dst := none, op := Op.store 29 (Operand.tmp 14) (Operand.tmp 11), type := 0, pos := "bills.go:63", after := #[{ on := 13, ground := Ground.data }, { on := 8, ground := Ground.data }, { on := 12, ground := Ground.chain }, { on := 0, ground := Ground.phase }, { on := 1, ground := Ground.phase }, { on := 2, ground := Ground.phase }, { on := 3, ground := Ground.phase }, { on := 4, ground := Ground.phase }, { on := 5, ground := Ground.phase }, { on := 6, ground := Ground.phase }, { on := 7, ground := Ground.phase }, { on := 8, ground := Ground.phase }, { on := 9, ground := Ground.phase }, { on := 10, ground := Ground.phase }, { on := 11, ground := Ground.phase }, { on := 12, ground := Ground.phase }], guard := none }
def setL (l : List Value) (o : Nat) : List Value → List Value
  | [] => l
  | v :: vs => setL (l.set o v) (o + 1) vs
theorem setL_mid (post : List Value) : ∀ (pre old new : List Value), old.length = new.length → setL (pre ++ old ++ post) pre.length new = pre ++ new ++ post
  | pre, [], [], _ => by simp [setL]
  | pre, [], _ :: _, h => by simp at h
  | pre, _ :: _, [], h => by simp at h
  | pre, a :: old, b :: new, h => by
    have h1 : (pre ++ a :: old ++ post).set pre.length b = (pre ++ [b]) ++ old ++ post := by simp
    have h2 := setL_mid post (pre ++ [b]) old new (by simpa using h)
    rw [setL, h1]
    rw [List.length_append] at h2
    simpa using h2
theorem IsRow.setCells {b t : Nat} : ∀ (vs l : List Value) (o : Nat) (w : World), IsRow w b t l → IsRow (w.setCells b o vs) b t (setL l o vs) ∧ w.grownBy (w.setCells b o vs) (some b) ∧ (w.setCells b o vs).heap.size = w.heap.size
  | [], _, _, w, h => ⟨h, World.grownBy.refl _ _, rfl⟩
  | v :: vs, l, o, w, h => by
    obtain ⟨h1, h2, h3⟩ := IsRow.setCells vs (l.set o v) (o + 1) (w.setCell ⟨b, o, none⟩ v) (h.set o v)
    exact ⟨h1, (grown_setCell _ _ _ _).trans h2, h3.trans (by simp)⟩
theorem IsRow.there {w : World} {b t : Nat} {l : List Value} (h : IsRow w b t l) {o n : Nat} (hn : o + n ≤ l.length) : w.there b o n := fun j hj => by
  refine ⟨?_, h.frozen _⟩
  rw [h.cell]
  simp [show o + j < l.length by omega]
theorem LAt.rehead {w w' : World} {col : Nat → Nat} {bl : Nat} {m : LM} {l : Bil.Lg} (h : LAt w bl col m l) (hg : w.grownBy w' (some bl)) (hd : List UInt8) (h16 : hd.length = 16) (hr : IsRow w' bl 71 (m.cells { l with head := hd })) : LAt w' bl col m { l with head := hd } := by
  have hk : Keep (fun k => k = bl) w w' := Keep.of_grown hg (fun k e => (Option.some.inj e).symm)
  have f : ∀ b q, col b = q → q ≠ 1 → ¬ b = bl := fun b q hq h0 hS => by subst hS; rw [h.cbl] at hq; omega
  have kat : ∀ k ∈ m.ks, KAt w' col l.n k := fun k hk' => by
    have x := h.kat k hk'
    exact ⟨x.c.keeps hk (f _ _ x.qc (by omega)), x.r.keeps hk (f _ _ x.qr (by omega)), x.t.keeps hk (f _ _ x.qt (by omega)), x.g.keeps hk (f _ _ x.qg (by omega)), x.lc, x.lr, x.lt, x.lg, x.qc, x.qr, x.qt, x.qg⟩
  exact ⟨hr, h16, h.n1, h.n2, h.per, h.len, h.pend.keeps hk (f _ _ h.cbp (by omega)), h.paid.keeps hk (f _ _ h.cbq (by omega)), h.lp, h.lq, h.kept,
    h.krow.keep fun a ha => hk.block a.block (h.krow.lt ha) (f _ _ (h.cka a ha) (by omega)), kat, h.cbl, h.cbp, h.cbq, h.cka, fun k hc => Nat.lt_of_lt_of_le (h.lt k hc) hk.size, h.tab⟩
/-- the digest of a ledger behind a booking -/
def bookHead (hd : List UInt8) (s : ByteArray) : List UInt8 := Mk.of 6 [Mk.str hd, s]
theorem input2_le (hd : List UInt8) (h : hd.length = 16) (s : ByteArray) (hs : s.size ≤ 1000000) : (Mk.input 6 [Mk.str hd, s]).length ≤ 1000100 := by
  have e : ∀ x : ByteArray, (Wire.encB x.data.toList).length ≤ 9 + x.size := fun x => by
    unfold Wire.encB
    rw [List.length_append]
    have := Wire.enc_length_le x.data.toList.length
    have h2 : x.data.toList.length = x.size := by simp
    omega
  have h1 := e (Mk.str hd)
  have h2 := e s
  have h3 : (Mk.str hd).size = 16 := by show hd.toArray.size = 16; simp [h]
  simp only [Mk.input, List.flatMap_cons, List.flatMap_nil, List.append_nil, List.length_append, List.length_singleton]
  omega
set_option maxRecDepth 100000 in
set_option maxHeartbeats 1600000 in
theorem book_any (bl : Nat) (col : Nat → Nat) (m : LM) (l : Bil.Lg) (s : ByteArray) (hs : s.size ≤ 1000000) (w : World) (h : LAt w bl col m l) (hT : Tabs w) :
    Calls Tryd.prog 69 #[.pointer (some ⟨bl, 0, none⟩), .string s] w fun e w' => e = .returned (.tuple #[]) ∧ LAt w' bl col m { l with head := bookHead l.head s } ∧ Keep (fun k => k = bl) w w' := by
  have hle := input2_le l.head h.h16 s hs
  have hrow := h.row
  have hrng : Rd w (bl + 1) 1 (some ⟨bl, 4, none⟩) 16 (bvs l.head) := ⟨by simp [h.h16], fun _ => ⟨bl, 4, rfl, by omega, fun j u hu => by
    rw [hrow.cell]
    show (m.cells l)[4 + j]? = some u
    rw [Nat.add_comm]
    exact hu⟩⟩
  have hcv := run_toS w 58 9 5 Tryd.underlying58 Tryd.underlying5 Tryd.underlying9 (some ⟨bl, 4, none⟩) 16 16 (bl + 1) l.head hrng
  have HOF := Lib.hid (fun (W : World) (hW : Below w.heap.size w W) => of_any 6 (some ⟨W.heap.size, 0, none⟩) 2 2 [Mk.str l.head, s] rfl (W.heap.size + 1) (W.alloc (.cells #[.string (Mk.str l.head), .string s] 9)) (Rd.new W _ 9 2 (size := 1) rfl) (by simp) (by omega) ((hT.below hW).below ((Below.refl _ _).alloc (Nat.le_refl _) _)))
  have HL := Lib.hid h
  have hsl := Mk.short_len (Mk.input 6 [Mk.str l.head, s])
  have HSL := Lib.hid (show (bookHead l.head s).length = 16 from hsl)
  clear h hle hrow hrng hT hs hsl
  go_enter Tryd.func69, Tryd.ntmps69
  go_wp2_with (first
    | (go_at_call 31; refine (HOF.out _ (Below.refl _ _)).mono ?_; rintro e w2 ⟨rfl, b2⟩; have HB2 := Lib.hid ((((Below.refl w.heap.size w).alloc (Nat.le_refl _) _)).trans (b2.mono (by simp))); clear b2)
    | (refine wpList_store_mid rfl _ (.tmp 14) (.tmp 12) rfl bl 4 (bvs (bookHead l.head s)).toArray rfl rfl (by have := (HL.out.row.below' HB2.out).there (o := 4) (n := 16) (by simp [LM.cells, HL.out.h16]); simpa [HSL.out] using this) (by rw [List.size_toArray, bvs_len, HSL.out]; exact size16) (all_oneCell_toArray (bvs_one _)) ?_))
  have h2 := HL.out.below HB2.out
  have hr2 := h2.row
  have hz : (bvs (bookHead l.head s)).toArray.toList = bvs (bookHead l.head s) := rfl
  obtain ⟨r3, g3, z3⟩ := IsRow.setCells (bvs (bookHead l.head s)) _ 4 w2 hr2
  have e4 : setL (m.cells l) 4 (bvs (bookHead l.head s)) = m.cells { l with head := bookHead l.head s } := by
    have := setL_mid [] [.int .i64 (l.periods : Int), .slice m.A m.ks.length m.c, .slice (some ⟨m.bp, 0, none⟩) l.n m.cp, .slice (some ⟨m.bq, 0, none⟩) l.n m.cq] (bvs l.head) (bvs (bookHead l.head s)) (by simp [HL.out.h16, HSL.out])
    simpa [LM.cells] using this
  rw [e4] at r3
  have HR := Lib.hid (h2.rehead g3 _ HSL.out r3)
  have HK := Lib.hid ((Keep.of_below (S := fun k => k = bl) HB2.out).grown g3 (fun k e => .inl (Option.some.inj e).symm))
  clear r3 g3 z3 e4 hz h2 hr2
  go_wp2_with fail
  try go_end0
  exact ⟨rfl, HR.out, HK.out⟩
theorem own_far {w w' : World} {base b n size : Nat} {e : TypeId} {v : Value} {xs : List Value} (h : w.ownsRow base e size v n xs) (hg : w.grownBy w' (some b)) (hb : b < base) : w'.ownsRow base e size v n xs :=
  h.kept hg (by
    cases hv : v.ownBlock with
    | none => exact .inl rfl
    | some k => exact .inr fun e => by have := (h.lt k hv).1; injection e with e; omega)
theorem wpList_loadS {P : Program} {w : World} {ops : Array Oper} {rest : List Oper} {o : Oper} {a : Act} {Q : Exit → Act → World → Prop} (hgd : o.guard = none) (ty : TypeId) (x : Operand) (ho : o.op = .load ty x) {b t : Nat} {fs : Array Field} {l : List Value} (hr : IsRow w b t l) (hx : a.eval x = .pointer (some ⟨b, 0, none⟩))
    (hu : P.underlying ty = some (.struct fs)) (hi : (P.info? ty).map (·.size) = some l.length) (h : wpList P ops Q rest (a.put o.dst (.agg l.toArray)) w) : wpList P ops Q (o :: rest) a w :=
  wpList_load_row hgd ty x ho b hx t l.toArray (0, 0) _ hr hu rfl (by simpa using hi) h
theorem resultRowS {P : Program} {fn : Func} {p : Tmp} {ty : TypeId} (h : fn.results = #[.cell p ty]) (tmps : Array Value) (w : World) {b t : Nat} {fs : Array Field} {l : List Value} (hr : IsRow w b t l)
    (hp : tmps.getD p undef = .pointer (some ⟨b, 0, none⟩)) (hu : P.underlying ty = some (.struct fs)) (hi : (P.info? ty).map (·.size) = some l.length) :
    (results fn tmps).run P w = .ok (.agg l.toArray) w := results_cell_row h tmps w b t l.toArray (0, 0) _ hp hr hu rfl (by simpa using hi)
theorem resultRowST {P : Program} {fn : Func} {p u : Tmp} {ty : TypeId} (h : fn.results = #[.cell p ty, .tmp u]) (tmps : Array Value) (w : World) {b t : Nat} {fs : Array Field} {l : List Value} (hr : IsRow w b t l)
    (hp : tmps.getD p undef = .pointer (some ⟨b, 0, none⟩)) (hu : P.underlying ty = some (.struct fs)) (hi : (P.info? ty).map (·.size) = some l.length) :
    (results fn tmps).run P w = .ok (.tuple #[.agg l.toArray, tmps.getD u undef]) w := by
  rw [results_cell_tmp h tmps P w, hp]
  have hl := run_loadVar_mid (P := P) w b 0 ty l (.struct fs) (fun j v hv => by rw [Nat.zero_add, hr.cell]; exact hv) hu rfl hi
  simp [asAddr, hl, Sem.run_pure, Result.andThen]
/-- a bill as a value, and its lists in memory of the call's own -/
def BillV (w : World) (base : Nat) (v : Value) (b : Bil.Bill) : Prop := ∃ (A1 A2 A3 : Option Addr) (c1 c2 c3 : Nat), v = .agg #[.int .i64 b.period, .int .i64 b.media, .int .i64 b.house, .slice A1 b.charges.length c1, .slice A2 b.credits.length c2, .slice A3 b.nets.length c3] ∧
  w.ownsRow base 3 1 (.slice A1 b.charges.length c1) b.charges.length (ivs b.charges) ∧ w.ownsRow base 3 1 (.slice A2 b.credits.length c2) b.credits.length (ivs b.credits) ∧ w.ownsRow base 3 1 (.slice A3 b.nets.length c3) b.nets.length (ivs b.nets)
theorem size6 : (Tryd.prog.info? 31).map (·.size) = some 6 := by kernel_rfl
theorem info6 : (Tryd.prog.info? 31).map (fun i => (i.zero, i.size)) = some (some (.agg [.int .i64 0, .int .i64 0, .int .i64 0, .slice none 0 0, .slice none 0 0, .slice none 0 0].toArray), [Value.int .i64 0, .int .i64 0, .int .i64 0, .slice none 0 0, .slice none 0 0, .slice none 0 0].length) := by kernel_rfl
set_option maxRecDepth 100000 in
set_option maxHeartbeats 1600000 in
theorem copied_any (p md h : Int) (A1 A2 A3 : Option Addr) (n1 n2 n3 c1 c2 c3 : Nat) (l1 l2 l3 : List Int) (hl1 : l1.length = n1) (hl2 : l2.length = n2) (hl3 : l3.length = n3) (hn1 : n1 ≤ 1000) (hn2 : n2 ≤ 1000) (hn3 : n3 ≤ 1000)
    (B : Nat) (w : World) (r1 : Rd w B 1 A1 n1 (ivs l1)) (r2 : Rd w B 1 A2 n2 (ivs l2)) (r3 : Rd w B 1 A3 n3 (ivs l3)) (hB : B ≤ w.heap.size) :
    Calls Tryd.prog 37 #[.agg #[.int .i64 p, .int .i64 md, .int .i64 h, .slice A1 n1 c1, .slice A2 n2 c2, .slice A3 n3 c3]] w fun e w' => ∃ v, e = .returned v ∧ BillV w' w.heap.size v ⟨p, md, h, l1, l2, l3⟩ ∧ Below w.heap.size w w' := by
  obtain ⟨qx0, qy0⟩ := rows2 w 31 31 [.int .i64 p, .int .i64 md, .int .i64 h, .slice A1 n1 c1, .slice A2 n2 c2, .slice A3 n3 c3] [.int .i64 0, .int .i64 0, .int .i64 0, .slice none 0 0, .slice none 0 0, .slice none 0 0]
  have hb0 := ((Below.refl w.heap.size w).alloc (Nat.le_refl _) (.cells #[Value.int .i64 p, .int .i64 md, .int .i64 h, .slice A1 n1 c1, .slice A2 n2 c2, .slice A3 n3 c3] 31)).alloc (by simp) (.cells #[Value.int .i64 0, .int .i64 0, .int .i64 0, .slice none 0 0, .slice none 0 0, .slice none 0 0] 31)
  obtain ⟨w2, hw2⟩ : ∃ x, (w.alloc (.cells #[Value.int .i64 p, .int .i64 md, .int .i64 h, .slice A1 n1 c1, .slice A2 n2 c2, .slice A3 n3 c3] 31)).alloc (.cells #[Value.int .i64 0, .int .i64 0, .int .i64 0, .slice none 0 0, .slice none 0 0, .slice none 0 0] 31) = x := ⟨_, rfl⟩
  rw [hw2] at qx0 qy0 hb0
  obtain ⟨bx, hbx⟩ : ∃ x, w.heap.size = x := ⟨_, rfl⟩
  obtain ⟨by_, hby⟩ : ∃ x, bx + 1 = x := ⟨_, rfl⟩
  have HBX := Lib.hid hbx
  have HXY := Lib.hid (show by_ = bx + 1 from hby.symm)
  rw [hbx] at qx0
  rw [hbx, hby] at qy0
  have HC1 := Lib.hid (fun (W : World) (hW : Below w.heap.size w W) => cloneI A1 n1 c1 l1 hl1 hn1 B W (r1.below (hW.mono hB)) (Nat.le_trans hB hW.size))
  have HC2 := Lib.hid (fun (W : World) (hW : Below w.heap.size w W) => cloneI A2 n2 c2 l2 hl2 hn2 B W (r2.below (hW.mono hB)) (Nat.le_trans hB hW.size))
  have HC3 := Lib.hid (fun (W : World) (hW : Below w.heap.size w W) => cloneI A3 n3 c3 l3 hl3 hn3 B W (r3.below (hW.mono hB)) (Nat.le_trans hB hW.size))
  have HLL := Lib.hid (And.intro hl1 (And.intro hl2 hl3))
  have HW0 := Lib.hid hw2
  clear hw2 hbx r1 r2 r3 hB hl1 hl2 hl3 hn1 hn2 hn3
  go_enter Tryd.func37, Tryd.ntmps37
  go_wp2_with fail
  rw [show _ = w2 from HW0.out, show w.heap.size = bx from HBX.out, show bx + 1 = by_ from hby]
  have HQX := Lib.hid qx0
  have HQY := Lib.hid qy0
  have HB2 := Lib.hid hb0
  have HX2 : Hid (bx < w2.heap.size) := Lib.hid qx0.lt
  have HY2 : Hid (by_ < w2.heap.size) := Lib.hid qy0.lt
  clear qx0 qy0 hb0 hby
  have hv0 : Below w2.heap.size w2 w2.drew := (Below.refl _ _).drew
  refine wp_region_late (fun W => Below w2.heap.size w2 W) [10, 11, 12, 13, 14] (by kernel_rfl) (hv0) (fun hHeld => ?_)
  refine tkL 0 oW10 ?v0_1001 (.inl ⟨by rfl, ?h0_1001⟩) ?r0_1001
  case h0_1001 =>
    intro W hSW
    unfold oW10
    try dsimp only at hSW
    go_simp
    try with_reducible rfl
  try simp only [oW10, PT]
  refine tkL 1 oW11 ?v1_1002 (.inl ⟨by rfl, ?h1_1002⟩) ?r1_1002
  case h1_1002 =>
    intro W hSW
    unfold oW11
    try dsimp only at hSW
    have hcc := (hSW.cell (p := ⟨bx, 3, none⟩) HX2.out).trans (HQX.out.cell 3)
    go_simp
    try with_reducible rfl
  try simp only [oW11, PT]
  refine tkL 3 oW12 ?v3_1003 (.inl ⟨by rfl, ?h3_1003⟩) ?r3_1003
  case h3_1003 =>
    intro W hSW
    unfold oW12
    try dsimp only at hSW
    go_simp
    try with_reducible rfl
  try simp only [oW12, PT]
  refine tkL 4 oW13 ?v4_1004 (.inl ⟨by rfl, ?h4_1004⟩) ?r4_1004
  case h4_1004 =>
    intro W hSW
    unfold oW13
    try dsimp only at hSW
    have hcc := (hSW.cell (p := ⟨bx, 4, none⟩) HX2.out).trans (HQX.out.cell 4)
    go_simp
    try with_reducible rfl
  try simp only [oW13, PT]
  refine tkL 6 oW14 ?v6_1005 (.inl ⟨by rfl, ?h6_1005⟩) ?r6_1005
  case h6_1005 =>
    intro W hSW
    unfold oW14
    try dsimp only at hSW
    go_simp
    try with_reducible rfl
  try simp only [oW14, PT]
  refine tkL 7 oW15 ?v7_1006 (.inl ⟨by rfl, ?h7_1006⟩) ?r7_1006
  case h7_1006 =>
    intro W hSW
    unfold oW15
    try dsimp only at hSW
    have hcc := (hSW.cell (p := ⟨bx, 5, none⟩) HX2.out).trans (HQX.out.cell 5)
    go_simp
    try with_reducible rfl
  try simp only [oW15, PT]
  refine rdyL [2] ?_
  refine AllReadyL.cons (o := oW16) rfl (fun K hK => ?_) AllReadyL.nil
  unfold oW16
  go_simp
  refine (HC1.out _ (HB2.out.trans (hv0.mono HB2.out.size))).mono ?_
  rintro e w40 ⟨A4, c4, rfl, own1, b40⟩
  have hv40 : Below w2.heap.size w2 w40 := hv0.trans (b40.mono hv0.size)
  have own1 := own_base own1 (show w2.heap.size ≤ _ from hv0.size)
  clear b40
  refine hK.out _ _ (hv40) (fun hHeld => ?_)
  clear hK K
  try simp only [PT]
  refine tkL 9 oW17 ?v9_1007 (.inl ⟨by rfl, ?h9_1007⟩) ?r9_1007
  case h9_1007 =>
    intro W hSW
    unfold oW17
    try dsimp only at hSW
    go_simp
    try with_reducible rfl
  try simp only [oW17, PT]
  refine rdyL [5] ?_
  refine AllReadyL.cons (o := oW18) rfl (fun K hK => ?_) AllReadyL.nil
  unfold oW18
  go_simp
  refine (HC2.out _ (HB2.out.trans (hv40.mono HB2.out.size))).mono ?_
  rintro e w41 ⟨A5, c5, rfl, own2, b41⟩
  have hv41 : Below w2.heap.size w2 w41 := hv40.trans (b41.mono hv40.size)
  have own1 := own_below own1 b41
  have own2 := own_base own2 (show w2.heap.size ≤ _ from hv40.size)
  clear b41
  refine hK.out _ _ (hv41) (fun hHeld => ?_)
  clear hK K
  try simp only [PT]
  refine rdyL [8] ?_
  refine AllReadyL.cons (o := oW19) rfl (fun K hK => ?_) AllReadyL.nil
  unfold oW19
  go_simp
  refine (HC3.out _ (HB2.out.trans (hv41.mono HB2.out.size))).mono ?_
  rintro e w42 ⟨A6, c6, rfl, own3, b42⟩
  have hv42 : Below w2.heap.size w2 w42 := hv41.trans (b42.mono hv41.size)
  have own1 := own_below own1 b42
  have own2 := own_below own2 b42
  have own3 := own_base own3 (show w2.heap.size ≤ _ from hv41.size)
  clear b42
  have qx := HQX.out.below' hv42
  have k3 := qx.cell 3
  have k4 := qx.cell 4
  have k5 := qx.cell 5
  have f3 := qx.frozen 3
  have f4 := qx.frozen 4
  have f5 := qx.frozen 5
  have hb := HB2.out.trans (hv42.mono HB2.out.size)
  have qy := HQY.out.below' hv42
  refine hK.out _ _ (hv42) (fun hHeld => ?_)
  clear hK K
  try simp only [PT]
  refine rdyL [10] ?_
  refine AllReadyL.late (o := oW110) rfl (by rfl) (fun K hK => ?_) AllReadyL.nil
  unfold oW110
  go_simp
  obtain ⟨w43, hw43⟩ : ∃ x, w42.setCell ⟨bx, 3, none⟩ (.slice A4 n1 c4) = x := ⟨_, rfl⟩
  rw [hw43]
  have qx : IsRow w43 bx 31 [.int .i64 p, .int .i64 md, .int .i64 h, .slice A4 n1 c4, .slice A2 n2 c2, .slice A3 n3 c3] := by rw [← hw43]; exact qx.set 3 _
  have g43 : w42.grownBy w43 (some bx) := by rw [← hw43]; exact grown_setCell _ _ _ _
  have hb := hb.grown g43 hb.size (by intro j hj; have hj := Option.some.inj hj; have := HBX.out; omega)
  have own1 := own_far own1 g43 HX2.out
  have own2 := own_far own2 g43 HX2.out
  have own3 := own_far own3 g43 HX2.out
  have qy := qy.grown g43 (by intro e; have e := Option.some.inj e; have := HXY.out; omega)
  have k4 := qx.cell 4
  have f4 := qx.frozen 4
  have hv43 := hv42
  clear hw43 g43
  refine hK.out _ _ ?_
  clear hK K
  try simp only [PT]
  refine tkE 11 oW111 ?v11_1008 (.inl ⟨by rfl, ?h11_1008⟩) ?r11_1008
  case h11_1008 =>
    intro W
    unfold oW111
    go_simp
    try with_reducible rfl
  try simp only [oW111, PT]
  refine rdyL [12] ?_
  refine AllReadyL.late (o := oW112) rfl (by rfl) (fun K hK => ?_) AllReadyL.nil
  unfold oW112
  go_simp
  obtain ⟨w44, hw44⟩ : ∃ x, w43.setCell ⟨bx, 4, none⟩ (.slice A5 n2 c5) = x := ⟨_, rfl⟩
  rw [hw44]
  have qx : IsRow w44 bx 31 [.int .i64 p, .int .i64 md, .int .i64 h, .slice A4 n1 c4, .slice A5 n2 c5, .slice A3 n3 c3] := by rw [← hw44]; exact qx.set 4 _
  have g44 : w43.grownBy w44 (some bx) := by rw [← hw44]; exact grown_setCell _ _ _ _
  have hb := hb.grown g44 hb.size (by intro j hj; have hj := Option.some.inj hj; have := HBX.out; omega)
  have own1 := own_far own1 g44 HX2.out
  have own2 := own_far own2 g44 HX2.out
  have own3 := own_far own3 g44 HX2.out
  have qy := qy.grown g44 (by intro e; have e := Option.some.inj e; have := HXY.out; omega)
  have k5 := qx.cell 5
  have f5 := qx.frozen 5
  have hv44 := hv43
  clear hw44 g44
  refine hK.out _ _ ?_
  clear hK K
  try simp only [PT]
  refine tkE 13 oW113 ?v13_1009 (.inl ⟨by rfl, ?h13_1009⟩) ?r13_1009
  case h13_1009 =>
    intro W
    unfold oW113
    go_simp
    try with_reducible rfl
  try simp only [oW113, PT]
  refine rdyL [14] ?_
  refine AllReadyL.late (o := oW114) rfl (by rfl) (fun K hK => ?_) AllReadyL.nil
  unfold oW114
  go_simp
  obtain ⟨w45, hw45⟩ : ∃ x, w44.setCell ⟨bx, 5, none⟩ (.slice A6 n3 c6) = x := ⟨_, rfl⟩
  rw [hw45]
  have qx : IsRow w45 bx 31 [.int .i64 p, .int .i64 md, .int .i64 h, .slice A4 n1 c4, .slice A5 n2 c5, .slice A6 n3 c6] := by rw [← hw45]; exact qx.set 5 _
  have g45 : w44.grownBy w45 (some bx) := by rw [← hw45]; exact grown_setCell _ _ _ _
  have hb := hb.grown g45 hb.size (by intro j hj; have hj := Option.some.inj hj; have := HBX.out; omega)
  have own1 := own_far own1 g45 HX2.out
  have own2 := own_far own2 g45 HX2.out
  have own3 := own_far own3 g45 HX2.out
  have qy := qy.grown g45 (by intro e; have e := Option.some.inj e; have := HXY.out; omega)
  have k6 := qx.cell 6
  have f6 := qx.frozen 6
  have hv45 := hv44
  clear hw45 g45
  refine hK.out _ _ ?_
  clear hK K
  try simp only [PT]
  refine wpAnyL_done (by kernel_rfl) ?_ _
  go_wp2_with (first
    | (refine wpList_loadS rfl _ (.tmp 1) rfl qx rfl Tryd.underlying31 size6 ?_)
    | (refine wpList_storeRow rfl _ (.tmp 2) (.tmp 15) rfl (l' := [.int .i64 p, .int .i64 md, .int .i64 h, .slice A4 n1 c4, .slice A5 n2 c5, .slice A6 n3 c6]) qy rfl rfl size6 rfl rfl ?_; intro w9 r9 g9 z9))
  obtain ⟨rfl, rfl, rfl⟩ := HLL.out
  exact bodyPost_ret (resultRowS rfl _ _ r9 rfl Tryd.underlying31 size6) rfl ⟨_, rfl, ⟨A4, A5, A6, c4, c5, c6, rfl, own_base (own_far own1 g9 HY2.out) HB2.out.size, own_base (own_far own2 g9 HY2.out) HB2.out.size, own_base (own_far own3 g9 HY2.out) HB2.out.size⟩, hb.grown g9 hb.size (by intro j hj; have hj := Option.some.inj hj; have := HXY.out; have := HBX.out; omega)⟩
end Go.Proofs.YtkjomnakolhdcaaDoor
