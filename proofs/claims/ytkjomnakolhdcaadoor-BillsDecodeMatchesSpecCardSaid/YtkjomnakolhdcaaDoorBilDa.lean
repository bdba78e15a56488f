/- Layer 35's Decode: the program's account. Conditions: 1 to 16 tenants; the bytes lie before the reader's variable. -/
import Derived.Test.YtkjomnakolhdcaaDoorHeld2
import Derived.Test.YtkjomnakolhdcaaDoorBilDr
import Derived.Test.YtkjomnakolhdcaaDoorBilY
namespace Go.Proofs.YtkjomnakolhdcaaDoor
set_option linter.unusedVariables false
set_option linter.unusedSimpArgs false
open Go.RowKit
abbrev oDa0 : Oper := { dst := some 81, op := Op.fieldAddr 79 (Operand.tmp 7) 0, type := 0, pos := "bills.go:229", after := #[], guard := none }
abbrev oDa1 : Oper := { dst := some 82, op := Op.fieldAddr 31 (Operand.tmp 81) 5, type := 0, pos := "bills.go:229", after := #[{ on := 0, ground := Ground.data }], guard := none }
abbrev oDa2 : Oper := { dst := some 83, op := Op.load 29 (Operand.tmp 82), type := 29, pos := "bills.go:229", after := #[{ on := 1, ground := Ground.data }], guard := none }
abbrev oDa3 : Oper := { dst := some 84, op := Op.move (Operand.tmp 12), type := 3, pos := "bills.go:229", after := #[], guard := none }
abbrev oDa4 : Oper := { dst := some 85, op := Op.fieldAddr 79 (Operand.tmp 7) 0, type := 0, pos := "bills.go:229", after := #[], guard := none }
abbrev oDa5 : Oper := { dst := some 86, op := Op.fieldAddr 31 (Operand.tmp 85) 4, type := 0, pos := "bills.go:229", after := #[{ on := 4, ground := Ground.data }], guard := none }
abbrev oDa6 : Oper := { dst := some 87, op := Op.load 29 (Operand.tmp 86), type := 29, pos := "bills.go:229", after := #[{ on := 5, ground := Ground.data }], guard := none }
abbrev oDa7 : Oper := { dst := some 88, op := Op.move (Operand.tmp 11), type := 3, pos := "bills.go:229", after := #[], guard := none }
abbrev oDa8 : Oper := { dst := some 89, op := Op.indexAddr 29 (Operand.tmp 87) (Operand.tmp 88), type := 0, pos := "bills.go:229", after := #[{ on := 6, ground := Ground.data }, { on := 7, ground := Ground.data }], guard := none }
abbrev oDa9 : Oper := { dst := some 90, op := Op.load 3 (Operand.tmp 89), type := 3, pos := "bills.go:229", after := #[{ on := 8, ground := Ground.data }], guard := none }
abbrev oDa10 : Oper := { dst := some 91, op := Op.binOp BinOp.sub 3 (Operand.tmp 84) (Operand.tmp 90) 3, type := 3, pos := "bills.go:229", after := #[{ on := 3, ground := Ground.data }, { on := 9, ground := Ground.data }], guard := none }
abbrev oDa11 : Oper := { dst := some 92, op := Op.buildSlice 29 1 #[(0, Operand.tmp 91)], type := 29, pos := "bills.go:229", after := #[{ on := 10, ground := Ground.data }], guard := none }
abbrev oDa12 : Oper := { dst := some 93, op := Op.call { callee := Callee.builtin Builtin.append, args := #[Operand.tmp 83, Operand.tmp 92], argTypes := #[29, 29] }, type := 29, pos := "bills.go:229", after := #[{ on := 2, ground := Ground.data }, { on := 11, ground := Ground.data }], guard := none }
abbrev oDa13 : Oper := { dst := some 94, op := Op.fieldAddr 79 (Operand.tmp 7) 0, type := 0, pos := "bills.go:229", after := #[{ on := 0, ground := Ground.phase }, { on := 1, ground := Ground.phase }, { on := 2, ground := Ground.phase }, { on := 3, ground := Ground.phase }, { on := 4, ground := Ground.phase }, { on := 5, ground := Ground.phase }, { on := 6, ground := Ground.phase }, { on := 7, ground := Ground.phase }, { on := 8, ground := Ground.phase }, { on := 9, ground := Ground.phase }, { on := 10, ground := Ground.phase }, { on := 11, ground := Ground.phase }, { on := 12, ground := Ground.phase }], guard := none }
abbrev oDa14 : Oper := { dst := some 95, op := Op.fieldAddr 31 (Operand.tmp 94) 5, type := 0, pos := "bills.go:229", after := #[{ on := 13, ground := Ground.data }, { on := 0, ground := Ground.phase }, { on := 1, ground := Ground.phase }, { on := 2, ground := Ground.phase }, { on := 3, ground := Ground.phase }, { on := 4, ground := Ground.phase }, { on := 5, ground := Ground.phase }, { on := 6, ground := Ground.phase }, { on := 7, ground := Ground.phase }, { on := 8, ground := Ground.phase }, { on := 9, ground := Ground.phase }, { on := 10, ground := Ground.phase }, { on := 11, ground := Ground.phase }, { on := 12, ground := Ground.phase }], guard := none }
abbrev oDa15 : Oper := { dst := none, op := Op.store 29 (Operand.tmp 95) (Operand.tmp 93), type := 0, pos := "bills.go:229", after := #[{ on := 14, ground := Ground.data }, { on := 12, ground := Ground.data }, { on := 12, ground := Ground.chain }, { on := 0, ground := Ground.phase }, { on := 1, ground := Ground.phase }, { on := 2, ground := Ground.phase }, { on := 3, ground := Ground.phase }, { on := 4, ground := Ground.phase }, { on := 5, ground := Ground.phase }, { on := 6, ground := Ground.phase }, { on := 7, ground := Ground.phase }, { on := 8, ground := Ground.phase }, { on := 9, ground := Ground.phase }, { on := 10, ground := Ground.phase }, { on := 11, ground := Ground.phase }, { on := 12, ground := Ground.phase }], guard := none }
def Z7 : List Value := [.int .i64 0, .int .i64 0, .int .i64 0, .slice none 0 0, .slice none 0 0, .slice none 0 0, .slice none 0 0]
theorem infoAc : (Tryd.prog.info? 79).map (fun i => (i.zero, i.size)) = some (some (.agg Z7.toArray), Z7.length) := by kernel_rfl
theorem sizeAc : (Tryd.prog.info? 79).map (·.size) = some 7 := by kernel_rfl
/-- b6: the result's variable; b7: the account's -/
structure AcS (w W : World) (br b6 b7 : Nat) (b : List UInt8) (e : Int) (L : List Value) : Prop where
  k : Keep (fun q => q = br) w W
  r6 : IsRow W b6 79 Z7
  r7 : IsRow W b7 79 L
  st : PSt W br b e
  o : w.heap.size ≤ b6 ∧ b6 < b7 ∧ br < w.heap.size
section
variable {w W W' : World} {br b6 b7 : Nat} {b b' : List UInt8} {e e' : Int} {L : List Value}
theorem AcS.next (h : AcS w W br b6 b7 b e L) (hs : PSt W' br b' e') (hk : Keep (fun q => q = br) W W') : AcS w W' br b6 b7 b' e' L := by
  have ho := h.o
  exact ⟨h.k.trans hk, h.r6.keep (hk.block b6 h.r6.lt (by omega)), h.r7.keep (hk.block b7 h.r7.lt (by omega)), hs, ho⟩
theorem AcS.put (h : AcS w W br b6 b7 b e L) (j : Nat) (v : Value) : AcS w (W.setCell ⟨b7, j, none⟩ v) br b6 b7 b e (L.set j v) := by
  have ho := h.o
  have hk : Keep (fun q => q = b7) W (W.setCell ⟨b7, j, none⟩ v) := Keep.of_grown (grown_setCell _ _ _ _) fun k e => (Option.some.inj e).symm
  exact ⟨h.k.grown (grown_setCell W b7 j v) fun k e => .inr (by have := Option.some.inj e; omega), h.r6.keep (hk.block b6 h.r6.lt (by omega)), h.r7.set j v, h.st.keeps hk (fun q hq e => by omega), ho⟩
theorem AcS.size (h : AcS w W br b6 b7 b e L) : b7 < W.heap.size := h.r7.lt
/-- a row that was made since stands when the account's variable is written -/
theorem AcS.own (h : AcS w W br b6 b7 b e L) {base n : Nat} {t : TypeId} {v : Value} {xs : List Value} (ho : W.ownsRow base t 1 v n xs) (hb : b7 < base) (j : Nat) (u : Value) : (W.setCell ⟨b7, j, none⟩ u).ownsRow base t 1 v n xs := own_far ho (grown_setCell _ _ _ _) hb
end
theorem AcS.down {w W W' : World} {br b6 b7 : Nat} {b : List UInt8} {e : Int} {L : List Value} (h : AcS w W br b6 b7 b e L) (hb : Below W.heap.size W W') : AcS w W' br b6 b7 b e L :=
  ⟨h.k.then_below hb, h.r6.below' hb, h.r7.below' hb, h.st.below hb, h.o⟩
theorem own_fits {W : World} {base n c g : Nat} {l : List Int} (h : W.ownsRow base 3 1 (.slice (some ⟨g, 0, none⟩) n c) n (ivs l)) (hn : 0 < n) : base ≤ g ∧ FRow W g n (fun t => l.getD t 0) := by
  obtain ⟨g', hg, hb, hf⟩ := FRow.of_own h hn
  obtain rfl : g = g' := congrArg Addr.block (Option.some.inj hg)
  exact ⟨hb, hf⟩
/-- while the nets are appended -/
structure AcL (w W : World) (br b6 b7 : Nat) (b : List UInt8) (L : List Value) (gc gr gg n : Nat) (C R G : List Int) (base : Nat) (A : Option Addr) (c i : Nat) (N : List Int) : Prop where
  s : AcS w W br b6 b7 b 0 L
  fc : FRow W gc n (fun t => C.getD t 0)
  fr : FRow W gr n (fun t => R.getD t 0)
  fg : FRow W gg n (fun t => G.getD t 0)
  own : W.ownsRow base 3 1 (.slice A i c) i (ivs N)
  hb : b7 < gc ∧ gc < gr ∧ gr < gg ∧ gg < base
  hz : base ≤ W.heap.size
section
variable {w W W' : World} {br b6 b7 gc gr gg n base c i : Nat} {b : List UInt8} {L : List Value} {C R G N : List Int} {A : Option Addr}
theorem AcL.below (h : AcL w W br b6 b7 b L gc gr gg n C R G base A c i N) (hb : Below W.heap.size W W') : AcL w W' br b6 b7 b L gc gr gg n C R G base A c i N :=
  ⟨h.s.down hb, h.fc.below hb, h.fr.below hb, h.fg.below hb, own_below h.own hb, h.hb, Nat.le_trans h.hz hb.size⟩
theorem AcL.app (h : AcL w W br b6 b7 b L gc gr gg n C R G base A c i N) {A' : Option Addr} {c' i' : Nat} {N' : List Int} (own : W'.ownsRow base 3 1 (.slice A' i' c') i' (ivs N')) (gr_ : W.grownBy W' (Value.slice A i c).ownBlock) : AcL w W' br b6 b7 b L gc gr gg n C R G base A' c' i' N' := by
  have ho := h.hb
  have hk : Keep (fun q => base ≤ q) W W' := Keep.of_grown gr_ fun k e => (h.own.lt k e).1
  have hs := h.s.o
  refine ⟨⟨h.s.k.grown gr_ fun k e => .inr (by have := (h.own.lt k e).1; omega), h.s.r6.keep (hk.block b6 h.s.r6.lt (by omega)), h.s.r7.keep (hk.block b7 h.s.r7.lt (by omega)), h.s.st.keeps hk (fun q hq e => by omega), hs⟩, h.fc.keeps hk (by omega), h.fr.keeps hk (by omega), h.fg.keeps hk (by omega), own, ho, Nat.le_trans h.hz hk.size⟩
theorem AcL.put (h : AcL w W br b6 b7 b L gc gr gg n C R G base A c i N) (j : Nat) (v : Value) : AcL w (W.setCell ⟨b7, j, none⟩ v) br b6 b7 b (L.set j v) gc gr gg n C R G base A c i N := by
  have ho := h.hb
  have hk : Keep (fun q => q = b7) W (W.setCell ⟨b7, j, none⟩ v) := Keep.of_grown (grown_setCell _ _ _ _) fun k e => (Option.some.inj e).symm
  exact ⟨h.s.put j v, h.fc.keeps hk (by omega), h.fr.keeps hk (by omega), h.fg.keeps hk (by omega), own_far h.own (grown_setCell _ _ _ _) (by omega), ho, Nat.le_trans h.hz hk.size⟩
theorem AcL.next (h : AcL w W br b6 b7 b L gc gr gg n C R G base A c i N) {b' : List UInt8} {e' : Int} (hs : PSt W' br b' e') (hk : Keep (fun q => q = br) W W') : AcS w W' br b6 b7 b' e' L ∧ FRow W' gc n (fun t => C.getD t 0) ∧ FRow W' gr n (fun t => R.getD t 0) ∧ FRow W' gg n (fun t => G.getD t 0) ∧ W'.ownsRow base 3 1 (.slice A i c) i (ivs N) := by
  have ho := h.hb
  have hq := h.s.o
  exact ⟨h.s.next hs hk, h.fc.keeps hk (by omega), h.fr.keeps hk (by omega), h.fg.keeps hk (by omega), own_keepD h.own hk (fun q e => by omega)⟩
end
theorem netL_get {C R : List Int} {i : Nat} (h : C.length = R.length) (hi : i < C.length) : (Bil.netL C R).getD i 0 = C.getD i 0 - R.getD i 0 := by
  unfold Bil.netL
  simp [List.getD, List.getElem?_zipWith, List.getElem?_eq_getElem hi, List.getElem?_eq_getElem (show i < R.length by omega)]
/-- what account gives -/
def AcRes (w : World) (br : Nat) (n : Nat) (R : Bil.Acc × List UInt8 × Int) (r : Ending) (w' : World) : Prop :=
  PSt w' br R.2.1 R.2.2 ∧ Keep (fun q => q = br) w w' ∧ ((R.2.2 ≠ 0 ∧ ∃ L : List Value, L.length = 7 ∧ L.all (·.oneCell') = true ∧ r = .returned (.agg L.toArray)) ∨
    (R.2.2 = 0 ∧ ∃ gc cc gr cr gt ct gg cg, r = .returned (.agg #[.int .i64 R.1.bill.period, .int .i64 R.1.bill.media, .int .i64 R.1.bill.house, .slice (some ⟨gc, 0, none⟩) n cc, .slice (some ⟨gr, 0, none⟩) n cr, .slice (some ⟨gt, 0, none⟩) n ct, .slice (some ⟨gg, 0, none⟩) n cg]) ∧
      FRow w' gc n (fun t => R.1.bill.charges.getD t 0) ∧ FRow w' gr n (fun t => R.1.bill.credits.getD t 0) ∧ FRow w' gt n (fun t => R.1.bill.nets.getD t 0) ∧ FRow w' gg n (fun t => R.1.granted.getD t 0) ∧ w.heap.size ≤ gc ∧ gc < gr ∧ gr < gg ∧ gg < gt))
set_option maxHeartbeats 800000 in
theorem plist_err (br : Nat) (b : List UInt8) (e n : Int) (he : e ≠ 0) (f : Value) (w : World) (h : PSt w br b e) : Calls Tryd.prog 62 #[.pointer (some ⟨br, 0, none⟩), .int .i64 n, f] w fun r w' => r = .returned (.slice none 0 0) ∧ w' = w := by
  have n1 : (e != 0) = true := by rw [bne_iff_ne]; exact he
  have c1 : w.cell? ⟨br, 1, none⟩ = some (.int .i64 e) := h.cell1
  clear h he
  go_enter Tryd.func62, Tryd.ntmps62
  go_wp2_with fail
  go_ret
  exact ⟨rfl, rfl⟩
set_option maxRecDepth 100000 in
set_option maxHeartbeats 3200000 in
theorem paccount_any (br : Nat) (b : List UInt8) (p : Int) (n : Nat) (hn1 : 1 ≤ n) (hn2 : n ≤ 16) (w : World) (h : PSt w br b 0) :
    Calls Tryd.prog 63 #[.pointer (some ⟨br, 0, none⟩), .int .i64 p, .int .i64 (n : Int)] w (AcRes w br n (Bil.acct b p n)) := by
  obtain ⟨m, b1, e1, h1⟩ : ∃ m b1 e1, Bil.num b 0 0 Bil.MX = (m, b1, e1) := ⟨_, _, _, rfl⟩
  obtain ⟨hh, b2, e2, h2⟩ : ∃ z b1' e1', Bil.num b1 e1 0 m = (z, b1', e1') := ⟨_, _, _, rfl⟩
  obtain ⟨C, b3, e3, h3⟩ : ∃ z b1' e1', (Bil.lst b2 e2 n fun _ => Bil.MX) = (z, b1', e1') := ⟨_, _, _, rfl⟩
  obtain ⟨R, b4, e4, h4⟩ : ∃ z b1' e1', (Bil.lst b3 e3 n fun i => C.getD i 0) = (z, b1', e1') := ⟨_, _, _, rfl⟩
  obtain ⟨G, b5, e5, h5⟩ : ∃ z b1' e1', (Bil.lst b4 e4 n fun i => C.getD i 0) = (z, b1', e1') := ⟨_, _, _, rfl⟩
  have hac : Bil.acct b p n = if e5 = 0 then (if R.sum ≤ hh ∧ hh + (Bil.netL C R).sum = m then (⟨⟨p, m, hh, C, R, Bil.netL C R⟩, G⟩, b5, 0) else (Bil.zacc, b5, 6)) else (Bil.zacc, b5, e5) := by
    unfold Bil.acct
    simp only [h1, h2, h3, h4, h5]
  have HAC := Lib.hid hac
  have H5 := Lib.hid (fun (hz : e5 = 0) => by
    have q5 := Bil.lst_ok (b := b4) (e := e4) (n := n) (mx := fun i => C.getD i 0) (by rw [h5]; exact hz)
    have q4 := Bil.lst_ok (b := b3) (e := e3) (n := n) (mx := fun i => C.getD i 0) (by rw [h4]; exact q5.1)
    have q3 := Bil.lst_ok (b := b2) (e := e2) (n := n) (mx := fun _ => Bil.MX) (by rw [h3]; exact q4.1)
    have q2 := Bil.num_ok (b := b1) (e := e1) (lo := 0) (hi := m) (by rw [h2]; exact q3.1)
    have q1 := Bil.num_ok (b := b) (e := 0) (lo := 0) (hi := Bil.MX) (by rw [h1]; exact q2.1)
    rw [h5] at q5
    rw [h4] at q4
    rw [h3] at q3
    rw [h2] at q2
    rw [h1] at q1
    exact (And.intro q5.2.1 (And.intro q4.2.1 (And.intro q3.2.1 (And.intro q4.2.2.1 (And.intro q3.2.2.1 (And.intro (And.intro q2.2.1 q2.2.2.1) (And.intro q1.2.1 q1.2.2.1)))))) : G.length = n ∧ R.length = n ∧ C.length = n ∧ (∀ i, i < n → 0 ≤ R.getD i 0 ∧ R.getD i 0 ≤ C.getD i 0) ∧ (∀ i, i < n → 0 ≤ C.getD i 0 ∧ C.getD i 0 ≤ Bil.MX) ∧ (0 ≤ hh ∧ hh ≤ m) ∧ 0 ≤ m ∧ m ≤ Bil.MX))
  have HE4 : Hid (e4 = 0 → C.length = n) := Lib.hid (fun hz => by
    have q4 := Bil.lst_ok (b := b3) (e := e3) (n := n) (mx := fun i => C.getD i 0) (by rw [h4]; exact hz)
    have q3 := Bil.lst_ok (b := b2) (e := e2) (n := n) (mx := fun _ => Bil.MX) (by rw [h3]; exact q4.1)
    rw [h3] at q3
    exact q3.2.1)
  have HE3 : Hid (e3 = 0 → C.length = n) := Lib.hid (fun hz => by
    have q3 := Bil.lst_ok (b := b2) (e := e2) (n := n) (mx := fun _ => Bil.MX) (by rw [h3]; exact hz)
    rw [h3] at q3
    exact q3.2.1)
  have HT1 : Hid (∀ W, PSt W br b 0 → Calls Tryd.prog 59 #[.pointer (some ⟨br, 0, none⟩), .int .i64 0, .int .i64 1099511627776] W fun r w' => r = .returned (.int .i64 m) ∧ PSt w' br b1 e1 ∧ Keep (fun q => q = br) W w') := Lib.hid (fun W hst => by have := pnumber_any br b 0 0 1099511627776 W hst; rw [show Bil.num b 0 0 1099511627776 = (m, b1, e1) from h1] at this; exact this)
  have HT2 : Hid (∀ W, PSt W br b1 e1 → Calls Tryd.prog 59 #[.pointer (some ⟨br, 0, none⟩), .int .i64 0, .int .i64 m] W fun r w' => r = .returned (.int .i64 hh) ∧ PSt w' br b2 e2 ∧ Keep (fun q => q = br) W w') := Lib.hid (fun W hst => by have := pnumber_any br b1 e1 0 m W hst; rw [h2] at this; exact this)
  have HT3 := Lib.hid (fun W (hst : PSt W br b2 e2) => by have := plist_media br b2 e2 n W hst; rw [h3] at this; exact this)
  have HT4 := Lib.hid (fun W (hst : PSt W br b3 e3) b7 gc cc (q1 : C.length = n) q2 q3 => by have := plist_charged br b3 e3 n b7 gc cc C W hst q1 q2 q3; rw [h4] at this; exact this)
  have HT5 := Lib.hid (fun W (hst : PSt W br b4 e4) b7 gc cc (q1 : C.length = n) q2 q3 => by have := plist_charged br b4 e4 n b7 gc cc C W hst q1 q2 q3; rw [h5] at this; exact this)
  have HE := Lib.hid (And.intro h1 (And.intro h2 (And.intro h3 (And.intro h4 h5))))
  have HST := Lib.hid (And.intro h h.lt)
  have HN := Lib.hid (And.intro hn1 hn2)
  clear h1 h2 h3 h4 h5 hac h hn1 hn2
  go_enter Tryd.func63, Tryd.ntmps63
  go_upto_region 1 with (refine wpList_allocRow rfl _ rfl _ infoAc ?_; intro w0 r6 b0 z0)
  obtain ⟨b6, hb6⟩ : ∃ x, w.heap.size = x := ⟨_, rfl⟩
  rw [hb6] at r6 ⊢
  have HS0 : Hid (PSt w0 br b 0 ∧ IsRow w0 b6 79 Z7 ∧ Below w.heap.size w w0 ∧ w.heap.size = b6 ∧ br < b6) := Lib.hid ⟨HST.out.1.below b0, r6, b0, hb6, by have := HST.out.2; omega⟩
  clear r6 b0 z0 hb6
  go_upto_region 2 with (first
    | (have hgd := r7; refine wpList_storeRow rfl _ (.tmp 7) (.tmp 17) rfl (l' := [.int .i64 p, .int .i64 m, .int .i64 0, .slice none 0 0, .slice none 0 0, .slice none 0 0, .slice none 0 0]) r7 rfl rfl sizeAc rfl rfl ?_; intro w3 r3 g3 z3)
    | (go_at_call 59; refine (HT1.out w0 HS0.out.1).mono ?_; rintro r w1 ⟨rfl, s1, k1⟩; have HS1 := Lib.hid (And.intro s1 k1); clear s1 k1)
    | (refine wpList_allocRow rfl _ rfl _ infoAc ?_; intro w2 r7 b2_ z2))
  obtain ⟨b7, hb7⟩ : ∃ x, w1.heap.size = x := ⟨_, rfl⟩
  have HA3 : Hid (AcS w w3 br b6 b7 b1 e1 [.int .i64 p, .int .i64 m, .int .i64 0, .slice none 0 0, .slice none 0 0, .slice none 0 0, .slice none 0 0]) := Lib.hid (by
    have ho := HS0.out.2.2.2
    have hk1 := HS1.out.2
    have hz1 := hk1.size
    have hz0 := HS0.out.2.2.1.size
    have hl6 := HS0.out.2.1.lt
    have r61 := HS0.out.2.1.keep (hk1.block b6 hl6 (by omega))
    have r62 := r61.below' b2_
    have k03 : Keep (fun q => q = br) w w3 := (((Keep.of_below HS0.out.2.2.1).trans hk1).then_below b2_).grown g3 fun k e => .inr (by have := Option.some.inj e; omega)
    refine ⟨k03, r62.grown g3 (fun e => by have := Option.some.inj e; omega), hb7 ▸ r3, (HS1.out.1.below b2_).keeps (Keep.of_grown g3 (S := fun q => q = b7) fun k e => by have := Option.some.inj e; omega) (fun q hq e => by omega), by omega, by omega, HST.out.2⟩)
  rw [hb7]
  clear r7 b2_ z2 r3 g3 z3 hb7 HS0 HS1 HT1
  have q1 : w3.cell? ⟨b7, 1, none⟩ = some (.int .i64 m) := HA3.out.r7.cell 1
  go_upto_region 3 with (go_at_call 59; refine (HT2.out w3 HA3.out.st).mono ?_; rintro r w4 ⟨rfl, s1, k1⟩; have HA4 := Lib.hid (HA3.out.next s1 k1); have q2 : w4.cell? ⟨b7, 2, none⟩ = some (.int .i64 0) := HA4.out.r7.cell 2; have f2 : w4.frozen? ⟨b7, 2, none⟩ = false := HA4.out.r7.frozen 2; clear s1 k1)
  obtain ⟨w5, hw5⟩ : ∃ x, w4.setCell ⟨b7, 2, none⟩ (.int .i64 hh) = x := ⟨_, rfl⟩
  have HA5 := Lib.hid (HA4.out.put 2 (.int .i64 hh))
  rw [hw5] at HA5 ⊢
  clear hw5 q1 q2 f2 HT2 HA3 HA4
  go_upto_region 4 with (go_at_call 62; refine (HT3.out w5 HA5.out.st).mono ?_; rintro r w6 ⟨A3, c3, rfl, own3, s1, k1⟩; have HA6 := Lib.hid (HA5.out.next s1 k1); have HK6 := Lib.hid k1.size; have HO3 := Lib.hid own3; have q2 : w6.cell? ⟨b7, 3, none⟩ = some (.slice none 0 0) := HA6.out.r7.cell 3; have f2 : w6.frozen? ⟨b7, 3, none⟩ = false := HA6.out.r7.frozen 3; clear s1 k1 own3)
  obtain ⟨w7, hw7⟩ : ∃ x, w6.setCell ⟨b7, 3, none⟩ (.slice A3 C.length c3) = x := ⟨_, rfl⟩
  have HA7 := Lib.hid (HA6.out.put 3 (.slice A3 C.length c3))
  have HO3 := Lib.hid (HA6.out.own HO3.out HA5.out.size 3 (.slice A3 C.length c3))
  have HZ5 : Hid (b7 < w5.heap.size ∧ w5.heap.size ≤ w7.heap.size) := Lib.hid ⟨HA5.out.size, by have := HA6.out.k.size; have := (grown_setCell w6 b7 3 (.slice A3 C.length c3)).size; rw [hw7] at this; have := HK6.out; omega⟩
  rw [hw7] at HA7 HO3 ⊢
  clear hw7 q2 f2 HT3 HA5 HA6
  obtain ⟨gc, hgc⟩ : ∃ gc, e3 = 0 → A3 = some ⟨gc, 0, none⟩ := by
    by_cases hz : e3 = 0
    · obtain ⟨g, hg, _⟩ := FRow.of_own HO3.out (by rw [HE3.out hz]; exact HN.out.1)
      exact ⟨g, fun _ => hg⟩
    · exact ⟨0, fun h => absurd h hz⟩
  have HG3 : Hid (e3 = 0 → A3 = some ⟨gc, 0, none⟩ ∧ C.length = n ∧ gc < w7.heap.size ∧ w5.heap.size ≤ gc ∧ FRow w7 gc n (fun t => C.getD t 0)) := Lib.hid fun hz => by
    have hA := hgc hz
    have hl := HE3.out hz
    have ho := HO3.out
    rw [hA, hl] at ho
    obtain ⟨h1, h2⟩ := own_fits ho HN.out.1
    exact ⟨hA, hl, h2.lt, h1, h2⟩
  clear hgc
  by_cases hz3 : e3 = 0
  case neg =>
    -- an error so far: nothing more is read
    have HZ3 := Lib.hid hz3
    have h4z : b4 = b3 ∧ e4 = e3 ∧ R = [] := by
      have := HE.out.2.2.2.1
      unfold Bil.lst at this
      rw [if_neg hz3] at this
      obtain ⟨q1, q2, q3⟩ : [] = R ∧ b3 = b4 ∧ e3 = e4 := by simpa using this
      exact ⟨q2.symm, q3.symm, q1.symm⟩
    have h5z : b5 = b3 ∧ e5 = e3 ∧ G = [] := by
      have := HE.out.2.2.2.2
      unfold Bil.lst at this
      rw [h4z.2.1, if_neg hz3, h4z.1] at this
      obtain ⟨q1, q2, q3⟩ : [] = G ∧ b3 = b5 ∧ e3 = e5 := by simpa using this
      exact ⟨q2.symm, q3.symm, q1.symm⟩
    have HQ : Hid (Bil.acct b p n = (Bil.zacc, b3, e3)) := Lib.hid (by rw [HAC.out, h5z.2.1, h5z.1, if_neg hz3])
    obtain ⟨rfl, rfl, rfl⟩ := h4z
    obtain ⟨rfl, rfl, rfl⟩ := h5z
    have HPL : Hid (∀ W, PSt W br b5 e5 → Calls Tryd.prog 62 #[.pointer (some ⟨br, 0, none⟩), .int .i64 (n : Int), .func (.func 85) #[] #[.pointer (some ⟨b7, 0, none⟩)]] W fun r w' => r = .returned (.slice none 0 0) ∧ w' = W) := Lib.hid (plist_err br b5 e5 n hz3 _)
    have q1 : w7.cell? ⟨b7, 4, none⟩ = some (.slice none 0 0) := HA7.out.r7.cell 4
    have f1 : w7.frozen? ⟨b7, 4, none⟩ = false := HA7.out.r7.frozen 4
    have hne : (e5 != 0) = true := by rw [bne_iff_ne]; exact hz3
    clear hz3 HT4 HT5 HE HAC H5 HE3 HE4 HG3
    go_upto_region 6 with (go_at_call 62; refine (HPL.out w7 HA7.out.st).mono ?_; rintro r w8 ⟨rfl, hw8⟩; rw [hw8]; clear hw8 w8)
    obtain ⟨w9, hw9⟩ : ∃ x, w7.setCell ⟨b7, 4, none⟩ (.slice none 0 0) = x := ⟨_, rfl⟩
    have HA9 := Lib.hid (HA7.out.put 4 (.slice none 0 0))
    rw [hw9] at HA9 ⊢
    have q1 : w9.cell? ⟨b7, 6, none⟩ = some (.slice none 0 0) := HA9.out.r7.cell 6
    have f1 : w9.frozen? ⟨b7, 6, none⟩ = false := HA9.out.r7.frozen 6
    clear hw9
    go_upto_region 7 with (go_at_call 62; refine (HPL.out w9 HA9.out.st).mono ?_; rintro r w8 ⟨rfl, hw8⟩; rw [hw8]; clear hw8 w8)
    obtain ⟨w11, hw11⟩ : ∃ x, w9.setCell ⟨b7, 6, none⟩ (.slice none 0 0) = x := ⟨_, rfl⟩
    have HA11 := Lib.hid (HA9.out.put 6 (.slice none 0 0))
    rw [hw11] at HA11 ⊢
    have q1 : w11.cell? ⟨br, 1, none⟩ = some (.int .i64 e5) := HA11.out.st.cell1
    have r6 := HA11.out.r6
    clear hw11
    go_wp2_with (refine wpList_storeRow rfl _ (.tmp 6) (.tmp 47) rfl (l' := Z7) r6 rfl rfl sizeAc rfl rfl ?_; intro w12 r12 g12 z12)
    have ho := HA11.out.o
    refine bodyPost_ret (resultRowS rfl _ _ r12 rfl Tryd.underlying79 sizeAc) rfl ?_
    rw [HQ.out]
    exact ⟨HA11.out.st.keeps (Keep.of_grown g12 (S := fun q => q = b6) fun k e => (Option.some.inj e).symm) (fun q hq e => by omega), HA11.out.k.grown g12 (fun k e => .inr (by have := Option.some.inj e; omega)), .inl ⟨HZ3.out, Z7, rfl, rfl, rfl⟩⟩
  case pos =>
  subst hz3
  obtain ⟨rfl, hCn, hgc, hgc5, hfc⟩ := HG3.out rfl
  have HC := Lib.hid (And.intro hCn (And.intro hgc (And.intro hgc5 hfc)))
  rw [hCn] at HA7
  try rw [hCn]
  clear hCn hgc hgc5 hfc HG3 HE3 HO3
  have q1 : w7.cell? ⟨b7, 4, none⟩ = some (.slice none 0 0) := HA7.out.r7.cell 4
  have f1 : w7.frozen? ⟨b7, 4, none⟩ = false := HA7.out.r7.frozen 4
  go_upto_region 6 with (go_at_call 62; refine (HT4.out w7 HA7.out.st b7 gc c3 HC.out.1 (fun _ => ⟨HA7.out.r7.cell 3, HA7.out.size, HC.out.2.1⟩) (fun _ i hi => HC.out.2.2.2.cell i hi)).mono ?_; rintro r w8 ⟨A4, c4, rfl, own4, s1, k1⟩; have HA8 := Lib.hid (HA7.out.next s1 k1); have HO4 := Lib.hid own4; have HS4 := Lib.hid (fun a (ha : A4 = some a) => (own4.lt a.block (by rw [ha]; rfl)).2); have HF8 := Lib.hid (HC.out.2.2.2.keeps k1 (show ¬ gc = br by have := HA7.out.o; have := HZ5.out; have := HC.out.2.2.1; omega)); have q2 : w8.cell? ⟨b7, 4, none⟩ = some (.slice none 0 0) := HA8.out.r7.cell 4; have f2 : w8.frozen? ⟨b7, 4, none⟩ = false := HA8.out.r7.frozen 4; clear s1 k1 own4)
  obtain ⟨w9, hw9⟩ : ∃ x, w8.setCell ⟨b7, 4, none⟩ (.slice A4 R.length c4) = x := ⟨_, rfl⟩
  have HA9 := Lib.hid (HA8.out.put 4 (.slice A4 R.length c4))
  have HO4 := Lib.hid (HA8.out.own HO4.out HA7.out.size 4 (.slice A4 R.length c4))
  have HS49 : Hid (w8.heap.size ≤ w9.heap.size) := Lib.hid (by have := (grown_setCell w8 b7 4 (.slice A4 R.length c4)).size; rwa [hw9] at this)
  have HF9 : Hid (FRow (w8.setCell ⟨b7, 4, none⟩ (.slice A4 R.length c4)) gc n (fun t => C.getD t 0)) := Lib.hid (HF8.out.keeps (Keep.of_grown (grown_setCell _ _ _ _) (S := fun q => q = b7) fun k e => (Option.some.inj e).symm) (by have := HZ5.out; have := HC.out.2.2.1; omega))
  rw [hw9] at HA9 HO4 HF9 ⊢
  clear hw9 q1 f1 q2 f2 HT4 HA8 HF8
  have q1 : w9.cell? ⟨b7, 6, none⟩ = some (.slice none 0 0) := HA9.out.r7.cell 6
  have f1 : w9.frozen? ⟨b7, 6, none⟩ = false := HA9.out.r7.frozen 6
  go_upto_region 7 with (go_at_call 62; refine (HT5.out w9 HA9.out.st b7 gc c3 HC.out.1 (fun _ => ⟨HA9.out.r7.cell 3, HA9.out.size, HF9.out.lt⟩) (fun _ i hi => HF9.out.cell i hi)).mono ?_; rintro r w10 ⟨A5, c5, rfl, own5, s1, k1⟩; have HA10 := Lib.hid (HA9.out.next s1 k1); have HO5 := Lib.hid own5; have HF10 := Lib.hid (HF9.out.keeps k1 (show ¬ gc = br by have := HA9.out.o; have := HZ5.out; have := HC.out.2.2.1; omega)); have HO4 := Lib.hid (own_keepD HO4.out k1 (fun q e => by have := HA7.out.o; have := HA7.out.size; omega)); have q2 : w10.cell? ⟨b7, 6, none⟩ = some (.slice none 0 0) := HA10.out.r7.cell 6; have f2 : w10.frozen? ⟨b7, 6, none⟩ = false := HA10.out.r7.frozen 6; clear s1 k1 own5)
  obtain ⟨w11, hw11⟩ : ∃ x, w10.setCell ⟨b7, 6, none⟩ (.slice A5 G.length c5) = x := ⟨_, rfl⟩
  have HA11 := Lib.hid (HA10.out.put 6 (.slice A5 G.length c5))
  have HO5 := Lib.hid (HA10.out.own HO5.out HA9.out.size 6 (.slice A5 G.length c5))
  have HO4 := Lib.hid (HA10.out.own HO4.out HA7.out.size 6 (.slice A5 G.length c5))
  have HF11 : Hid (FRow (w10.setCell ⟨b7, 6, none⟩ (.slice A5 G.length c5)) gc n (fun t => C.getD t 0)) := Lib.hid (HF10.out.keeps (Keep.of_grown (grown_setCell _ _ _ _) (S := fun q => q = b7) fun k e => (Option.some.inj e).symm) (by have := HZ5.out; have := HC.out.2.2.1; omega))
  rw [hw11] at HA11 HO4 HO5 HF11 ⊢
  clear hw11 q1 f1 q2 f2 HT5 HA10 HF10 HF9
  have qe : w11.cell? ⟨br, 1, none⟩ = some (.int .i64 e5) := HA11.out.st.cell1
  by_cases hz5 : e5 = 0
  case neg =>
    have HZ5' := Lib.hid hz5
    have HQ : Hid (Bil.acct b p n = (Bil.zacc, b5, e5)) := Lib.hid (by rw [HAC.out, if_neg hz5])
    have hne : (e5 != 0) = true := by rw [bne_iff_ne]; exact hz5
    have r6 := HA11.out.r6
    clear hz5
    go_wp2_with (refine wpList_storeRow rfl _ (.tmp 6) (.tmp 47) rfl (l' := Z7) r6 rfl rfl sizeAc rfl rfl ?_; intro w12 r12 g12 z12)
    have ho := HA11.out.o
    refine bodyPost_ret (resultRowS rfl _ _ r12 rfl Tryd.underlying79 sizeAc) rfl ?_
    rw [HQ.out]
    exact ⟨HA11.out.st.keeps (Keep.of_grown g12 (S := fun q => q = b6) fun k e => (Option.some.inj e).symm) (fun q hq e => by omega), HA11.out.k.grown g12 (fun k e => .inr (by have := Option.some.inj e; omega)), .inl ⟨HZ5'.out, Z7, rfl, rfl, rfl⟩⟩
  case pos =>
  subst hz5
  obtain ⟨hGn, hRn, hCn, hRb, hCb, hhb, hmb⟩ := H5.out rfl
  have ho4 := HO4.out
  have ho5 := HO5.out
  rw [hRn] at ho4
  rw [hGn] at ho5
  have hn1 := HN.out.1
  obtain ⟨gr, rfl, hgr, hfr⟩ := FRow.of_own ho4 hn1
  obtain ⟨gg, rfl, hgg, hfg⟩ := FRow.of_own ho5 hn1
  have hgr9 : gr < w9.heap.size := Nat.lt_of_lt_of_le (HS4.out _ rfl) HS49.out
  have hA := HA11.out
  rw [hRn, hGn] at hA
  try rw [hRn, hGn]
  have hz11 := hA.size
  have hb7 := HZ5.out
  have hcw := HC.out.2
  have hL0 : AcL w w11 br b6 b7 b5 [.int .i64 p, .int .i64 m, .int .i64 hh, .slice (some ⟨gc, 0, none⟩) n c3, .slice (some ⟨gr, 0, none⟩) n c4, .slice none 0 0, .slice (some ⟨gg, 0, none⟩) n c5] gc gr gg n C R G w11.heap.size none 0 0 [] :=
    ⟨hA, HF11.out, hfr, hfg, World.ownsRow_nil _ _ _ _, ⟨by omega, by omega, by omega, hfg.lt⟩, Nat.le_refl _⟩
  have HL0 := Lib.hid hL0
  have HLEN := Lib.hid (And.intro hCn (And.intro hRn hGn))
  have HBD := Lib.hid (And.intro hRb (And.intro hCb (And.intro hhb hmb)))
  have HGC : Hid (w.heap.size ≤ gc) := Lib.hid (by have := hA.o; omega)
  obtain ⟨base, hbase⟩ : ∃ x, w11.heap.size = x := ⟨_, rfl⟩
  rw [hbase] at HL0
  have hSR : ∀ i, i ≤ n → 0 ≤ sumK R i ∧ sumK R i ≤ 1099511627776 * i := fun i hi => sumK_bound R i (by omega) (fun j hj => by have h1 := hRb j (by omega); have h2 := hCb j (by omega); unfold Bil.MX at h2; unfold Bil.fits; rw [decide_eq_true_iff]; omega)
  obtain ⟨N, hN⟩ : ∃ N, Bil.netL C R = N := ⟨_, rfl⟩
  have hNl : N.length = n := by rw [← hN]; unfold Bil.netL; rw [List.length_zipWith, hCn, hRn, Nat.min_self]
  have hNg : ∀ i, i < n → N.getD i 0 = C.getD i 0 - R.getD i 0 := fun i hi => by rw [← hN]; exact netL_get (by rw [hCn, hRn]) (by rw [hCn]; exact hi)
  have hSN : ∀ i, i ≤ n → 0 ≤ sumK N i ∧ sumK N i ≤ 1099511627776 * i := fun i hi => sumK_bound N i (by omega) (fun j hj => by have h1 := hRb j (by omega); have h2 := hCb j (by omega); have h3 := hNg j (by omega); unfold Bil.MX at h2; unfold Bil.fits; rw [decide_eq_true_iff]; omega)
  have HSU := Lib.hid (And.intro hSR (And.intro hSN (And.intro hNl hNg)))
  have hmx : hh ≤ 1099511627776 ∧ 0 ≤ hh := by unfold Bil.MX at hmb; omega
  have HMX := Lib.hid hmx
  rw [hN] at HAC
  have HNN := Lib.hid hN
  clear hgr9 hA hz11 hb7 hcw hL0 hCn hRn hGn hRb hCb hhb hmb hbase hSR hSN hN hNl hNg hmx ho4 ho5 hgr hfr hgg hfg HO4 HO5 HS4 HS49 HF11 HC HA7 HA9 HA11 HE H5 HE4 hn1 HK6 HZ5
  have q2 : w11.cell? ⟨b7, 2, none⟩ = some (.int .i64 hh) := HL0.out.s.r7.cell 2
  have q3 : w11.cell? ⟨b7, 3, none⟩ = some (.slice (some ⟨gc, 0, none⟩) n c3) := HL0.out.s.r7.cell 3
  go_upto_region 9 with fail
  go_wp2_with fail
  go_quiet (fail)
  go_upto_region 11 with fail
  clear qe q2 q3
  go_wp2_with fail
  go_loopw [9, 10, 58] (fun u9 u10 u58 wr => ∃ (i : Nat) (A5 : Option Addr) (c6 : Nat), i ≤ n ∧ u58 = .int .i64 (i : Int) ∧ u9 = .int .i64 (hh - sumK R i) ∧ u10 = .int .i64 (hh + sumK N i) ∧ Hid (AcL w wr br b6 b7 b5 [.int .i64 p, .int .i64 m, .int .i64 hh, .slice (some ⟨gc, 0, none⟩) n c3, .slice (some ⟨gr, 0, none⟩) n c4, .slice A5 i c6, .slice (some ⟨gg, 0, none⟩) n c5] gc gr gg n C R G base A5 c6 i (N.take i))) (fun _ _ u58 _ => n - (intOf u58).toNat)
  case atStart => exact ⟨0, none, 0, Nat.zero_le _, rfl, by simp [sumK], by simp [sumK], Lib.hid (HL0.out.below (below_of_drewN _ _ _))⟩
  case round =>
    clear HL0
    obtain ⟨i, A5, c6, hi, rfl, rfl, rfl, HAL⟩ := hrel
    have hn16 := HN.out.2
    have hmx := HMX.out
    have sr := HSU.out.1 i hi
    have sn := HSU.out.2.1 i hi
    obtain ⟨rs, hrs⟩ : ∃ x, hh - sumK R i = x := ⟨_, rfl⟩
    obtain ⟨ms, hms⟩ : ∃ x, hh + sumK N i = x := ⟨_, rfl⟩
    rw [hrs, hms]
    by_cases hlt : i < n
    · obtain ⟨x, hx⟩ : ∃ x, C.getD i 0 = x := ⟨_, rfl⟩
      obtain ⟨y, hy⟩ : ∃ x, R.getD i 0 = x := ⟨_, rfl⟩
      have hb1 := HBD.out.1 i hlt
      have hb2 := HBD.out.2.1 i hlt
      have hng := HSU.out.2.2.2 i hlt
      have hst := sumK_step R i (by rw [HLEN.out.2.1]; exact hlt)
      have hsn := sumK_step N i (by rw [HSU.out.2.2.1]; exact hlt)
      have ccx : wr.cell? ⟨gc, i, none⟩ = some (.int .i64 x) := (HAL.out.fc.cell i hlt).trans (by rw [hx])
      have ccy : wr.cell? ⟨gr, i, none⟩ = some (.int .i64 y) := (HAL.out.fr.cell i hlt).trans (by rw [hy])
      have cc4 : wr.cell? ⟨b7, 4, none⟩ = some (.slice (some ⟨gr, 0, none⟩) n c4) := HAL.out.s.r7.cell 4
      rw [hx, hy] at hng hb1
      rw [hx] at hb2
      rw [hy] at hst
      rw [hng] at hsn
      unfold Bil.MX at hb2
      obtain ⟨d, hd⟩ : ∃ d, x - y = d := ⟨_, rfl⟩
      obtain ⟨rs', hrs'⟩ : ∃ z, rs - y = z := ⟨_, rfl⟩
      obtain ⟨ms', hms'⟩ : ∃ z, ms + d = z := ⟨_, rfl⟩
      have m1 : IntKind.i64.wrap (rs - y) = rs' := by rw [hrs']; exact IntWalk.i64_in _ (by omega)
      have m2 : IntKind.i64.wrap (x - y) = d := by rw [hd]; exact IntWalk.i64_in _ (by omega)
      have m3 : IntKind.i64.wrap (ms + d) = ms' := by rw [hms']; exact IntWalk.i64_in _ (by omega)
      have HR' : Hid (rs' = hh - sumK R (i + 1) ∧ ms' = hh + sumK N (i + 1)) := Lib.hid ⟨by omega, by omega⟩
      have HE5 : Hid (ivs (N.take i) ++ [Value.int .i64 d] = ivs (N.take (i + 1))) := Lib.hid (by rw [← ivs_tk N i (by rw [HSU.out.2.2.1]; exact hlt), hng, hd])
      have HJ : Hid ((i + 1) * 8 ≤ 140737488355328 ∧ i + 1 ≤ maxLen) := Lib.hid (by unfold maxLen; omega)
      have HXY := Lib.hid (And.intro hlt (And.intro hx hy))
      have i1 : (i : Int) < (n : Int) := by omega
      clear hb1 hb2 hng hst hsn hx hy hd hrs' hms' hrs hms sr sn hmx
      go_upto_region 15 with fail
      clear ccx ccy cc4 m1 m3
      go_wp2_with fail
      have hv0 : AcL w wr.drew br b6 b7 b5 [.int .i64 p, .int .i64 m, .int .i64 hh, .slice (some ⟨gc, 0, none⟩) n c3, .slice (some ⟨gr, 0, none⟩) n c4, .slice A5 i c6, .slice (some ⟨gg, 0, none⟩) n c5] gc gr gg n C R G base A5 c6 i (N.take i) := HAL.out.below (Below.refl _ _).drew
      refine wp_region_late (fun V => V.cell? ⟨b7, 5, none⟩ = some (.slice A5 i c6) ∧ V.cell? ⟨b7, 4, none⟩ = some (.slice (some ⟨gr, 0, none⟩) n c4) ∧ V.cell? ⟨gr, i, none⟩ = some (.int .i64 y)) [15] (by kernel_rfl) (⟨(hv0).s.r7.cell 5, (hv0).s.r7.cell 4, ((hv0).fr.cell i HXY.out.1).trans (by rw [HXY.out.2.2])⟩) (fun hHeld => ?_)
      obtain ⟨wd, hwd⟩ : ∃ x, wr.drew = x := ⟨_, rfl⟩
      rw [hwd] at hv0 hHeld  ⊢
      clear hwd
      refine tkL 0 oDa0 ?v0_1 (.inl ⟨by rfl, ?h0_1⟩) ?r0_1
      case h0_1 =>
        intro W hSW
        unfold oDa0
        try dsimp only at hSW
        go_simp
        try with_reducible rfl
      try simp only [oDa0, PT]
      refine tkL 1 oDa1 ?v1_2 (.inl ⟨by rfl, ?h1_2⟩) ?r1_2
      case h1_2 =>
        intro W hSW
        unfold oDa1
        try dsimp only at hSW
        go_simp
        try with_reducible rfl
      try simp only [oDa1, PT]
      refine tkL 2 oDa2 ?v2_3 (.inl ⟨by rfl, ?h2_3⟩) ?r2_3
      case h2_3 =>
        intro W hSW
        unfold oDa2
        try dsimp only at hSW
        have hcc := hSW.1
        go_simp
        try with_reducible rfl
      try simp only [oDa2, PT]
      refine tkL 3 oDa3 ?v3_4 (.inl ⟨by rfl, ?h3_4⟩) ?r3_4
      case h3_4 =>
        intro W hSW
        unfold oDa3
        try dsimp only at hSW
        go_simp
        try with_reducible rfl
      try simp only [oDa3, PT]
      refine tkL 4 oDa4 ?v4_5 (.inl ⟨by rfl, ?h4_5⟩) ?r4_5
      case h4_5 =>
        intro W hSW
        unfold oDa4
        try dsimp only at hSW
        go_simp
        try with_reducible rfl
      try simp only [oDa4, PT]
      refine tkL 5 oDa5 ?v5_6 (.inl ⟨by rfl, ?h5_6⟩) ?r5_6
      case h5_6 =>
        intro W hSW
        unfold oDa5
        try dsimp only at hSW
        go_simp
        try with_reducible rfl
      try simp only [oDa5, PT]
      refine tkL 6 oDa6 ?v6_7 (.inl ⟨by rfl, ?h6_7⟩) ?r6_7
      case h6_7 =>
        intro W hSW
        unfold oDa6
        try dsimp only at hSW
        have hcc := hSW.2.1
        go_simp
        try with_reducible rfl
      try simp only [oDa6, PT]
      refine tkL 7 oDa7 ?v7_8 (.inl ⟨by rfl, ?h7_8⟩) ?r7_8
      case h7_8 =>
        intro W hSW
        unfold oDa7
        try dsimp only at hSW
        go_simp
        try with_reducible rfl
      try simp only [oDa7, PT]
      refine tkL 8 oDa8 ?v8_9 (.inl ⟨by rfl, ?h8_9⟩) ?r8_9
      case h8_9 =>
        intro W hSW
        unfold oDa8
        try dsimp only at hSW
        go_simp
        try with_reducible rfl
      try simp only [oDa8, PT]
      refine tkL 9 oDa9 ?v9_10 (.inl ⟨by rfl, ?h9_10⟩) ?r9_10
      case h9_10 =>
        intro W hSW
        unfold oDa9
        try dsimp only at hSW
        have hcc := hSW.2.2
        go_simp
        try with_reducible rfl
      try simp only [oDa9, PT]
      refine tkL 10 oDa10 ?v10_11 (.inl ⟨by rfl, ?h10_11⟩) ?r10_11
      case h10_11 =>
        intro W hSW
        unfold oDa10
        try dsimp only at hSW
        go_simp
        try with_reducible rfl
      try simp only [oDa10, PT]
      refine rdyL [11] ?_
      refine AllReadyL.cons (o := oDa11) rfl (fun K hK => ?_) AllReadyL.nil
      unfold oDa11
      go_simp
      obtain ⟨g92, hg92⟩ : ∃ y, wd.heap.size = y := ⟨_, rfl⟩
      have rd92 := Rd.new wd [Value.int .i64 d] 3 1 (size := 1) rfl
      obtain ⟨w70, hw70⟩ : ∃ y, wd.alloc (.cells #[Value.int .i64 d] 3) = y := ⟨_, rfl⟩
      rw [show ([Value.int .i64 d] : List Value).toArray = #[Value.int .i64 d] from rfl, hw70, hg92] at rd92
      rw [hw70, hg92]
      have b70 : Below wd.heap.size wd w70 := by rw [← hw70]; exact (Below.refl _ _).alloc (Nat.le_refl _) _
      have hv70 := (hv0).below b70
      have rd92 : Rd w70 w70.heap.size 1 _ _ _ := rd92.more (by rw [← hw70, alloc_size1, hg92]; exact Nat.le_refl _)
      clear hw70 b70 hg92
      refine hK.out _ _ (⟨(hv70).s.r7.cell 5, (hv70).s.r7.cell 4, ((hv70).fr.cell i HXY.out.1).trans (by rw [HXY.out.2.2])⟩) (fun hHeld => ?_)
      clear hK K
      try simp only [PT]
      refine rdyL [12] ?_
      refine AllReadyL.cons (o := oDa12) rfl (fun K hK => ?_) AllReadyL.nil
      unfold oDa12
      rw [if_pos (by rfl)]
      refine wp_app _ (.tmp 83) (.tmp 92) 29 rfl base 3 (.int .i64 0) 1 8 bintT A5 i c6 (ivs (N.take i)) rfl (hv70).own w70.heap.size (some ⟨g92, 0, none⟩) 1 1 [Value.int .i64 d] rfl rd92 (ivs_one [d]) HJ.out.1 HJ.out.2 (hv70).hz ?_
      intro A5n c6n w71 own71 gr71 hA71
      rw [HE5.out] at own71
      have hv71 := (hv70).app own71 gr71
      have k5 : w71.cell? ⟨b7, 5, none⟩ = some (.slice A5 i c6) := hv71.s.r7.cell 5
      have f5 : w71.frozen? ⟨b7, 5, none⟩ = false := hv71.s.r7.frozen 5
      clear own71 gr71 hA71 rd92
      refine hK.out _ _ (⟨(hv71).s.r7.cell 5, (hv71).s.r7.cell 4, ((hv71).fr.cell i HXY.out.1).trans (by rw [HXY.out.2.2])⟩) (fun hHeld => ?_)
      clear hK K
      try simp only [PT]
      refine tkL 13 oDa13 ?v13_12 (.inl ⟨by rfl, ?h13_12⟩) ?r13_12
      case h13_12 =>
        intro W hSW
        unfold oDa13
        try dsimp only at hSW
        go_simp
        try with_reducible rfl
      try simp only [oDa13, PT]
      refine tkL 14 oDa14 ?v14_13 (.inl ⟨by rfl, ?h14_13⟩) ?r14_13
      case h14_13 =>
        intro W hSW
        unfold oDa14
        try dsimp only at hSW
        go_simp
        try with_reducible rfl
      try simp only [oDa14, PT]
      refine rdyL [15] ?_
      refine AllReadyL.late (o := oDa15) rfl (by rfl) (fun K hK => ?_) AllReadyL.nil
      unfold oDa15
      go_simp
      have hv72 := (hv71).put 5 (.slice A5n (i + 1) c6n)
      obtain ⟨w72, hw72⟩ : ∃ x, w71.setCell ⟨b7, 5, none⟩ (.slice A5n (i + 1) c6n) = x := ⟨_, rfl⟩
      rw [hw72] at hv72
      rw [hw72]
      clear hw72 k5 f5
      refine hK.out _ _ ?_
      clear hK K
      try simp only [PT]
      refine wpAnyL_done (by kernel_rfl) ?_ _
      have HCF := Lib.hid hv72
      clear hv72
      go_wp2_with fail
      go_roundw
      case rel => exact ⟨i + 1, A5n, c6n, by omega, by go_num, by rw [HR'.out.1], by rw [HR'.out.2], HCF⟩
      case measure => simp [intOf]; omega
    · obtain rfl : n = i := by omega
      have hsr : sumK R n = R.sum := by unfold sumK; rw [List.take_of_length_le (by rw [HLEN.out.2.1]; exact Nat.le_refl _)]
      have hsn : sumK N n = N.sum := by unfold sumK; rw [List.take_of_length_le (by rw [HSU.out.2.2.1]; exact Nat.le_refl _)]
      have hnt : N.take n = N := List.take_of_length_le (by rw [HSU.out.2.2.1]; exact Nat.le_refl _)
      rw [hnt] at HAL
      have q1 : wr.cell? ⟨b7, 1, none⟩ = some (.int .i64 m) := HAL.out.s.r7.cell 1
      by_cases hgood : R.sum ≤ hh ∧ hh + N.sum = m
      · have HQ : Hid (Bil.acct b p n = (⟨⟨p, m, hh, C, R, N⟩, G⟩, b5, 0)) := Lib.hid (by rw [HAC.out, if_pos (by trivial), if_pos hgood])
        have hb5 : b5.drop 0 = b5 := rfl
        have HC := Lib.hid (pcheck_ok br b5 0 (Nat.zero_le _) wr HAL.out.s.st)
        have d1 : decide (0 ≤ rs) = true := decide_eq_true (by omega)
        have d2 : (ms == m) = true := by rw [beq_iff_eq]; omega
        clear hgood hrs hms sr sn hmx hsr hsn hnt hb5
        go_upto_region 18 with (go_at_call 60; refine HC.out.mono ?_; rintro r w12 ⟨rfl, s1, k1⟩; have HX := Lib.hid (HAL.out.next s1 k1); clear s1 k1)
        have q7 := HX.out.1.r7
        have q6 := HX.out.1.r6
        go_wp2_with (first
          | (refine wpList_loadS rfl _ (.tmp 7) rfl q7 rfl Tryd.underlying79 sizeAc ?_)
          | (refine wpList_storeRow rfl _ (.tmp 6) (.tmp 108) rfl (l' := [.int .i64 p, .int .i64 m, .int .i64 hh, .slice (some ⟨gc, 0, none⟩) n c3, .slice (some ⟨gr, 0, none⟩) n c4, .slice A5 n c6, .slice (some ⟨gg, 0, none⟩) n c5]) q6 rfl rfl sizeAc rfl rfl ?_; intro w13 r13 g13 z13))
        have ho := HX.out.1.o
        have hbb := HAL.out.hb
        obtain ⟨gt, rfl, hgt, hft⟩ := FRow.of_own HX.out.2.2.2.2 HN.out.1
        have hk13 : Keep (fun q => q = b6) w12 w13 := Keep.of_grown g13 fun k e => (Option.some.inj e).symm
        refine bodyPost_ret (resultRowS rfl _ _ r13 rfl Tryd.underlying79 sizeAc) rfl ?_
        rw [HQ.out]
        exact ⟨HX.out.1.st.keeps hk13 (fun q hq e => by omega), HX.out.1.k.grown g13 (fun k e => .inr (by have := Option.some.inj e; omega)), .inr ⟨rfl, gc, c3, gr, c4, gt, c6, gg, c5, rfl, HX.out.2.1.keeps hk13 (by omega), HX.out.2.2.1.keeps hk13 (by omega), hft.keeps hk13 (by omega), HX.out.2.2.2.1.keeps hk13 (by omega), HGC.out, hbb.2.1, hbb.2.2.1, by omega⟩⟩
      · have HQ : Hid (Bil.acct b p n = (Bil.zacc, b5, 6)) := Lib.hid (by rw [HAC.out, if_pos (by trivial), if_neg hgood])
        have HC := Lib.hid (pcheck_bad br b5 0 0 false wr HAL.out.s.st (.inr rfl))
        rw [if_pos rfl] at HC
        by_cases hr0 : 0 ≤ rs
        · have d1 : decide (0 ≤ rs) = true := decide_eq_true hr0
          have d2 : (ms == m) = false := by rw [beq_eq_false_iff_ne]; intro e; exact hgood ⟨by omega, by omega⟩
          clear hgood hrs hms sr sn hmx hsr hsn hnt hr0
          go_upto_region 18 with (go_at_call 60; refine HC.out.mono ?_; rintro r w12 ⟨rfl, s1, k1⟩; have HX := Lib.hid (HAL.out.next s1 k1); clear s1 k1)
          have q7 := HX.out.1.r7
          have q6 := HX.out.1.r6
          go_wp2_with (first
            | (refine wpList_loadS rfl _ (.tmp 7) rfl q7 rfl Tryd.underlying79 sizeAc ?_)
            | (refine wpList_storeRow rfl _ (.tmp 6) (.tmp 108) rfl (l' := [.int .i64 p, .int .i64 m, .int .i64 hh, .slice (some ⟨gc, 0, none⟩) n c3, .slice (some ⟨gr, 0, none⟩) n c4, .slice A5 n c6, .slice (some ⟨gg, 0, none⟩) n c5]) q6 rfl rfl sizeAc rfl rfl ?_; intro w13 r13 g13 z13))
          have ho := HX.out.1.o
          have hk13 : Keep (fun q => q = b6) w12 w13 := Keep.of_grown g13 fun k e => (Option.some.inj e).symm
          refine bodyPost_ret (resultRowS rfl _ _ r13 rfl Tryd.underlying79 sizeAc) rfl ?_
          rw [HQ.out]
          exact ⟨HX.out.1.st.keeps hk13 (fun q hq e => by omega), HX.out.1.k.grown g13 (fun k e => .inr (by have := Option.some.inj e; omega)), .inl ⟨(by decide : (6 : Int) ≠ 0), _, rfl, rfl, rfl⟩⟩
        · have d1 : decide (0 ≤ rs) = false := decide_eq_false hr0
          clear hgood hrs hms sr sn hmx hsr hsn hnt hr0
          go_upto_region 18 with (go_at_call 60; refine HC.out.mono ?_; rintro r w12 ⟨rfl, s1, k1⟩; have HX := Lib.hid (HAL.out.next s1 k1); clear s1 k1)
          have q7 := HX.out.1.r7
          have q6 := HX.out.1.r6
          go_wp2_with (first
            | (refine wpList_loadS rfl _ (.tmp 7) rfl q7 rfl Tryd.underlying79 sizeAc ?_)
            | (refine wpList_storeRow rfl _ (.tmp 6) (.tmp 108) rfl (l' := [.int .i64 p, .int .i64 m, .int .i64 hh, .slice (some ⟨gc, 0, none⟩) n c3, .slice (some ⟨gr, 0, none⟩) n c4, .slice A5 n c6, .slice (some ⟨gg, 0, none⟩) n c5]) q6 rfl rfl sizeAc rfl rfl ?_; intro w13 r13 g13 z13))
          have ho := HX.out.1.o
          have hk13 : Keep (fun q => q = b6) w12 w13 := Keep.of_grown g13 fun k e => (Option.some.inj e).symm
          refine bodyPost_ret (resultRowS rfl _ _ r13 rfl Tryd.underlying79 sizeAc) rfl ?_
          rw [HQ.out]
          exact ⟨HX.out.1.st.keeps hk13 (fun q hq e => by omega), HX.out.1.k.grown g13 (fun k e => .inr (by have := Option.some.inj e; omega)), .inl ⟨(by decide : (6 : Int) ≠ 0), _, rfl, rfl, rfl⟩⟩
end Go.Proofs.YtkjomnakolhdcaaDoor
