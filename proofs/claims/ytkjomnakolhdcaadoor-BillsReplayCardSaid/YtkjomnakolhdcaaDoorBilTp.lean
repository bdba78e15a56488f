/- Layer 35's replaying: one closing, one credit out of its bytes. Conditions: the ledger keeps what it keeps; at most 1000 bytes; the tables are in memory. -/
import Derived.Test.YtkjomnakolhdcaaDoorHeld2
import Derived.Test.YtkjomnakolhdcaaDoorBilTn
import Derived.Test.YtkjomnakolhdcaaDoorBilD
import Derived.Test.YtkjomnakolhdcaaDoorBilTk
import Derived.Lib.SliceRun
namespace Go.Proofs.YtkjomnakolhdcaaDoor
set_option linter.unusedVariables false
set_option linter.unusedSimpArgs false
open Go.RowKit
abbrev oTp0 : Oper := { dst := some 32, op := Op.move (Operand.tmp 0), type := 25, pos := "bills.go:290", after := #[], guard := none }
abbrev oTp1 : Oper := { dst := some 33, op := Op.move (Operand.tmp 5), type := 29, pos := "bills.go:290", after := #[], guard := none }
abbrev oTp2 : Oper := { dst := some 34, op := Op.indexAddr 29 (Operand.tmp 33) (Operand.const (Value.int IntKind.i64 0)), type := 0, pos := "bills.go:290", after := #[{ on := 1, ground := Ground.data }], guard := none }
abbrev oTp3 : Oper := { dst := some 35, op := Op.load 3 (Operand.tmp 34), type := 3, pos := "bills.go:290", after := #[{ on := 2, ground := Ground.data }], guard := none }
abbrev oTp4 : Oper := { dst := some 36, op := Op.move (Operand.tmp 5), type := 29, pos := "bills.go:290", after := #[], guard := none }
abbrev oTp5 : Oper := { dst := some 37, op := Op.indexAddr 29 (Operand.tmp 36) (Operand.const (Value.int IntKind.i64 1)), type := 0, pos := "bills.go:290", after := #[{ on := 4, ground := Ground.data }], guard := none }
abbrev oTp6 : Oper := { dst := some 38, op := Op.load 3 (Operand.tmp 37), type := 3, pos := "bills.go:290", after := #[{ on := 5, ground := Ground.data }], guard := none }
abbrev oTp7 : Oper := { dst := some 39, op := Op.move (Operand.tmp 7), type := 29, pos := "bills.go:290", after := #[], guard := none }
abbrev oTp8 : Oper := { dst := some 40, op := Op.call { callee := Callee.value (Operand.func 29), args := #[Operand.tmp 32, Operand.tmp 35, Operand.tmp 38, Operand.tmp 39], argTypes := #[25, 3, 3, 29] }, type := 32, pos := "bills.go:290", after := #[{ on := 0, ground := Ground.data }, { on := 3, ground := Ground.data }, { on := 6, ground := Ground.data }, { on := 7, ground := Ground.data }], guard := none }
abbrev oTp9 : Oper := { dst := some 31, op := Op.move (Operand.tmp 40), type := 32, pos := "bills.go:290", after := #[{ on := 8, ground := Ground.data }], guard := none }
abbrev oTp10 : Oper := { dst := some 41, op := Op.extract (Operand.tmp 31) 0, type := 31, pos := "bills.go:290", after := #[{ on := 9, ground := Ground.data }], guard := none }
abbrev oTp11 : Oper := { dst := some 42, op := Op.extract (Operand.tmp 31) 1, type := 26, pos := "bills.go:290", after := #[{ on := 9, ground := Ground.data }], guard := none }
abbrev oTp12 : Oper := { dst := some 9, op := Op.assign (Operand.tmp 42), type := 26, pos := "bills.go:290", after := #[{ on := 11, ground := Ground.data }, { on := 8, ground := Ground.chain }, { on := 0, ground := Ground.phase }, { on := 1, ground := Ground.phase }, { on := 2, ground := Ground.phase }, { on := 3, ground := Ground.phase }, { on := 4, ground := Ground.phase }, { on := 5, ground := Ground.phase }, { on := 6, ground := Ground.phase }, { on := 7, ground := Ground.phase }, { on := 8, ground := Ground.phase }, { on := 9, ground := Ground.phase }, { on := 10, ground := Ground.phase }, { on := 11, ground := Ground.phase }], guard := none }
abbrev oTp13 : Oper := { dst := some 19, op := Op.move (Operand.tmp 0), type := 25, pos := "bills.go:299", after := #[], guard := none }
abbrev oTp14 : Oper := { dst := some 20, op := Op.move (Operand.tmp 5), type := 29, pos := "bills.go:299", after := #[], guard := none }
abbrev oTp15 : Oper := { dst := some 21, op := Op.indexAddr 29 (Operand.tmp 20) (Operand.const (Value.int IntKind.i64 0)), type := 0, pos := "bills.go:299", after := #[{ on := 1, ground := Ground.data }], guard := none }
abbrev oTp16 : Oper := { dst := some 22, op := Op.load 3 (Operand.tmp 21), type := 3, pos := "bills.go:299", after := #[{ on := 2, ground := Ground.data }], guard := none }
abbrev oTp17 : Oper := { dst := some 23, op := Op.move (Operand.tmp 5), type := 29, pos := "bills.go:299", after := #[], guard := none }
abbrev oTp18 : Oper := { dst := some 24, op := Op.indexAddr 29 (Operand.tmp 23) (Operand.const (Value.int IntKind.i64 1)), type := 0, pos := "bills.go:299", after := #[{ on := 4, ground := Ground.data }], guard := none }
abbrev oTp19 : Oper := { dst := some 25, op := Op.load 3 (Operand.tmp 24), type := 3, pos := "bills.go:299", after := #[{ on := 5, ground := Ground.data }], guard := none }
abbrev oTp20 : Oper := { dst := some 26, op := Op.move (Operand.tmp 5), type := 29, pos := "bills.go:299", after := #[], guard := none }
abbrev oTp21 : Oper := { dst := some 27, op := Op.indexAddr 29 (Operand.tmp 26) (Operand.const (Value.int IntKind.i64 2)), type := 0, pos := "bills.go:299", after := #[{ on := 7, ground := Ground.data }], guard := none }
abbrev oTp22 : Oper := { dst := some 28, op := Op.load 3 (Operand.tmp 27), type := 3, pos := "bills.go:299", after := #[{ on := 8, ground := Ground.data }], guard := none }
abbrev oTp23 : Oper := { dst := some 29, op := Op.call { callee := Callee.value (Operand.func 30), args := #[Operand.tmp 19, Operand.tmp 22, Operand.tmp 25, Operand.tmp 28], argTypes := #[25, 3, 3, 3] }, type := 26, pos := "bills.go:299", after := #[{ on := 0, ground := Ground.data }, { on := 3, ground := Ground.data }, { on := 6, ground := Ground.data }, { on := 9, ground := Ground.data }], guard := none }
abbrev oTp24 : Oper := { dst := some 4, op := Op.assign (Operand.tmp 29), type := 26, pos := "bills.go:299", after := #[{ on := 10, ground := Ground.data }, { on := 10, ground := Ground.chain }, { on := 0, ground := Ground.phase }, { on := 1, ground := Ground.phase }, { on := 2, ground := Ground.phase }, { on := 3, ground := Ground.phase }, { on := 4, ground := Ground.phase }, { on := 5, ground := Ground.phase }, { on := 6, ground := Ground.phase }, { on := 7, ground := Ground.phase }, { on := 8, ground := Ground.phase }, { on := 9, ground := Ground.phase }, { on := 10, ground := Ground.phase }], guard := none }
namespace Bil
def takeC (r : List UInt8) : Option Bk :=
 match rdN 2 r with
 | none => none
 | some (x, r2) => if (Wire.decI r2).2.2 = 0 ∧ (Wire.decI r2).2.1 = r2.length then some ⟨1, x.getD 0 0, x.getD 1 0, 0, (Wire.decI r2).1⟩ else none
def takeR (r : List UInt8) : Option Bk :=
 match rdN 3 r with
 | none => none
 | some (x, r2) => if r2 = [] then some ⟨2, x.getD 0 0, x.getD 1 0, x.getD 2 0, []⟩ else none
theorem take_def (b : List UInt8) : take b = match rdN 1 b with
 | none => none
 | some (k, r) => if k = [1] then takeC r else if k = [2] then takeR r else none := rfl
def optErr (l : Lg) : Option Bk → Int
 | none => 6
 | some x => doErr l x
def optSt (l : Lg) : Option Bk → Lg
 | none => l
 | some x => if doErr l x = 0 then doSt l x else l
theorem doSt_err {l : Lg} {x : Bk} (h : doErr l x ≠ 0) : doSt l x = l := by
 unfold doErr at h
 unfold doSt
 by_cases hk : x.kind = 1
 ·
  rw [if_pos hk] at h ⊢
  unfold closeS; rw [if_neg h]
 ·
  rw [if_neg hk] at h ⊢
  unfold creditSt; rw [if_neg h]
end Bil
/-- what executing a decoded booking gives -/
def XRes (w : World) (bl : Nat) (col : Nat → Nat) (l : Bil.Lg) (o : Option Bil.Bk) (e : Ending) (w' : World) : Prop :=
 ∃ col' m', e = .returned (.int .i64 (Bil.optErr l o)) ∧ LAt w' bl col' m' (Bil.optSt l o) ∧ Keep (fun b => col b ≠ 0) w w' ∧ ∀ b, col' b ≠ 0 → col b ≠ 0 ∨ w.heap.size ≤ b
theorem XRes.none_ {w w' : World} {bl : Nat} {col : Nat → Nat} {m : LM} {l : Bil.Lg} (h : LAt w bl col m l) (hb : Below w.heap.size w w') : XRes w bl col l none (.returned (.int .i64 6)) w' :=
 ⟨col, m, rfl, h.below hb, Keep.of_below hb, fun _ hq => .inl hq⟩
theorem col_zeroP {w : World} {bl : Nat} {col : Nat → Nat} {m : LM} {l : Bil.Lg} (h : LAt w bl col m l) {b : Nat} (hb : w.heap.size ≤ b) : col b = 0 := by
 rcases Nat.eq_zero_or_pos (col b) with h0 | h0
 ·
  exact h0
 ·
  have := h.lt b (by omega); omega
theorem own_col {w w' : World} {bl : Nat} {col : Nat → Nat} {m : LM} {l : Bil.Lg} (h : LAt w bl col m l) {e n c : Nat} {A : Option Addr} {xs : List Value} (ho : w'.ownsRow w.heap.size e 1 (.slice A n c) n xs) : ∀ a, A = some a → col a.block = 0 :=
 fun a ha => col_zeroP h (own_block_lt ho a ha).1
theorem own_at {w : World} {base e c n g : Nat} {x : List Int} (h : w.ownsRow base e 1 (.slice (some ⟨g, 0, none⟩) n c) n (ivs x)) {t : Nat} (ht : t < x.length) : w.cell? ⟨g, t, none⟩ = some (.int .i64 (x.getD t 0)) := by
 have := h.cells (g := g) rfl t (.int .i64 (x.getD t 0)) (by simp [ivs, List.getElem?_map, List.getD, List.getElem?_eq_getElem ht])
 rwa [Addr.add_lit, Nat.zero_add] at this
set_option maxRecDepth 100000 in
set_option maxHeartbeats 1600000 in
theorem replayClose_any (bl : Nat) (col : Nat → Nat) (m : LM) (l : Bil.Lg) (A : Option Addr) (n c : Nat) (b : List UInt8) (hn : b.length = n) (w : World) (B : Nat) (hB : B ≤ w.heap.size) (rd : Rd w B 1 A n (bvs b)) (hL : n ≤ 1000) (hc : n ≤ c) (hcm : c ≤ maxLen)
  (h : LAt w bl col m l) (hO : Bil.Ok l) (hS : Bil.Sm l 1152921504606846976) (hT : Tabs w) (hR : RG w) :
  Calls Tryd.prog 53 #[.pointer (some ⟨bl, 0, none⟩), .slice A n c] w (XRes w bl col l (Bil.takeC b)) := by
 have qT : ∀ (w : World) (a : Option Addr) (n c n' c' : Nat), (binOp .eql 29 (.slice a n c) (.slice none n' c')).run Tryd.prog w = .ok (.bool a.isNone) w := fun w a n c n' c' => Lib.run_eql_slice_nil w _ _ a n c n' c' Tryd.underlying29
 have HN := Lib.hid (numbers_any A n c b hn 2 (by omega) w B hB rd (by omega) hc hcm)
 have HL := Lib.hid h
 have HI := Lib.hid (And.intro hO (And.intro hS (And.intro hT hR)))
 have HLN : Hid (b.length ≤ 1000) := Lib.hid (by omega)
 clear h hO hS hT hR hn hB rd hL hc hcm
 obtain ⟨o, ho⟩ : ∃ x, Bil.rdN 2 b = x := ⟨_, rfl⟩
 cases o with
 | none =>
  have HTK : Hid (Bil.takeC b = none) := Lib.hid (by unfold Bil.takeC; rw [ho])
  rw [HTK.out]
  have HO := Lib.hid ho
  clear ho
  go_enter Tryd.func53, Tryd.ntmps53
  go_wp2_with (go_at_call 55; refine HN.out.mono ?_; rintro e w1 ⟨hb1, hh⟩; (obtain ⟨_, rfl⟩ : Bil.rdN 2 b = none ∧ e = .returned (.tuple #[.slice none 0 0, .slice none 0 0]) := hh.elim id (fun ⟨l', r', _, _, _, _, h1, _⟩ => by rw [HO.out] at h1; cases h1)); have HB1 := Lib.hid hb1; clear hb1 hh)
  go_ret
  exact XRes.none_ HL.out HB1.out
 | some p =>
  obtain ⟨x, r⟩ := p
  have hxl := Bil.rdN_len ho
  have HX := Lib.hid hxl
  obtain ⟨x0, hx0⟩ : ∃ y, x.getD 0 0 = y := ⟨_, rfl⟩
  obtain ⟨x1, hx1⟩ : ∃ y, x.getD 1 0 = y := ⟨_, rfl⟩
  obtain ⟨x2, hx2⟩ : ∃ y, x.getD 2 0 = y := ⟨_, rfl⟩
  have HXV := Lib.hid (And.intro hx0 (And.intro hx1 hx2))
  have HXI : Hid (i64 x0 ∧ i64 x1 ∧ i64 x2) := Lib.hid ⟨hx0 ▸ Bil.getD_i64 hxl.2.2.1 0, hx1 ▸ Bil.getD_i64 hxl.2.2.1 1, hx2 ▸ Bil.getD_i64 hxl.2.2.1 2⟩
  have HO := Lib.hid ho
  obtain ⟨k, hk⟩ : ∃ k, r.length = k := ⟨_, rfl⟩
  have HK := Lib.hid hk
  have HK1 : Hid (k ≤ 1000) := Lib.hid (by have := hxl.2.1; have := HLN.out; omega)
  clear hxl ho hk hx0 hx1 hx2
  obtain ⟨C, v, er, hd⟩ : ∃ C v er, Wire.decI r = (C, v, er) := ⟨_, _, _, rfl⟩
  have HTK : Hid (Bil.takeC b = if er = 0 ∧ v = k then some ⟨1, x0, x1, 0, C⟩ else none) := Lib.hid (by unfold Bil.takeC; rw [HO.out]; simp only [hd, HK.out, HXV.out.1, HXV.out.2.1])
  have HGI := Lib.hid (fun (W : World) (A2 : Option Addr) (c2 : Nat) (rv : Rd W W.heap.size 1 A2 k (bvs r)) (h1 : k ≤ c2) (h2 : c2 ≤ maxLen) => show Calls Tryd.prog 78 #[.slice A2 k c2] W _ from by
   have := wireGetInts_any A2 c2 r W (by rw [HK.out]; exact rv) (by rw [HK.out]; have := HK1.out; omega) (by rw [HK.out]; exact h1) h2 C v er hd
   rw [HK.out] at this
   exact this)
  have HDI := Lib.hid hd
  clear hd
  by_cases he : er = 0
  ·
   subst he
   have HV : Hid (v ≤ k ∧ C.length ≤ 1000) := Lib.hid (by
    have h1 := Wire.decI_ok HDI.out
    have h2 := HK.out
    have h3 := HK1.out
    omega)
   by_cases hv : v = k
   ·
    obtain rfl : k = v := hv.symm
    have HTK2 : Hid (Bil.takeC b = some ⟨1, x0, x1, 0, C⟩) := Lib.hid (by rw [HTK.out, if_pos ⟨rfl, rfl⟩])
    rw [HTK2.out]
    go_enter Tryd.func53, Tryd.ntmps53
    go_upto_region 7 with (first
     | (go_at_call 55; refine HN.out.mono ?_; rintro e w1 ⟨hb1, hh⟩; (obtain ⟨A1, c1, A2, c2, rfl, hq⟩ : ∃ A1 c1 A2 c2, e = .returned (.tuple #[.slice A1 2 c1, .slice A2 k c2]) ∧ Hid (w1.ownsRow w.heap.size 3 1 (.slice A1 2 c1) 2 (ivs x) ∧ k ≤ c2 ∧ c2 ≤ maxLen ∧ Rd w1 w.heap.size 1 A2 k (bvs r)) := hh.elim (fun hh => by have := hh.1; rw [HO.out] at this; cases this) (fun ⟨l', r', A1, c1, A2, c2, h1, h2, h3, h4, h5, h6⟩ => by
    rw [HO.out] at h1
    have h1 := Option.some.inj h1
    obtain ⟨rfl, rfl⟩ : x = l' ∧ r = r' := ⟨congrArg Prod.fst h1, congrArg Prod.snd h1⟩
    exact ⟨A1, c1, A2, c2, by rw [h2, HK.out], Lib.hid ⟨h3, by rw [HK.out] at h4; exact h4, h5, by rw [HK.out] at h6; exact h6⟩⟩)); (obtain ⟨g, hg⟩ : ∃ g, A1 = some ⟨g, 0, none⟩ := (by obtain ⟨g, cap, hv, _, _⟩ := hq.out.1.form (by omega); injection hv with hA _ _; exact ⟨g, hA⟩)); subst hg; have HB1 := Lib.hid hb1; clear hb1 hh)
     | (go_at_call 78; refine (HGI.out _ _ _ (hq.out.2.2.2.more HB1.out.size) hq.out.2.1 hq.out.2.2.1).mono ?_; rintro e w2 ⟨A3, c3, rfl, own3, hb2⟩; have HO3 := Lib.hid (And.intro own3 hb2); clear own3 hb2))
    have hb2 : Below w.heap.size w w2 := HB1.out.trans (HO3.out.2.mono HB1.out.size)
    have HB2 := Lib.hid hb2
    have ownx := own_below hq.out.1 HO3.out.2
    have HG : Hid (g < w2.heap.size ∧ ¬ (col g ≠ 0)) := Lib.hid ⟨by have := ownx.lt g rfl; omega, fun hh => hh (own_col HL.out hq.out.1 _ rfl)⟩
    have HC0 : Hid (w2.cell? ⟨g, 0, none⟩ = some (.int .i64 x0)) := Lib.hid ((own_at ownx (t := 0) (by rw [HX.out.1]; decide)).trans (by rw [HXV.out.1]))
    have HC1 : Hid (w2.cell? ⟨g, 1, none⟩ = some (.int .i64 x1)) := Lib.hid ((own_at ownx (t := 1) (by rw [HX.out.1]; decide)).trans (by rw [HXV.out.2.1]))
    have HCL : Hid (∀ W, Below w2.heap.size w2 W → Calls Tryd.prog 29 #[.pointer (some ⟨bl, 0, none⟩), .int .i64 x0, .int .i64 x1, .slice A3 C.length c3] W (DoRes W bl col l ⟨1, x0, x1, 0, C⟩)) := Lib.hid fun W hW =>
     close_any bl col m l ⟨1, x0, x1, 0, C⟩ rfl HXI.out.2.1 A3 C.length c3 rfl HV.out.2 w2.heap.size W ((HL.out.below HB2.out).below hW) HI.out.1 HI.out.2.1 ((HI.out.2.2.1.below HB2.out).below hW) ((HI.out.2.2.2.below HB2.out).below hW) ((Rd.of_own HO3.out.1).below hW) hW.size (fun _ a ha => own_col HL.out (own_base HO3.out.1 HB1.out.size) a ha)
    clear ownx hb2
    go_wp2_with fail
    have hbl0 : Below w2.heap.size w2 w2.drew := (Below.refl _ _).drew
    have hv0 : Keep (fun q => col q ≠ 0) w2 w2.drew := Keep.of_below (Below.refl _ _).drew
    refine wp_region_held_drew (S := fun W => Keep (fun q => col q ≠ 0) w2 W) (by kernel_rfl) (hv0) (fun hHeld => ?_)
    obtain ⟨wd, hwd⟩ : ∃ x, w2.drew = x := ⟨_, rfl⟩
    rw [hwd] at hv0 hHeld hbl0 ⊢
    clear hwd
    refine tkH 0 oTp0 ?v0_1 (.inl ⟨by rfl, ?h0_1⟩) ?r0_1
    case h0_1 =>
     intro W hSW
     unfold oTp0
     try dsimp only at hSW
     go_simp
     try with_reducible rfl
    try simp only [oTp0, PT]
    refine tkH 1 oTp1 ?v1_2 (.inl ⟨by rfl, ?h1_2⟩) ?r1_2
    case h1_2 =>
     intro W hSW
     unfold oTp1
     try dsimp only at hSW
     go_simp
     try with_reducible rfl
    try simp only [oTp1, PT]
    refine tkH 2 oTp2 ?v2_3 (.inl ⟨by rfl, ?h2_3⟩) ?r2_3
    case h2_3 =>
     intro W hSW
     unfold oTp2
     try dsimp only at hSW
     go_simp
     try with_reducible rfl
    try simp only [oTp2, PT]
    refine tkH 3 oTp3 ?v3_4 (.inl ⟨by rfl, ?h3_4⟩) ?r3_4
    case h3_4 =>
     intro W hSW
     unfold oTp3
     try dsimp only at hSW
     have hcc : W.cell? ⟨g, 0, none⟩ = some (.int .i64 x0) := (hSW.cell (p := ⟨g, 0, none⟩) HG.out.1 HG.out.2).trans HC0.out
     go_simp
     try with_reducible rfl
    try simp only [oTp3, PT]
    refine tkH 4 oTp4 ?v4_5 (.inl ⟨by rfl, ?h4_5⟩) ?r4_5
    case h4_5 =>
     intro W hSW
     unfold oTp4
     try dsimp only at hSW
     go_simp
     try with_reducible rfl
    try simp only [oTp4, PT]
    refine tkH 5 oTp5 ?v5_6 (.inl ⟨by rfl, ?h5_6⟩) ?r5_6
    case h5_6 =>
     intro W hSW
     unfold oTp5
     try dsimp only at hSW
     go_simp
     try with_reducible rfl
    try simp only [oTp5, PT]
    refine tkH 6 oTp6 ?v6_7 (.inl ⟨by rfl, ?h6_7⟩) ?r6_7
    case h6_7 =>
     intro W hSW
     unfold oTp6
     try dsimp only at hSW
     have hcc : W.cell? ⟨g, 1, none⟩ = some (.int .i64 x1) := (hSW.cell (p := ⟨g, 1, none⟩) HG.out.1 HG.out.2).trans HC1.out
     go_simp
     try with_reducible rfl
    try simp only [oTp6, PT]
    refine tkH 7 oTp7 ?v7_8 (.inl ⟨by rfl, ?h7_8⟩) ?r7_8
    case h7_8 =>
     intro W hSW
     unfold oTp7
     try dsimp only at hSW
     go_simp
     try with_reducible rfl
    try simp only [oTp7, PT]
    refine rdyH [8] ?_
    refine AllReadyH.cons (o := oTp8) rfl (fun K hK => ?_) AllReadyH.nil
    unfold oTp8
    go_simp
    have hbw : Below w2.heap.size w2 wd := hbl0
    refine (HCL.out _ hbw).mono ?_
    rintro e w50 ⟨v5, col', m', rfl, _, _, hl5, hkp, hcc5⟩
    have hv50 : Keep (fun q => col q ≠ 0) w2 w50 := (Keep.of_below hbw).trans hkp
    have HF := Lib.hid (And.intro hl5 (And.intro hkp hcc5))
    have HBW := Lib.hid hbw
    clear hl5 hkp hcc5 hbw
    refine hK.out _ _ (hv50) (fun hHeld => ?_)
    clear hK K
    try simp only [PT]
    refine tkH 9 oTp9 ?v9_9 (.inl ⟨by rfl, ?h9_9⟩) ?r9_9
    case h9_9 =>
     intro W hSW
     unfold oTp9
     try dsimp only at hSW
     go_simp
     try with_reducible rfl
    try simp only [oTp9, PT]
    refine tkH 10 oTp10 ?v10_10 (.inl ⟨by rfl, ?h10_10⟩) ?r10_10
    case h10_10 =>
     intro W hSW
     unfold oTp10
     try dsimp only at hSW
     go_simp
     try with_reducible rfl
    try simp only [oTp10, PT]
    refine tkH 11 oTp11 ?v11_11 (.inl ⟨by rfl, ?h11_11⟩) ?r11_11
    case h11_11 =>
     intro W hSW
     unfold oTp11
     try dsimp only at hSW
     go_simp
     try with_reducible rfl
    try simp only [oTp11, PT]
    refine tkH 12 oTp12 ?v12_12 (.inl ⟨by rfl, ?h12_12⟩) ?r12_12
    case h12_12 =>
     intro W hSW
     unfold oTp12
     try dsimp only at hSW
     go_simp
     try with_reducible rfl
    try simp only [oTp12, PT]
    refine wpAnyH_done (by kernel_rfl) ?_ _
    have HVF := Lib.hid hv50
    clear hv50
    go_wp2_with fail
    go_ret
    refine ⟨col', m', rfl, ?_, (Keep.of_below HB2.out).trans HVF.out, fun q hq => (HF.out.2.2 q hq).imp id (fun h6 => by have := HBW.out.size; have := HB2.out.size; omega)⟩
    unfold Bil.optSt
    dsimp only
    by_cases he0 : Bil.doErr l ⟨1, x0, x1, 0, C⟩ = 0
    ·
     rw [if_pos he0]; exact HF.out.1
    ·
     rw [if_neg he0]; have h7 := HF.out.1; rw [Bil.doSt_err he0] at h7; exact h7
   ·
    have HTK2 : Hid (Bil.takeC b = none) := Lib.hid (by rw [HTK.out, if_neg (fun hh => hv hh.2)])
    have hvk : ((v : Int) != (k : Int)) = true := by rw [bne_iff_ne]; omega
    rw [HTK2.out]
    clear hv
    go_enter Tryd.func53, Tryd.ntmps53
    go_wp2_with (first
     | (go_at_call 55; refine HN.out.mono ?_; rintro e w1 ⟨hb1, hh⟩; (obtain ⟨A1, c1, A2, c2, rfl, hq⟩ : ∃ A1 c1 A2 c2, e = .returned (.tuple #[.slice A1 2 c1, .slice A2 k c2]) ∧ Hid (w1.ownsRow w.heap.size 3 1 (.slice A1 2 c1) 2 (ivs x) ∧ k ≤ c2 ∧ c2 ≤ maxLen ∧ Rd w1 w.heap.size 1 A2 k (bvs r)) := hh.elim (fun hh => by have := hh.1; rw [HO.out] at this; cases this) (fun ⟨l', r', A1, c1, A2, c2, h1, h2, h3, h4, h5, h6⟩ => by
    rw [HO.out] at h1
    have h1 := Option.some.inj h1
    obtain ⟨rfl, rfl⟩ : x = l' ∧ r = r' := ⟨congrArg Prod.fst h1, congrArg Prod.snd h1⟩
    exact ⟨A1, c1, A2, c2, by rw [h2, HK.out], Lib.hid ⟨h3, by rw [HK.out] at h4; exact h4, h5, by rw [HK.out] at h6; exact h6⟩⟩)); (obtain ⟨g, hg⟩ : ∃ g, A1 = some ⟨g, 0, none⟩ := (by obtain ⟨g, cap, hv, _, _⟩ := hq.out.1.form (by omega); injection hv with hA _ _; exact ⟨g, hA⟩)); subst hg; have HB1 := Lib.hid hb1; clear hb1 hh)
     | (go_at_call 78; refine (HGI.out _ _ _ (hq.out.2.2.2.more HB1.out.size) hq.out.2.1 hq.out.2.2.1).mono ?_; rintro e w2 ⟨A3, c3, rfl, own3, hb2⟩; have HO3 := Lib.hid (And.intro own3 hb2); clear own3 hb2))
    go_ret
    exact XRes.none_ HL.out (HB1.out.trans (HO3.out.2.mono HB1.out.size))
  ·
   have HTK2 : Hid (Bil.takeC b = none) := Lib.hid (by rw [HTK.out, if_neg (fun hh => he hh.1)])
   have hen : (er != 0) = true := by rw [bne_iff_ne]; exact he
   rw [HTK2.out]
   clear he
   go_enter Tryd.func53, Tryd.ntmps53
   go_wp2_with (first
    | (go_at_call 55; refine HN.out.mono ?_; rintro e w1 ⟨hb1, hh⟩; (obtain ⟨A1, c1, A2, c2, rfl, hq⟩ : ∃ A1 c1 A2 c2, e = .returned (.tuple #[.slice A1 2 c1, .slice A2 k c2]) ∧ Hid (w1.ownsRow w.heap.size 3 1 (.slice A1 2 c1) 2 (ivs x) ∧ k ≤ c2 ∧ c2 ≤ maxLen ∧ Rd w1 w.heap.size 1 A2 k (bvs r)) := hh.elim (fun hh => by have := hh.1; rw [HO.out] at this; cases this) (fun ⟨l', r', A1, c1, A2, c2, h1, h2, h3, h4, h5, h6⟩ => by
    rw [HO.out] at h1
    have h1 := Option.some.inj h1
    obtain ⟨rfl, rfl⟩ : x = l' ∧ r = r' := ⟨congrArg Prod.fst h1, congrArg Prod.snd h1⟩
    exact ⟨A1, c1, A2, c2, by rw [h2, HK.out], Lib.hid ⟨h3, by rw [HK.out] at h4; exact h4, h5, by rw [HK.out] at h6; exact h6⟩⟩)); (obtain ⟨g, hg⟩ : ∃ g, A1 = some ⟨g, 0, none⟩ := (by obtain ⟨g, cap, hv, _, _⟩ := hq.out.1.form (by omega); injection hv with hA _ _; exact ⟨g, hA⟩)); subst hg; have HB1 := Lib.hid hb1; clear hb1 hh)
    | (go_at_call 78; refine (HGI.out _ _ _ (hq.out.2.2.2.more HB1.out.size) hq.out.2.1 hq.out.2.2.1).mono ?_; rintro e w2 ⟨A3, c3, rfl, own3, hb2⟩; have HO3 := Lib.hid (And.intro own3 hb2); clear own3 hb2))
   go_ret
   exact XRes.none_ HL.out (HB1.out.trans (HO3.out.2.mono HB1.out.size))
set_option maxRecDepth 100000 in
set_option maxHeartbeats 1600000 in
theorem replayCredit_any (bl : Nat) (col : Nat → Nat) (m : LM) (l : Bil.Lg) (A : Option Addr) (n c : Nat) (b : List UInt8) (hn : b.length = n) (w : World) (B : Nat) (hB : B ≤ w.heap.size) (rd : Rd w B 1 A n (bvs b)) (hL : n ≤ 1000) (hc : n ≤ c) (hcm : c ≤ maxLen)
  (h : LAt w bl col m l) (hO : Bil.Ok l) (hS : Bil.Sm l 1152921504606846976) (hT : Tabs w) (hR : RG w) :
  Calls Tryd.prog 54 #[.pointer (some ⟨bl, 0, none⟩), .slice A n c] w (XRes w bl col l (Bil.takeR b)) := by
 have qT : ∀ (w : World) (a : Option Addr) (n c n' c' : Nat), (binOp .eql 29 (.slice a n c) (.slice none n' c')).run Tryd.prog w = .ok (.bool a.isNone) w := fun w a n c n' c' => Lib.run_eql_slice_nil w _ _ a n c n' c' Tryd.underlying29
 have HN := Lib.hid (numbers_any A n c b hn 3 (by omega) w B hB rd (by omega) hc hcm)
 have HL := Lib.hid h
 have HI := Lib.hid (And.intro hO (And.intro hS (And.intro hT hR)))
 have HLN : Hid (b.length ≤ 1000) := Lib.hid (by omega)
 clear h hO hS hT hR hn hB rd hL hc hcm
 obtain ⟨o, ho⟩ : ∃ x, Bil.rdN 3 b = x := ⟨_, rfl⟩
 cases o with
 | none =>
  have HTK : Hid (Bil.takeR b = none) := Lib.hid (by unfold Bil.takeR; rw [ho])
  rw [HTK.out]
  have HO := Lib.hid ho
  clear ho
  go_enter Tryd.func54, Tryd.ntmps54
  go_wp2_with (go_at_call 55; refine HN.out.mono ?_; rintro e w1 ⟨hb1, hh⟩; (obtain ⟨_, rfl⟩ : Bil.rdN 3 b = none ∧ e = .returned (.tuple #[.slice none 0 0, .slice none 0 0]) := hh.elim id (fun ⟨l', r', _, _, _, _, h1, _⟩ => by rw [HO.out] at h1; cases h1)); have HB1 := Lib.hid hb1; clear hb1 hh)
  go_ret
  exact XRes.none_ HL.out HB1.out
 | some p =>
  obtain ⟨x, r⟩ := p
  have hxl := Bil.rdN_len ho
  have HX := Lib.hid hxl
  obtain ⟨x0, hx0⟩ : ∃ y, x.getD 0 0 = y := ⟨_, rfl⟩
  obtain ⟨x1, hx1⟩ : ∃ y, x.getD 1 0 = y := ⟨_, rfl⟩
  obtain ⟨x2, hx2⟩ : ∃ y, x.getD 2 0 = y := ⟨_, rfl⟩
  have HXV := Lib.hid (And.intro hx0 (And.intro hx1 hx2))
  have HXI : Hid (i64 x0 ∧ i64 x1 ∧ i64 x2) := Lib.hid ⟨hx0 ▸ Bil.getD_i64 hxl.2.2.1 0, hx1 ▸ Bil.getD_i64 hxl.2.2.1 1, hx2 ▸ Bil.getD_i64 hxl.2.2.1 2⟩
  have HO := Lib.hid ho
  obtain ⟨k, hk⟩ : ∃ k, r.length = k := ⟨_, rfl⟩
  have HK := Lib.hid hk
  have HK1 : Hid (k ≤ 1000) := Lib.hid (by have := hxl.2.1; have := HLN.out; omega)
  clear hxl ho hk hx0 hx1 hx2
  by_cases hk0 : k = 0
  ·
   subst hk0
   have HTK : Hid (Bil.takeR b = some ⟨2, x0, x1, x2, []⟩) := Lib.hid (by unfold Bil.takeR; rw [HO.out]; simp only [HXV.out.1, HXV.out.2.1, HXV.out.2.2]; exact if_pos (List.eq_nil_of_length_eq_zero HK.out))
   rw [HTK.out]
   go_enter Tryd.func54, Tryd.ntmps54
   go_upto_region 4 with (go_at_call 55; refine HN.out.mono ?_; rintro e w1 ⟨hb1, hh⟩; (obtain ⟨A1, c1, A2, c2, rfl, hq⟩ : ∃ A1 c1 A2 c2, e = .returned (.tuple #[.slice A1 3 c1, .slice A2 0 c2]) ∧ Hid (w1.ownsRow w.heap.size 3 1 (.slice A1 3 c1) 3 (ivs x) ∧ 0 ≤ c2 ∧ c2 ≤ maxLen ∧ Rd w1 w.heap.size 1 A2 0 (bvs r)) := hh.elim (fun hh => by have := hh.1; rw [HO.out] at this; cases this) (fun ⟨l', r', A1, c1, A2, c2, h1, h2, h3, h4, h5, h6⟩ => by
    rw [HO.out] at h1
    have h1 := Option.some.inj h1
    obtain ⟨rfl, rfl⟩ : x = l' ∧ r = r' := ⟨congrArg Prod.fst h1, congrArg Prod.snd h1⟩
    exact ⟨A1, c1, A2, c2, by rw [h2, HK.out], Lib.hid ⟨h3, by rw [HK.out] at h4; exact h4, h5, by rw [HK.out] at h6; exact h6⟩⟩)); (obtain ⟨g, hg⟩ : ∃ g, A1 = some ⟨g, 0, none⟩ := (by obtain ⟨g, cap, hv, _, _⟩ := hq.out.1.form (by omega); injection hv with hA _ _; exact ⟨g, hA⟩)); subst hg; have HB1 := Lib.hid hb1; clear hb1 hh)
   have HB2 := HB1
   have HG : Hid (g < w1.heap.size ∧ ¬ (col g ≠ 0)) := Lib.hid ⟨by have := hq.out.1.lt g rfl; omega, fun hh => hh (own_col HL.out hq.out.1 _ rfl)⟩
   have HC0 : Hid (w1.cell? ⟨g, 0, none⟩ = some (.int .i64 x0)) := Lib.hid ((own_at hq.out.1 (t := 0) (by rw [HX.out.1]; decide)).trans (by rw [HXV.out.1]))
   have HC1 : Hid (w1.cell? ⟨g, 1, none⟩ = some (.int .i64 x1)) := Lib.hid ((own_at hq.out.1 (t := 1) (by rw [HX.out.1]; decide)).trans (by rw [HXV.out.2.1]))
   have HC2 : Hid (w1.cell? ⟨g, 2, none⟩ = some (.int .i64 x2)) := Lib.hid ((own_at hq.out.1 (t := 2) (by rw [HX.out.1]; decide)).trans (by rw [HXV.out.2.2]))
   have HCL : Hid (∀ W, Below w1.heap.size w1 W → Calls Tryd.prog 30 #[.pointer (some ⟨bl, 0, none⟩), .int .i64 x0, .int .i64 x1, .int .i64 x2] W (CreditRes W bl col l x0 x1 x2)) := Lib.hid fun W hW =>
    credit_any bl col m l x0 x1 x2 W ((HL.out.below HB2.out).below hW) HI.out.1 HI.out.2.1 ((HI.out.2.2.1.below HB2.out).below hW) HXI.out.1.1 HXI.out.1.2 HXI.out.2.2.2
   go_wp2_with fail
   have hbl0 : Below w1.heap.size w1 w1.drew := (Below.refl _ _).drew
   have hv0 : Keep (fun q => col q ≠ 0) w1 w1.drew := Keep.of_below (Below.refl _ _).drew
   refine wp_region_held_drew (S := fun W => Keep (fun q => col q ≠ 0) w1 W) (by kernel_rfl) (hv0) (fun hHeld => ?_)
   obtain ⟨wd, hwd⟩ : ∃ x, w1.drew = x := ⟨_, rfl⟩
   rw [hwd] at hv0 hHeld hbl0 ⊢
   clear hwd
   refine tkH 0 oTp13 ?v0_1 (.inl ⟨by rfl, ?h0_1⟩) ?r0_1
   case h0_1 =>
    intro W hSW
    unfold oTp13
    try dsimp only at hSW
    go_simp
    try with_reducible rfl
   try simp only [oTp13, PT]
   refine tkH 1 oTp14 ?v1_2 (.inl ⟨by rfl, ?h1_2⟩) ?r1_2
   case h1_2 =>
    intro W hSW
    unfold oTp14
    try dsimp only at hSW
    go_simp
    try with_reducible rfl
   try simp only [oTp14, PT]
   refine tkH 2 oTp15 ?v2_3 (.inl ⟨by rfl, ?h2_3⟩) ?r2_3
   case h2_3 =>
    intro W hSW
    unfold oTp15
    try dsimp only at hSW
    go_simp
    try with_reducible rfl
   try simp only [oTp15, PT]
   refine tkH 3 oTp16 ?v3_4 (.inl ⟨by rfl, ?h3_4⟩) ?r3_4
   case h3_4 =>
    intro W hSW
    unfold oTp16
    try dsimp only at hSW
    have hcc : W.cell? ⟨g, 0, none⟩ = some (.int .i64 x0) := (hSW.cell (p := ⟨g, 0, none⟩) HG.out.1 HG.out.2).trans HC0.out
    go_simp
    try with_reducible rfl
   try simp only [oTp16, PT]
   refine tkH 4 oTp17 ?v4_5 (.inl ⟨by rfl, ?h4_5⟩) ?r4_5
   case h4_5 =>
    intro W hSW
    unfold oTp17
    try dsimp only at hSW
    go_simp
    try with_reducible rfl
   try simp only [oTp17, PT]
   refine tkH 5 oTp18 ?v5_6 (.inl ⟨by rfl, ?h5_6⟩) ?r5_6
   case h5_6 =>
    intro W hSW
    unfold oTp18
    try dsimp only at hSW
    go_simp
    try with_reducible rfl
   try simp only [oTp18, PT]
   refine tkH 6 oTp19 ?v6_7 (.inl ⟨by rfl, ?h6_7⟩) ?r6_7
   case h6_7 =>
    intro W hSW
    unfold oTp19
    try dsimp only at hSW
    have hcc : W.cell? ⟨g, 1, none⟩ = some (.int .i64 x1) := (hSW.cell (p := ⟨g, 1, none⟩) HG.out.1 HG.out.2).trans HC1.out
    go_simp
    try with_reducible rfl
   try simp only [oTp19, PT]
   refine tkH 7 oTp20 ?v7_8 (.inl ⟨by rfl, ?h7_8⟩) ?r7_8
   case h7_8 =>
    intro W hSW
    unfold oTp20
    try dsimp only at hSW
    go_simp
    try with_reducible rfl
   try simp only [oTp20, PT]
   refine tkH 8 oTp21 ?v8_9 (.inl ⟨by rfl, ?h8_9⟩) ?r8_9
   case h8_9 =>
    intro W hSW
    unfold oTp21
    try dsimp only at hSW
    go_simp
    try with_reducible rfl
   try simp only [oTp21, PT]
   refine tkH 9 oTp22 ?v9_10 (.inl ⟨by rfl, ?h9_10⟩) ?r9_10
   case h9_10 =>
    intro W hSW
    unfold oTp22
    try dsimp only at hSW
    have hcc : W.cell? ⟨g, 2, none⟩ = some (.int .i64 x2) := (hSW.cell (p := ⟨g, 2, none⟩) HG.out.1 HG.out.2).trans HC2.out
    go_simp
    try with_reducible rfl
   try simp only [oTp22, PT]
   refine rdyH [10] ?_
   refine AllReadyH.cons (o := oTp23) rfl (fun K hK => ?_) AllReadyH.nil
   unfold oTp23
   go_simp
   have hbw : Below w1.heap.size w1 wd := hbl0
   refine (HCL.out _ hbw).mono ?_
   rintro e w50 ⟨rfl, hkp, m', hl5⟩
   have hv50 : Keep (fun q => col q ≠ 0) w1 w50 := (Keep.of_below hbw).trans hkp
   have HF := Lib.hid (And.intro hl5 hkp)
   clear hl5 hkp hbw
   refine hK.out _ _ (hv50) (fun hHeld => ?_)
   clear hK K
   try simp only [PT]
   refine tkH 11 oTp24 ?v11_11 (.inl ⟨by rfl, ?h11_11⟩) ?r11_11
   case h11_11 =>
    intro W hSW
    unfold oTp24
    try dsimp only at hSW
    go_simp
    try with_reducible rfl
   try simp only [oTp24, PT]
   refine wpAnyH_done (by kernel_rfl) ?_ _
   have HVF := Lib.hid hv50
   clear hv50
   go_wp2_with fail
   go_ret
   have hx1 : Bil.doErr l ⟨2, x0, x1, x2, []⟩ = Bil.creditErr l x0 x1 x2 := if_neg (by decide : ¬ (2 : Int) = 1)
   have hx2 : Bil.doSt l ⟨2, x0, x1, x2, []⟩ = Bil.creditSt l x0 x1 x2 := if_neg (by decide : ¬ (2 : Int) = 1)
   refine ⟨col, m', ret_int hx1.symm, ?_, (Keep.of_below HB2.out).trans HVF.out, fun q hq => .inl hq⟩
   unfold Bil.optSt
   dsimp only
   by_cases he0 : Bil.doErr l ⟨2, x0, x1, x2, []⟩ = 0
   ·
    rw [if_pos he0, hx2]; exact HF.out.1
   ·
    rw [if_neg he0]; have h7 := HF.out.1; rw [← hx2, Bil.doSt_err he0] at h7; exact h7
  ·
   have HTK : Hid (Bil.takeR b = none) := Lib.hid (by unfold Bil.takeR; rw [HO.out]; exact if_neg (fun hh => hk0 (by rw [← HK.out, hh]; rfl)))
   have hkg : (0 : Int) < (k : Int) := by omega
   rw [HTK.out]
   clear hk0
   go_enter Tryd.func54, Tryd.ntmps54
   go_wp2_with (go_at_call 55; refine HN.out.mono ?_; rintro e w1 ⟨hb1, hh⟩; (obtain ⟨A1, c1, A2, c2, rfl, hq⟩ : ∃ A1 c1 A2 c2, e = .returned (.tuple #[.slice A1 3 c1, .slice A2 k c2]) ∧ Hid (w1.ownsRow w.heap.size 3 1 (.slice A1 3 c1) 3 (ivs x) ∧ k ≤ c2 ∧ c2 ≤ maxLen ∧ Rd w1 w.heap.size 1 A2 k (bvs r)) := hh.elim (fun hh => by have := hh.1; rw [HO.out] at this; cases this) (fun ⟨l', r', A1, c1, A2, c2, h1, h2, h3, h4, h5, h6⟩ => by
    rw [HO.out] at h1
    have h1 := Option.some.inj h1
    obtain ⟨rfl, rfl⟩ : x = l' ∧ r = r' := ⟨congrArg Prod.fst h1, congrArg Prod.snd h1⟩
    exact ⟨A1, c1, A2, c2, by rw [h2, HK.out], Lib.hid ⟨h3, by rw [HK.out] at h4; exact h4, h5, by rw [HK.out] at h6; exact h6⟩⟩)); (obtain ⟨g, hg⟩ : ∃ g, A1 = some ⟨g, 0, none⟩ := (by obtain ⟨g, cap, hv, _, _⟩ := hq.out.1.form (by omega); injection hv with hA _ _; exact ⟨g, hA⟩)); subst hg; have HB1 := Lib.hid hb1; clear hb1 hh)
   go_ret
   exact XRes.none_ HL.out HB1.out
end Go.Proofs.YtkjomnakolhdcaaDoor
