/- The reference's Weighted of layer 33. Conditions: at most 1000 weights. -/
import Derived.Test.YtfllkaeaanahmaaGreatHeld2
import Derived.Test.YtfllkaeaanahmaaGreatSpl5
namespace Go.Proofs.YtfllkaeaanahmaaGreat.W
set_option linter.unusedVariables false
set_option linter.unusedSimpArgs false
open Go.RowKit
abbrev oSpl60 : Oper := { dst := some 65, op := Op.move (Operand.tmp 12), type := 144, pos := "ref.go:59", after := #[], guard := none }
abbrev oSpl61 : Oper := { dst := some 66, op := Op.move (Operand.tmp 14), type := 3, pos := "ref.go:59", after := #[], guard := none }
abbrev oSpl62 : Oper := { dst := some 67, op := Op.indexAddr 144 (Operand.tmp 65) (Operand.tmp 66), type := 0, pos := "ref.go:59", after := #[{ on := 0, ground := Ground.data }, { on := 1, ground := Ground.data }], guard := none }
abbrev oSpl63 : Oper := { dst := some 68, op := Op.load 4 (Operand.tmp 67), type := 4, pos := "ref.go:59", after := #[{ on := 2, ground := Ground.data }], guard := none }
abbrev oSpl64 : Oper := { dst := some 69, op := Op.unOp UnOp.not 4 (Operand.tmp 68), type := 4, pos := "ref.go:59", after := #[{ on := 3, ground := Ground.data }], guard := none }
abbrev oSpl65 : Oper := { dst := some 70, op := Op.move (Operand.tmp 69), type := 4, pos := "ref.go:59", after := #[{ on := 4, ground := Ground.data }], guard := none }
abbrev oSpl66 : Oper := { dst := some 71, op := Op.move (Operand.tmp 13), type := 3, pos := "ref.go:59", after := #[{ on := 5, ground := Ground.guard }], guard := some (5, true) }
abbrev oSpl67 : Oper := { dst := some 72, op := Op.binOp BinOp.lss 3 (Operand.tmp 71) (Operand.const (Value.int IntKind.i64 0)) 3, type := 4, pos := "ref.go:59", after := #[{ on := 6, ground := Ground.data }, { on := 5, ground := Ground.guard }], guard := some (5, true) }
abbrev oSpl68 : Oper := { dst := some 73, op := Op.move (Operand.tmp 72), type := 4, pos := "ref.go:59", after := #[{ on := 7, ground := Ground.data }, { on := 5, ground := Ground.chain }, { on := 5, ground := Ground.guard }], guard := some (5, true) }
abbrev oSpl69 : Oper := { dst := some 74, op := Op.move (Operand.tmp 0), type := 3, pos := "ref.go:59", after := #[{ on := 8, ground := Ground.guard }], guard := some (8, false) }
abbrev oSpl610 : Oper := { dst := some 75, op := Op.move (Operand.tmp 1), type := 27, pos := "ref.go:59", after := #[{ on := 8, ground := Ground.guard }], guard := some (8, false) }
abbrev oSpl611 : Oper := { dst := some 76, op := Op.move (Operand.tmp 14), type := 3, pos := "ref.go:59", after := #[{ on := 8, ground := Ground.guard }], guard := some (8, false) }
abbrev oSpl612 : Oper := { dst := some 77, op := Op.indexAddr 27 (Operand.tmp 75) (Operand.tmp 76), type := 0, pos := "ref.go:59", after := #[{ on := 10, ground := Ground.data }, { on := 11, ground := Ground.data }, { on := 8, ground := Ground.guard }], guard := some (8, false) }
abbrev oSpl613 : Oper := { dst := some 78, op := Op.load 3 (Operand.tmp 77), type := 3, pos := "ref.go:59", after := #[{ on := 12, ground := Ground.data }, { on := 8, ground := Ground.guard }], guard := some (8, false) }
abbrev oSpl614 : Oper := { dst := some 79, op := Op.binOp BinOp.mul 3 (Operand.tmp 74) (Operand.tmp 78) 3, type := 3, pos := "ref.go:59", after := #[{ on := 9, ground := Ground.data }, { on := 13, ground := Ground.data }, { on := 8, ground := Ground.guard }], guard := some (8, false) }
abbrev oSpl615 : Oper := { dst := some 80, op := Op.move (Operand.tmp 6), type := 3, pos := "ref.go:59", after := #[{ on := 8, ground := Ground.guard }], guard := some (8, false) }
abbrev oSpl616 : Oper := { dst := some 81, op := Op.binOp BinOp.rem 3 (Operand.tmp 79) (Operand.tmp 80) 3, type := 3, pos := "ref.go:59", after := #[{ on := 14, ground := Ground.data }, { on := 15, ground := Ground.data }, { on := 8, ground := Ground.guard }], guard := some (8, false) }
abbrev oSpl617 : Oper := { dst := some 82, op := Op.move (Operand.tmp 0), type := 3, pos := "ref.go:59", after := #[{ on := 8, ground := Ground.guard }], guard := some (8, false) }
abbrev oSpl618 : Oper := { dst := some 83, op := Op.move (Operand.tmp 1), type := 27, pos := "ref.go:59", after := #[{ on := 8, ground := Ground.guard }], guard := some (8, false) }
abbrev oSpl619 : Oper := { dst := some 84, op := Op.move (Operand.tmp 13), type := 3, pos := "ref.go:59", after := #[{ on := 8, ground := Ground.guard }], guard := some (8, false) }
abbrev oSpl620 : Oper := { dst := some 85, op := Op.indexAddr 27 (Operand.tmp 83) (Operand.tmp 84), type := 0, pos := "ref.go:59", after := #[{ on := 18, ground := Ground.data }, { on := 19, ground := Ground.data }, { on := 8, ground := Ground.guard }], guard := some (8, false) }
abbrev oSpl621 : Oper := { dst := some 86, op := Op.load 3 (Operand.tmp 85), type := 3, pos := "ref.go:59", after := #[{ on := 20, ground := Ground.data }, { on := 8, ground := Ground.guard }], guard := some (8, false) }
abbrev oSpl622 : Oper := { dst := some 87, op := Op.binOp BinOp.mul 3 (Operand.tmp 82) (Operand.tmp 86) 3, type := 3, pos := "ref.go:59", after := #[{ on := 17, ground := Ground.data }, { on := 21, ground := Ground.data }, { on := 8, ground := Ground.guard }], guard := some (8, false) }
abbrev oSpl623 : Oper := { dst := some 88, op := Op.move (Operand.tmp 6), type := 3, pos := "ref.go:59", after := #[{ on := 8, ground := Ground.guard }], guard := some (8, false) }
abbrev oSpl624 : Oper := { dst := some 89, op := Op.binOp BinOp.rem 3 (Operand.tmp 87) (Operand.tmp 88) 3, type := 3, pos := "ref.go:59", after := #[{ on := 22, ground := Ground.data }, { on := 23, ground := Ground.data }, { on := 8, ground := Ground.guard }], guard := some (8, false) }
abbrev oSpl625 : Oper := { dst := some 90, op := Op.binOp BinOp.gtr 3 (Operand.tmp 81) (Operand.tmp 89) 3, type := 4, pos := "ref.go:59", after := #[{ on := 16, ground := Ground.data }, { on := 24, ground := Ground.data }, { on := 8, ground := Ground.guard }], guard := some (8, false) }
abbrev oSpl626 : Oper := { dst := some 91, op := Op.pick (Operand.tmp 73) (Operand.const (Value.bool true)) (Operand.tmp 90), type := 4, pos := "ref.go:59", after := #[{ on := 8, ground := Ground.data }, { on := 25, ground := Ground.data }, { on := 5, ground := Ground.guard }], guard := some (5, true) }
abbrev oSpl627 : Oper := { dst := some 92, op := Op.pick (Operand.tmp 70) (Operand.tmp 91) (Operand.const (Value.bool false)), type := 4, pos := "ref.go:59", after := #[{ on := 5, ground := Ground.data }, { on := 26, ground := Ground.data }], guard := none }
theorem boolT : ElemT Tryz.prog 144 4 (.bool false) 1 1 := ⟨Tryz.underlying144, by kernel_rfl, rfl, by decide, by decide⟩
theorem mkFalse (n : Nat) (hn : n ≤ 1000) : ∃ M : Array Value, (∀ t, t < n → M[t]? = some (.bool false)) ∧ ∀ W : World, (Instr.makeSlice 144 (.int .i64 (n : Int)) (.int .i64 (n : Int))).run Tryz.prog W = .ok (.slice (some ⟨W.heap.size, 0, none⟩) n n) (W.alloc (.cells M 4)) := by
 have hi := boolT.info
 cases h : Tryz.prog.info? 4 with
 | none => rw [h] at hi; simp at hi
 | some i =>
  rw [h] at hi
  simp only [Option.map_some, Option.some.injEq, Prod.mk.injEq] at hi
  obtain ⟨hz, hs, hb⟩ := hi
  refine ⟨madeCells (Value.bool false).cells ((n : Int).toNat * i.size), fun t ht => ?_, fun W => ?_⟩
  ·
   have hc : (Value.bool false).cells = #[.bool false] := rfl
   rw [hs, hc]; simp [madeCells, ht, Nat.mod_one]
  ·
   have := run_make (P := Tryz.prog) W 144 4 i (.bool false) Tryz.underlying144 h hz .i64 .i64 n n (by omega) (Int.le_refl _) (by rw [hb]; omega) (by omega)
   simpa using this
theorem new_falses {w w' : World} {M : Array Value} {ty : TypeId} {n : Nat} {v : Value} (h : w.alloc (.cells M ty) = w') (hM : ∀ t, t < n → M[t]? = some v) : (∀ t, t < n → w'.cell? ⟨w.heap.size, t, none⟩ = some v) ∧ (∀ t, w'.frozen? ⟨w.heap.size, t, none⟩ = false) ∧ w.heap.size < w'.heap.size ∧ Below w.heap.size w w' := by
 subst h
 refine ⟨fun t ht => ?_, fun t => ?_, by rw [alloc_size1]; omega, (Below.refl _ _).alloc (Nat.le_refl _) _⟩
 ·
  rw [cell_of_row _ _ _ _ _ _ (heap_alloc_new w _)]; exact hM t ht
 ·
  exact World.frozen?_alloc_new _ _ _ _
set_option maxRecDepth 100000 in
set_option maxHeartbeats 1600000 in
theorem refWeighted_bad (T : Int) (A : Option Addr) (n c : Nat) (ws : List Int) (hl : ws.length = n) (hn : n ≤ 1000) (B : Nat) (w : World) (hr : Rd w B 1 A n (ivs ws)) (hbad : T < 0 ∨ 2147483647 < T ∨ ¬ OkTo ws n ∨ Spl.sumTo (wOf ws) n = 0) :
  Calls Tryz.prog 53 #[.int .i64 T, .slice A n c] w fun e w' => e = .returned (.tuple #[.slice none 0 0, .int .i64 1]) ∧ Below w.heap.size w w' := by
 have HS := Lib.hid (refSum_any A n c ws hl hn B w hr)
 have HBAD := Lib.hid hbad
 clear hr hbad
 go_enter Tryz.func53, Tryz.ntmps53
 go_wp2_with fail
 refine HS.out.mono ?_
 rintro e w1 ⟨hR, hw1⟩
 rw [hw1]
 clear hw1 w1
 rcases hR with ⟨rfl, h1, h2, h3⟩ | ⟨x, rfl, _⟩
 ·
  have hT : T < 0 ∨ 2147483647 < T := by
   rcases HBAD.out with h | h | h | h
   ·
    exact Or.inl h
   ·
    exact Or.inr h
   ·
    exact absurd h1 h
   ·
    omega
  clear h1 h2 h3
  by_cases t0 : T < 0
  ·
   clear hT
   go_wp2_with fail
   go_ret2
   exact ⟨rfl, Below.refl _ _⟩
  ·
   have t1 : 2147483647 < T := by omega
   clear hT
   go_wp2_with fail
   go_ret2
   exact ⟨rfl, Below.refl _ _⟩
 ·
  go_wp2_with fail
  go_ret2
  exact ⟨rfl, Below.refl _ _⟩
theorem FRow.of_own {w : World} {base n c : Nat} {A : Option Addr} {d : Nat → Int} (h : w.ownsRow base 3 1 (.slice A n c) n (ivs (rowL n d))) (h0 : 0 < n) : ∃ g, A = some ⟨g, 0, none⟩ ∧ base ≤ g ∧ FRow w g n d := by
 obtain ⟨g, cap, hv, hb, hlt⟩ := h.form h0
 have hA : A = some ⟨g, 0, none⟩ := by injection hv
 subst hA
 refine ⟨g, rfl, hb, hlt, fun t ht => ?_, fun t _ => h.frozenAt t⟩
 have := h.cells (g := g) rfl t (.int .i64 (d t)) (by simp [ivs, rowL, ht])
 rwa [Addr.add_lit, Nat.zero_add] at this
def BestIs (key : Nat → Int) (p : Nat → Nat) (s i : Nat) (bv : Int) : Prop := (bv = -1 ∧ ∀ x, x < i → Spl.Fst p s x) ∨ ∃ b : Nat, bv = (b : Int) ∧ b < i ∧ ¬ Spl.Fst p s b ∧ ∀ x, x < i → ¬ Spl.Fst p s x → x ≠ b → Spl.Bef key b x
theorem best_given {key : Nat → Int} {p : Nat → Nat} {s i : Nat} {bv : Int} (h : BestIs key p s i bv) (hf : Spl.Fst p s i) : BestIs key p s (i + 1) bv := by
 rcases h with ⟨h1, h2⟩ | ⟨b, h1, h2, h3, h4⟩
 ·
  refine Or.inl ⟨h1, fun x hx => ?_⟩
  by_cases e : x = i
  ·
   subst e; exact hf
  ·
   exact h2 x (by omega)
 ·
  refine Or.inr ⟨b, h1, by omega, h3, fun x hx hn hne => ?_⟩
  by_cases e : x = i
  ·
   subst e; exact absurd hf hn
  ·
   exact h4 x (by omega) hn hne
theorem best_first {key : Nat → Int} {p : Nat → Nat} {s i : Nat} (h : ∀ x, x < i → Spl.Fst p s x) (hf : ¬ Spl.Fst p s i) : BestIs key p s (i + 1) (i : Int) := by
 refine Or.inr ⟨i, rfl, by omega, hf, fun x hx hn hne => ?_⟩
 exact absurd (h x (by omega)) hn
theorem best_new {key : Nat → Int} {p : Nat → Nat} {s i b : Nat} (h2 : b < i) (h3 : ¬ Spl.Fst p s b) (h4 : ∀ x, x < i → ¬ Spl.Fst p s x → x ≠ b → Spl.Bef key b x) (hf : ¬ Spl.Fst p s i) (hk : key b < key i) : BestIs key p s (i + 1) (i : Int) := by
 refine Or.inr ⟨i, rfl, by omega, hf, fun x hx hn hne => ?_⟩
 by_cases e : x = b
 ·
  subst e; exact Or.inl hk
 ·
  have := h4 x (by omega) hn e
  unfold Spl.Bef at *
  omega
theorem best_old {key : Nat → Int} {p : Nat → Nat} {s i b : Nat} (h2 : b < i) (h3 : ¬ Spl.Fst p s b) (h4 : ∀ x, x < i → ¬ Spl.Fst p s x → x ≠ b → Spl.Bef key b x) (hk : ¬ key b < key i) : BestIs key p s (i + 1) (b : Int) := by
 refine Or.inr ⟨b, rfl, by omega, h3, fun x hx hn hne => ?_⟩
 by_cases e : x = i
 ·
  subst e
  unfold Spl.Bef
  omega
 ·
  exact h4 x (by omega) hn hne
theorem best_end {key : Nat → Int} {p : Nat → Nat} {s n : Nat} {bv : Int} (O : Spl.Ordr key n p) (hs : s < n) (h : BestIs key p s n bv) : bv = (p s : Int) := by
 rcases h with ⟨_, h2⟩ | ⟨b, h1, h2, h3, h4⟩
 ·
  exact absurd (h2 (p s) (O.lt s hs)) (Spl.fst_new O hs)
 ·
  rw [h1, Spl.next_is O hs h2 h3 fun x hx hn hne => h4 x hx hn hne]
def RWNew (T : Int) (ws : List Int) (n : Nat) (p : Nat → Nat) (k : Nat) (w : World) (e : Ending) (w' : World) : Prop := ∃ g c, e = .returned (.tuple #[.slice (some ⟨g, 0, none⟩) n c, .int .i64 0]) ∧ w.heap.size ≤ g ∧ Rd w' w'.heap.size 1 (some ⟨g, 0, none⟩) n (ivs (rowL n (shOf T ws n p k))) ∧ Below w.heap.size w w'
set_option maxRecDepth 100000 in
set_option maxHeartbeats 8000000 in
theorem refWeighted_new (T : Int) (A : Option Addr) (n c : Nat) (ws : List Int) (hl : ws.length = n) (hn : n ≤ 1000) (B : Nat) (w : World) (hr : Rd w B 1 A n (ivs ws)) (hB : B ≤ w.heap.size) (hv : 0 ≤ T ∧ T ≤ 2147483647 ∧ OkTo ws n ∧ Spl.sumTo (wOf ws) n ≠ 0)
  (p : Nat → Nat) (k : Nat) (O : Spl.Ordr (fun t => T * ws.getD t 0 % Spl.sumTo (wOf ws) n) n p) (hk : (k : Int) = T - Spl.sumTo (baseOf T (Spl.sumTo (wOf ws) n) ws) n) (hkn : k ≤ n) :
  Calls Tryz.prog 53 #[.int .i64 T, .slice A n c] w (RWNew T ws n p k w) := by
 have HSUM := Lib.hid (refSum_any A n c ws hl hn B w hr)
 have hsp := val_pos hv
 have hvw := vw_of (T := T) hl hv.1 hv.2.1 hv.2.2.1 hsp.1 hsp.2
 have HSH : Hid (∀ t, shOf T ws n p k t = (Spl.bump p (baseL T (Spl.sumTo (wOf ws) n) ws n) k).getD t 0) := Lib.hid fun _ => rfl
 have hn0 : 0 < n := by
  rcases Nat.eq_zero_or_pos n with h | h
  ·
   subst h; have : Spl.sumTo (wOf ws) 0 = 0 := rfl; omega
  ·
   exact h
 have HRS : Hid (∀ e, RSum ws n e → e = .returned (.tuple #[.int .i64 (Spl.sumTo (wOf ws) n), .bool true])) := Lib.hid fun e h => by
  rcases h with ⟨h1, _⟩ | ⟨x, _, h1⟩
  ·
   exact h1
  ·
   rcases h1 with h1 | h1
   ·
    exact absurd hv.2.2.1 h1
   ·
    exact absurd h1 hv.2.2.2
 obtain ⟨S, hS⟩ : ∃ S, Spl.sumTo (wOf ws) n = S := ⟨_, rfl⟩
 rw [hS] at hsp hvw HSH HRS O hk
 obtain ⟨s0, s1⟩ := hsp
 have HVW := Lib.hid hvw.1
 have HBS := Lib.hid hvw.2
 have HO := Lib.hid O
 have HK := Lib.hid hk
 have HL := Lib.hid hl
 have HR := Lib.hid hr
 obtain ⟨t0, t1, _, _⟩ := hv
 have n1 : ¬ T < 0 := by omega
 have n2 : ¬ 2147483647 < T := by omega
 have es : (S == 0) = false := by rw [beq_eq_false_iff_ne]; omega
 have es' : ¬ S = 0 := by omega
 obtain ⟨M, hM, hmk⟩ := mkFalse n hn
 have HM := Lib.hid hM
 clear hr hvw O hk hl hM hS
 go_enter Tryz.func53, Tryz.ntmps53
 go_wp2_with fail
 refine HSUM.out.mono ?_
 rintro e w1 ⟨hR, hw1⟩
 rw [hw1]
 have he := HRS.out _ hR
 subst he
 clear hw1 w1 hR
 go_wp2_with fail
 go_loopw [8, 9, 10] (fun u8 u9 u10 wr => ∃ (i : Nat) (AP : Option Addr) (cp : Nat), i ≤ n ∧ u8 = .slice AP i cp ∧ u9 = .int .i64 (T - Spl.sumTo (baseOf T S ws) i) ∧ u10 = .int .i64 i ∧ Hid (wr.ownsRow w.heap.size 3 1 (.slice AP i cp) i (ivs (rowL i (baseOf T S ws)))) ∧ Below w.heap.size w wr) (fun _ _ u10 _ => n - (intOf u10).toNat)
 case atStart => exact ⟨0, none, 0, Nat.zero_le _, rfl, by simp [Spl.sumTo], rfl, World.ownsRow_nil _ _ _ _, Below.refl _ _⟩
 case round =>
  obtain ⟨i, AP, cp, hi, rfl, rfl, rfl, HOW, hbr⟩ := hrel
  by_cases hlt : i < n
  ·
   obtain ⟨b, off, rfl, _, hc⟩ := (HR.out.below (hbr.mono hB)).int HL.out hn0
   have hci := hc i hlt
   have hmx := HVW.out.mul i
   have hb1 := HBS.out i
   have hbk : baseOf T S ws i = T * ws.getD i 0 / S := rfl
   have hsu : Spl.sumTo (baseOf T S ws) (i + 1) = Spl.sumTo (baseOf T S ws) i + baseOf T S ws i := rfl
   have hsb := Spl.sum_bound (f := baseOf T S ws) (n := i) (b := T) fun t _ => HBS.out t
   have hkT : (i : Int) * T ≤ 1000 * 2147483647 := Int.le_trans (Int.mul_le_mul_of_nonneg_right (by omega) t0) (Int.mul_le_mul_of_nonneg_left t1 (by decide))
   have hsucc : rowL (i + 1) (baseOf T S ws) = rowL i (baseOf T S ws) ++ [baseOf T S ws i] := by simp [rowL, List.range_succ]
   obtain ⟨x, hx⟩ : ∃ x, ws.getD i 0 = x := ⟨_, rfl⟩
   obtain ⟨bk, hbk'⟩ : ∃ x, baseOf T S ws i = x := ⟨_, rfl⟩
   obtain ⟨lv, hlv⟩ : ∃ x, Spl.sumTo (baseOf T S ws) i = x := ⟨_, rfl⟩
   rw [hx] at hci hmx hbk
   rw [hbk'] at hb1 hbk hsu hsucc
   rw [hlv] at hsu hsb ⊢
   have m1 : IntKind.i64.wrap (T * x) = T * x := IntWalk.i64_in _ (by omega)
   obtain ⟨px, hpx⟩ : ∃ q, T * x = q := ⟨_, rfl⟩
   rw [hpx] at m1 hmx hbk
   have tq : px.tdiv S = bk := by rw [Int.tdiv_eq_ediv_of_nonneg hmx.1]; exact hbk.symm
   have m2 : IntKind.i64.wrap bk = bk := IntWalk.i64_in _ (by omega)
   have m3 : IntKind.i64.wrap (T - lv - bk) = T - lv - bk := IntWalk.i64_in _ (by omega)
   have i0 : (0 : Int) ≤ (i : Int) := by omega
   have i1 : (i : Int) < (n : Int) := by omega
   have own1 := HOW.out
   have hsz := hbr.size
   have HSU := Lib.hid hsu
   have HSC := Lib.hid hsucc
   clear hc hmx hb1 hbk hsu hsb hkT hx hbk' hlv hsucc
   go_wp2_with (first
    | (at_builtin; refine wpList_app1 rfl (.tmp 45) (.tmp 47) 27 rfl w.heap.size 3 _ 8 intT AP i cp _ _ rfl rfl own1 hbr rfl (by omega) (Nat.le_refl _) hsz ?_; intro g7 c7 w7 own7 hbel7 hg7)
    | fail)
   go_roundw
   case rel => exact ⟨i + 1, _, c7, by omega, rfl, by have h := HSU.out; first | (rw [h]; done) | (rw [h]; congr 1; omega) | (rw [h]; congr 1), by go_num, by rw [HSC.out]; unfold Hid; simpa [ivs] using own7, hbel7⟩
   case measure => simp [intOf]; omega
  ·
   obtain rfl : i = n := by omega
   obtain ⟨gO, rfl, hgO, FO⟩ := FRow.of_own HOW.out hn0
   rw [← HK.out]
   have HBR := Lib.hid hbr
   have HFO := Lib.hid FO
   clear hbr FO HOW
   go_upto_region 13 with fail
   obtain ⟨w2, hw2⟩ : ∃ x, wr.alloc (.cells M 4) = x := ⟨_, rfl⟩
   rw [hw2]
   obtain ⟨cb, fb, zb, b2⟩ := new_falses (n := i) (v := .bool false) hw2 HM.out
   have FO2 := HFO.out.below b2
   have hgOlt := HFO.out.lt
   have HB2 := Lib.hid (HBR.out.trans (b2.mono HBR.out.size))
   obtain ⟨gb, hgb⟩ : ∃ x, wr.heap.size = x := ⟨_, rfl⟩
   have hwgb : w.heap.size ≤ gb := by rw [← hgb]; exact HBR.out.size
   rw [hgb] at cb fb zb hgOlt ⊢
   have hne : gO ≠ gb := by omega
   have HCB := Lib.hid cb
   have HFB := Lib.hid fb
   have HFO2 := Lib.hid FO2
   clear hw2 cb fb b2 FO2 hgb hmk
   go_loopw [9] (fun u9 wy => ∃ (wq : World) (l s : Nat), wq = wy ∧ Hid (s + l = k) ∧ u9 = .int .i64 (l : Int) ∧ Hid (FRow wq gO i (fun t => (Spl.bump p (baseL T S ws i) s).getD t 0)) ∧ Hid (∀ t, t < i → wq.cell? ⟨gb, t, none⟩ = some (.bool (decide (Spl.Fst p s t)))) ∧ Hid (∀ t, wq.frozen? ⟨gb, t, none⟩ = false) ∧ gb < wq.heap.size ∧ Below w.heap.size w wq) (fun u9 _ => (intOf u9).toNat)
   case atStart => exact ⟨_, k, 0, rfl, by show 0 + k = k; omega, rfl, HFO2.out.congr fun t ht => baseL_get T S ws ht, fun t ht => by rw [HCB.out t ht, decide_eq_false (show ¬ Spl.Fst p 0 t from fun ⟨q, hq, _⟩ => by omega)], HFB.out, zb, HB2.out⟩
   case round =>
    obtain ⟨wq, l, s, rfl, HSL, rfl, HFq, HGq, HZq, hzq, hbq⟩ := hrel
    have HBQ := Lib.hid hbq
    by_cases hl0 : 0 < l
    ·
     have l0 : (0 : Int) < (l : Int) := by omega
     have hsi : s < i := by have := HSL.out; omega
     have HSI := Lib.hid hsi
     clear hbq hsi
     go_wp2_with fail
     go_loopw [13, 14] (fun u13 u14 wz => ∃ (wv : World) (j : Nat) (bv : Int), wv = wz ∧ j ≤ i ∧ u13 = .int .i64 bv ∧ u14 = .int .i64 j ∧ Hid (BestIs (fun t => T * ws.getD t 0 % S) p s j bv) ∧ Below wq.heap.size wq wv) (fun _ u14 _ => i - (intOf u14).toNat)
     case atStart => exact ⟨_, 0, -1, rfl, Nat.zero_le _, rfl, rfl, Or.inl ⟨rfl, fun x hx => by omega⟩, Below.refl _ _⟩
     case round =>
      obtain ⟨wv, j, bv, rfl, hj, rfl, rfl, HBI, hbv⟩ := hrel
      have HBV := Lib.hid hbv
      by_cases hlt3 : j < i
      ·
       obtain ⟨b, off, rfl, hbb, hc⟩ := (HR.out.below ((HBQ.out.trans (hbv.mono HBQ.out.size)).mono hB)).int HL.out hn0
       have hcj := hc j hlt3
       have hmj := HVW.out.mul j
       have hG := (hbv.cell (p := ⟨gb, j, none⟩) hzq).trans (HGq.out j hlt3)
       have HBBV := Lib.hid (Nat.lt_of_lt_of_le hbb (Nat.le_trans hB (Nat.le_trans HBQ.out.size hbv.size)))
       have HGBV := Lib.hid (Nat.lt_of_lt_of_le hzq hbv.size)
       have HCC := Lib.hid hc
       obtain ⟨gv, hgv⟩ : ∃ v, decide (Spl.Fst p s j) = v := ⟨_, rfl⟩
       rw [hgv] at hG
       have HGV := Lib.hid hG
       have HGD := Lib.hid hgv
       have hkj : (fun t => T * ws.getD t 0 % S) j = T * ws.getD j 0 % S := rfl
       obtain ⟨x, hx⟩ : ∃ x, ws.getD j 0 = x := ⟨_, rfl⟩
       rw [hx] at hcj hmj hkj
       have m1 : IntKind.i64.wrap (T * x) = T * x := IntWalk.i64_in _ (by omega)
       have hr0 := Int.emod_nonneg (T * x) (show S ≠ 0 by omega)
       have hr1 := Int.emod_lt_of_pos (T * x) s0
       obtain ⟨px, hpx⟩ : ∃ q, T * x = q := ⟨_, rfl⟩
       rw [hpx] at m1 hmj hr0 hr1 hkj
       obtain ⟨rx, hrx⟩ : ∃ q, px % S = q := ⟨_, rfl⟩
       rw [hrx] at hr0 hr1 hkj
       have tx : px.tmod S = rx := by rw [Int.tmod_eq_emod_of_nonneg hmj.1]; exact hrx
       have m2 : IntKind.i64.wrap rx = rx := IntWalk.i64_in _ (by omega)
       have HX := Lib.hid hcj
       have HKJ := Lib.hid hkj
       have i0 : (0 : Int) ≤ (j : Int) := by omega
       have i1 : (j : Int) < (i : Int) := by omega
       clear hc hG hgv hcj hmj hx hr0 hr1 hrx hkj hbb hbv
       cases gv with
       | true =>
        have HN := Lib.hid (best_given HBI.out (of_decide_eq_true HGD.out))
        go_wp2_with fail
        have hv0 : Below wv.heap.size wv wv.drew := (Below.refl _ _).drew
        refine wp_region_held_drew (S := fun W => Below wv.heap.size wv W) (by kernel_rfl) (hv0) (fun hHeld => ?_)
        refine tkH 0 oSpl60 ?v0_1001 (.inl ⟨by rfl, ?h0_1001⟩) ?r0_1001
        case h0_1001 =>
         intro W hSW
         unfold oSpl60
         try dsimp only at hSW
         go_simp
         try with_reducible rfl
        try simp only [oSpl60, PT]
        refine tkH 1 oSpl61 ?v1_1002 (.inl ⟨by rfl, ?h1_1002⟩) ?r1_1002
        case h1_1002 =>
         intro W hSW
         unfold oSpl61
         try dsimp only at hSW
         go_simp
         try with_reducible rfl
        try simp only [oSpl61, PT]
        refine tkH 2 oSpl62 ?v2_1003 (.inl ⟨by rfl, ?h2_1003⟩) ?r2_1003
        case h2_1003 =>
         intro W hSW
         unfold oSpl62
         try dsimp only at hSW
         go_simp
         try with_reducible rfl
        try simp only [oSpl62, PT]
        refine tkH 3 oSpl63 ?v3_1004 (.inl ⟨by rfl, ?h3_1004⟩) ?r3_1004
        case h3_1004 =>
         intro W hSW
         unfold oSpl63
         try dsimp only at hSW
         have hcc := (hSW.cell (p := ⟨gb, j, none⟩) HGBV.out).trans HGV.out
         go_simp
         try with_reducible rfl
        try simp only [oSpl63, PT]
        refine tkH 4 oSpl64 ?v4_1005 (.inl ⟨by rfl, ?h4_1005⟩) ?r4_1005
        case h4_1005 =>
         intro W hSW
         unfold oSpl64
         try dsimp only at hSW
         go_simp
         try with_reducible rfl
        try simp only [oSpl64, PT]
        refine tkH 5 oSpl65 ?v5_1006 (.inl ⟨by rfl, ?h5_1006⟩) ?r5_1006
        case h5_1006 =>
         intro W hSW
         unfold oSpl65
         try dsimp only at hSW
         go_simp
         try with_reducible rfl
        try simp only [oSpl65, PT]
        refine tkH 6 oSpl66 undef (.inr ⟨by rfl, rfl⟩) ?_
        try simp only [oSpl66, PT]
        refine tkH 7 oSpl67 undef (.inr ⟨by rfl, rfl⟩) ?_
        try simp only [oSpl67, PT]
        refine tkH 8 oSpl68 undef (.inr ⟨by rfl, rfl⟩) ?_
        try simp only [oSpl68, PT]
        refine tkH 9 oSpl69 undef (.inr ⟨by rfl, rfl⟩) ?_
        try simp only [oSpl69, PT]
        refine tkH 10 oSpl610 undef (.inr ⟨by rfl, rfl⟩) ?_
        try simp only [oSpl610, PT]
        refine tkH 11 oSpl611 undef (.inr ⟨by rfl, rfl⟩) ?_
        try simp only [oSpl611, PT]
        refine tkH 12 oSpl612 undef (.inr ⟨by rfl, rfl⟩) ?_
        try simp only [oSpl612, PT]
        refine tkH 13 oSpl613 undef (.inr ⟨by rfl, rfl⟩) ?_
        try simp only [oSpl613, PT]
        refine tkH 14 oSpl614 undef (.inr ⟨by rfl, rfl⟩) ?_
        try simp only [oSpl614, PT]
        refine tkH 15 oSpl615 undef (.inr ⟨by rfl, rfl⟩) ?_
        try simp only [oSpl615, PT]
        refine tkH 16 oSpl616 undef (.inr ⟨by rfl, rfl⟩) ?_
        try simp only [oSpl616, PT]
        refine tkH 17 oSpl617 undef (.inr ⟨by rfl, rfl⟩) ?_
        try simp only [oSpl617, PT]
        refine tkH 18 oSpl618 undef (.inr ⟨by rfl, rfl⟩) ?_
        try simp only [oSpl618, PT]
        refine tkH 19 oSpl619 undef (.inr ⟨by rfl, rfl⟩) ?_
        try simp only [oSpl619, PT]
        refine tkH 20 oSpl620 undef (.inr ⟨by rfl, rfl⟩) ?_
        try simp only [oSpl620, PT]
        refine tkH 21 oSpl621 undef (.inr ⟨by rfl, rfl⟩) ?_
        try simp only [oSpl621, PT]
        refine tkH 22 oSpl622 undef (.inr ⟨by rfl, rfl⟩) ?_
        try simp only [oSpl622, PT]
        refine tkH 23 oSpl623 undef (.inr ⟨by rfl, rfl⟩) ?_
        try simp only [oSpl623, PT]
        refine tkH 24 oSpl624 undef (.inr ⟨by rfl, rfl⟩) ?_
        try simp only [oSpl624, PT]
        refine tkH 25 oSpl625 undef (.inr ⟨by rfl, rfl⟩) ?_
        try simp only [oSpl625, PT]
        refine tkH 26 oSpl626 undef (.inr ⟨by rfl, rfl⟩) ?_
        try simp only [oSpl626, PT]
        refine tkH 27 oSpl627 ?v27_1028 (.inl ⟨by rfl, ?h27_1028⟩) ?r27_1028
        case h27_1028 =>
         intro W hSW
         unfold oSpl627
         try dsimp only at hSW
         go_simp
         try with_reducible rfl
        try simp only [oSpl627, PT]
        refine wpAnyH_done (by kernel_rfl) ?_ _
        go_wp2_with fail
        go_roundw
        case rel => exact ⟨_, j + 1, bv, rfl, by omega, by first | rfl | go_num, by go_num, HN.out, HBV.out.trans (hv0.mono HBV.out.size)⟩
        case measure => simp [intOf]; omega
       | false =>
       have HNF := Lib.hid (of_decide_eq_false HGD.out)
       rcases HBI.out with ⟨hb0, hall⟩ | ⟨b', hb0, hb2, hb3, hb4⟩
       ·
        subst hb0
        have HN := Lib.hid (best_first (key := fun t => T * ws.getD t 0 % S) hall HNF.out)
        clear hall
        go_wp2_with fail
        have hv0 : Below wv.heap.size wv wv.drew := (Below.refl _ _).drew
        refine wp_region_held_drew (S := fun W => Below wv.heap.size wv W) (by kernel_rfl) (hv0) (fun hHeld => ?_)
        refine tkH 0 oSpl60 ?v0_2001 (.inl ⟨by rfl, ?h0_2001⟩) ?r0_2001
        case h0_2001 =>
         intro W hSW
         unfold oSpl60
         try dsimp only at hSW
         go_simp
         try with_reducible rfl
        try simp only [oSpl60, PT]
        refine tkH 1 oSpl61 ?v1_2002 (.inl ⟨by rfl, ?h1_2002⟩) ?r1_2002
        case h1_2002 =>
         intro W hSW
         unfold oSpl61
         try dsimp only at hSW
         go_simp
         try with_reducible rfl
        try simp only [oSpl61, PT]
        refine tkH 2 oSpl62 ?v2_2003 (.inl ⟨by rfl, ?h2_2003⟩) ?r2_2003
        case h2_2003 =>
         intro W hSW
         unfold oSpl62
         try dsimp only at hSW
         go_simp
         try with_reducible rfl
        try simp only [oSpl62, PT]
        refine tkH 3 oSpl63 ?v3_2004 (.inl ⟨by rfl, ?h3_2004⟩) ?r3_2004
        case h3_2004 =>
         intro W hSW
         unfold oSpl63
         try dsimp only at hSW
         have hcc := (hSW.cell (p := ⟨gb, j, none⟩) HGBV.out).trans HGV.out
         go_simp
         try with_reducible rfl
        try simp only [oSpl63, PT]
        refine tkH 4 oSpl64 ?v4_2005 (.inl ⟨by rfl, ?h4_2005⟩) ?r4_2005
        case h4_2005 =>
         intro W hSW
         unfold oSpl64
         try dsimp only at hSW
         go_simp
         try with_reducible rfl
        try simp only [oSpl64, PT]
        refine tkH 5 oSpl65 ?v5_2006 (.inl ⟨by rfl, ?h5_2006⟩) ?r5_2006
        case h5_2006 =>
         intro W hSW
         unfold oSpl65
         try dsimp only at hSW
         go_simp
         try with_reducible rfl
        try simp only [oSpl65, PT]
        refine tkH 6 oSpl66 ?v6_2007 (.inl ⟨by rfl, ?h6_2007⟩) ?r6_2007
        case h6_2007 =>
         intro W hSW
         unfold oSpl66
         try dsimp only at hSW
         go_simp
         try with_reducible rfl
        try simp only [oSpl66, PT]
        refine tkH 7 oSpl67 ?v7_2008 (.inl ⟨by rfl, ?h7_2008⟩) ?r7_2008
        case h7_2008 =>
         intro W hSW
         unfold oSpl67
         try dsimp only at hSW
         go_simp
         try with_reducible rfl
        try simp only [oSpl67, PT]
        refine tkH 8 oSpl68 ?v8_2009 (.inl ⟨by rfl, ?h8_2009⟩) ?r8_2009
        case h8_2009 =>
         intro W hSW
         unfold oSpl68
         try dsimp only at hSW
         go_simp
         try with_reducible rfl
        try simp only [oSpl68, PT]
        refine tkH 9 oSpl69 undef (.inr ⟨by rfl, rfl⟩) ?_
        try simp only [oSpl69, PT]
        refine tkH 10 oSpl610 undef (.inr ⟨by rfl, rfl⟩) ?_
        try simp only [oSpl610, PT]
        refine tkH 11 oSpl611 undef (.inr ⟨by rfl, rfl⟩) ?_
        try simp only [oSpl611, PT]
        refine tkH 12 oSpl612 undef (.inr ⟨by rfl, rfl⟩) ?_
        try simp only [oSpl612, PT]
        refine tkH 13 oSpl613 undef (.inr ⟨by rfl, rfl⟩) ?_
        try simp only [oSpl613, PT]
        refine tkH 14 oSpl614 undef (.inr ⟨by rfl, rfl⟩) ?_
        try simp only [oSpl614, PT]
        refine tkH 15 oSpl615 undef (.inr ⟨by rfl, rfl⟩) ?_
        try simp only [oSpl615, PT]
        refine tkH 16 oSpl616 undef (.inr ⟨by rfl, rfl⟩) ?_
        try simp only [oSpl616, PT]
        refine tkH 17 oSpl617 undef (.inr ⟨by rfl, rfl⟩) ?_
        try simp only [oSpl617, PT]
        refine tkH 18 oSpl618 undef (.inr ⟨by rfl, rfl⟩) ?_
        try simp only [oSpl618, PT]
        refine tkH 19 oSpl619 undef (.inr ⟨by rfl, rfl⟩) ?_
        try simp only [oSpl619, PT]
        refine tkH 20 oSpl620 undef (.inr ⟨by rfl, rfl⟩) ?_
        try simp only [oSpl620, PT]
        refine tkH 21 oSpl621 undef (.inr ⟨by rfl, rfl⟩) ?_
        try simp only [oSpl621, PT]
        refine tkH 22 oSpl622 undef (.inr ⟨by rfl, rfl⟩) ?_
        try simp only [oSpl622, PT]
        refine tkH 23 oSpl623 undef (.inr ⟨by rfl, rfl⟩) ?_
        try simp only [oSpl623, PT]
        refine tkH 24 oSpl624 undef (.inr ⟨by rfl, rfl⟩) ?_
        try simp only [oSpl624, PT]
        refine tkH 25 oSpl625 undef (.inr ⟨by rfl, rfl⟩) ?_
        try simp only [oSpl625, PT]
        refine tkH 26 oSpl626 ?v26_2027 (.inl ⟨by rfl, ?h26_2027⟩) ?r26_2027
        case h26_2027 =>
         intro W hSW
         unfold oSpl626
         try dsimp only at hSW
         go_simp
         try with_reducible rfl
        try simp only [oSpl626, PT]
        refine tkH 27 oSpl627 ?v27_2028 (.inl ⟨by rfl, ?h27_2028⟩) ?r27_2028
        case h27_2028 =>
         intro W hSW
         unfold oSpl627
         try dsimp only at hSW
         go_simp
         try with_reducible rfl
        try simp only [oSpl627, PT]
        refine wpAnyH_done (by kernel_rfl) ?_ _
        go_wp2_with fail
        go_roundw
        case rel => exact ⟨_, j + 1, (j : Int), rfl, by omega, by first | rfl | go_num, by go_num, HN.out, HBV.out.trans (hv0.mono HBV.out.size)⟩
        case measure => simp [intOf]; omega
       ·
        subst hb0
        have hcb := HCC.out b' (by omega)
        have hmb := HVW.out.mul b'
        have hkb : (fun t => T * ws.getD t 0 % S) b' = T * ws.getD b' 0 % S := rfl
        obtain ⟨y, hy⟩ : ∃ y, ws.getD b' 0 = y := ⟨_, rfl⟩
        rw [hy] at hcb hmb hkb
        have m3 : IntKind.i64.wrap (T * y) = T * y := IntWalk.i64_in _ (by omega)
        have hr0 := Int.emod_nonneg (T * y) (show S ≠ 0 by omega)
        have hr1 := Int.emod_lt_of_pos (T * y) s0
        obtain ⟨py, hpy⟩ : ∃ q, T * y = q := ⟨_, rfl⟩
        rw [hpy] at m3 hmb hr0 hr1 hkb
        obtain ⟨ry, hry⟩ : ∃ q, py % S = q := ⟨_, rfl⟩
        rw [hry] at hr0 hr1 hkb
        have ty : py.tmod S = ry := by rw [Int.tmod_eq_emod_of_nonneg hmb.1]; exact hry
        have m4 : IntKind.i64.wrap ry = ry := IntWalk.i64_in _ (by omega)
        have HY := Lib.hid hcb
        have b0 : (0 : Int) ≤ (b' : Int) := by omega
        have b1 : (b' : Int) < (i : Int) := by omega
        have bn : ¬ ((b' : Int) < 0) := by omega
        by_cases hgt : ry < rx
        ·
         have HN := Lib.hid (best_new (key := fun t => T * ws.getD t 0 % S) hb2 hb3 hb4 HNF.out (by have h := hgt; rw [← hkb, ← HKJ.out] at h; exact h))
         clear hb2 hb3 hb4 hcb hmb hy hr0 hr1 hry hkb
         go_wp2_with fail
         have hv0 : Below wv.heap.size wv wv.drew := (Below.refl _ _).drew
         refine wp_region_held_drew (S := fun W => Below wv.heap.size wv W) (by kernel_rfl) (hv0) (fun hHeld => ?_)
         refine tkH 0 oSpl60 ?v0_3001 (.inl ⟨by rfl, ?h0_3001⟩) ?r0_3001
         case h0_3001 =>
          intro W hSW
          unfold oSpl60
          try dsimp only at hSW
          go_simp
          try with_reducible rfl
         try simp only [oSpl60, PT]
         refine tkH 1 oSpl61 ?v1_3002 (.inl ⟨by rfl, ?h1_3002⟩) ?r1_3002
         case h1_3002 =>
          intro W hSW
          unfold oSpl61
          try dsimp only at hSW
          go_simp
          try with_reducible rfl
         try simp only [oSpl61, PT]
         refine tkH 2 oSpl62 ?v2_3003 (.inl ⟨by rfl, ?h2_3003⟩) ?r2_3003
         case h2_3003 =>
          intro W hSW
          unfold oSpl62
          try dsimp only at hSW
          go_simp
          try with_reducible rfl
         try simp only [oSpl62, PT]
         refine tkH 3 oSpl63 ?v3_3004 (.inl ⟨by rfl, ?h3_3004⟩) ?r3_3004
         case h3_3004 =>
          intro W hSW
          unfold oSpl63
          try dsimp only at hSW
          have hcc := (hSW.cell (p := ⟨gb, j, none⟩) HGBV.out).trans HGV.out
          go_simp
          try with_reducible rfl
         try simp only [oSpl63, PT]
         refine tkH 4 oSpl64 ?v4_3005 (.inl ⟨by rfl, ?h4_3005⟩) ?r4_3005
         case h4_3005 =>
          intro W hSW
          unfold oSpl64
          try dsimp only at hSW
          go_simp
          try with_reducible rfl
         try simp only [oSpl64, PT]
         refine tkH 5 oSpl65 ?v5_3006 (.inl ⟨by rfl, ?h5_3006⟩) ?r5_3006
         case h5_3006 =>
          intro W hSW
          unfold oSpl65
          try dsimp only at hSW
          go_simp
          try with_reducible rfl
         try simp only [oSpl65, PT]
         refine tkH 6 oSpl66 ?v6_3007 (.inl ⟨by rfl, ?h6_3007⟩) ?r6_3007
         case h6_3007 =>
          intro W hSW
          unfold oSpl66
          try dsimp only at hSW
          go_simp
          try with_reducible rfl
         try simp only [oSpl66, PT]
         refine tkH 7 oSpl67 ?v7_3008 (.inl ⟨by rfl, ?h7_3008⟩) ?r7_3008
         case h7_3008 =>
          intro W hSW
          unfold oSpl67
          try dsimp only at hSW
          go_simp
          try with_reducible rfl
         try simp only [oSpl67, PT]
         refine tkH 8 oSpl68 ?v8_3009 (.inl ⟨by rfl, ?h8_3009⟩) ?r8_3009
         case h8_3009 =>
          intro W hSW
          unfold oSpl68
          try dsimp only at hSW
          go_simp
          try with_reducible rfl
         try simp only [oSpl68, PT]
         refine tkH 9 oSpl69 ?v9_3010 (.inl ⟨by rfl, ?h9_3010⟩) ?r9_3010
         case h9_3010 =>
          intro W hSW
          unfold oSpl69
          try dsimp only at hSW
          go_simp
          try with_reducible rfl
         try simp only [oSpl69, PT]
         refine tkH 10 oSpl610 ?v10_3011 (.inl ⟨by rfl, ?h10_3011⟩) ?r10_3011
         case h10_3011 =>
          intro W hSW
          unfold oSpl610
          try dsimp only at hSW
          go_simp
          try with_reducible rfl
         try simp only [oSpl610, PT]
         refine tkH 11 oSpl611 ?v11_3012 (.inl ⟨by rfl, ?h11_3012⟩) ?r11_3012
         case h11_3012 =>
          intro W hSW
          unfold oSpl611
          try dsimp only at hSW
          go_simp
          try with_reducible rfl
         try simp only [oSpl611, PT]
         refine tkH 12 oSpl612 ?v12_3013 (.inl ⟨by rfl, ?h12_3013⟩) ?r12_3013
         case h12_3013 =>
          intro W hSW
          unfold oSpl612
          try dsimp only at hSW
          go_simp
          try with_reducible rfl
         try simp only [oSpl612, PT]
         refine tkH 13 oSpl613 ?v13_3014 (.inl ⟨by rfl, ?h13_3014⟩) ?r13_3014
         case h13_3014 =>
          intro W hSW
          unfold oSpl613
          try dsimp only at hSW
          have hcc := (hSW.cell (p := ⟨b, off + j, none⟩) HBBV.out).trans HX.out
          go_simp
          try with_reducible rfl
         try simp only [oSpl613, PT]
         refine tkH 14 oSpl614 ?v14_3015 (.inl ⟨by rfl, ?h14_3015⟩) ?r14_3015
         case h14_3015 =>
          intro W hSW
          unfold oSpl614
          try dsimp only at hSW
          go_simp
          try with_reducible rfl
         try simp only [oSpl614, PT]
         refine tkH 15 oSpl615 ?v15_3016 (.inl ⟨by rfl, ?h15_3016⟩) ?r15_3016
         case h15_3016 =>
          intro W hSW
          unfold oSpl615
          try dsimp only at hSW
          go_simp
          try with_reducible rfl
         try simp only [oSpl615, PT]
         refine tkH 16 oSpl616 ?v16_3017 (.inl ⟨by rfl, ?h16_3017⟩) ?r16_3017
         case h16_3017 =>
          intro W hSW
          unfold oSpl616
          try dsimp only at hSW
          go_simp
          try with_reducible rfl
         try simp only [oSpl616, PT]
         refine tkH 17 oSpl617 ?v17_3018 (.inl ⟨by rfl, ?h17_3018⟩) ?r17_3018
         case h17_3018 =>
          intro W hSW
          unfold oSpl617
          try dsimp only at hSW
          go_simp
          try with_reducible rfl
         try simp only [oSpl617, PT]
         refine tkH 18 oSpl618 ?v18_3019 (.inl ⟨by rfl, ?h18_3019⟩) ?r18_3019
         case h18_3019 =>
          intro W hSW
          unfold oSpl618
          try dsimp only at hSW
          go_simp
          try with_reducible rfl
         try simp only [oSpl618, PT]
         refine tkH 19 oSpl619 ?v19_3020 (.inl ⟨by rfl, ?h19_3020⟩) ?r19_3020
         case h19_3020 =>
          intro W hSW
          unfold oSpl619
          try dsimp only at hSW
          go_simp
          try with_reducible rfl
         try simp only [oSpl619, PT]
         refine tkH 20 oSpl620 ?v20_3021 (.inl ⟨by rfl, ?h20_3021⟩) ?r20_3021
         case h20_3021 =>
          intro W hSW
          unfold oSpl620
          try dsimp only at hSW
          go_simp
          try with_reducible rfl
         try simp only [oSpl620, PT]
         refine tkH 21 oSpl621 ?v21_3022 (.inl ⟨by rfl, ?h21_3022⟩) ?r21_3022
         case h21_3022 =>
          intro W hSW
          unfold oSpl621
          try dsimp only at hSW
          have hcc := (hSW.cell (p := ⟨b, off + b', none⟩) HBBV.out).trans HY.out
          go_simp
          try with_reducible rfl
         try simp only [oSpl621, PT]
         refine tkH 22 oSpl622 ?v22_3023 (.inl ⟨by rfl, ?h22_3023⟩) ?r22_3023
         case h22_3023 =>
          intro W hSW
          unfold oSpl622
          try dsimp only at hSW
          go_simp
          try with_reducible rfl
         try simp only [oSpl622, PT]
         refine tkH 23 oSpl623 ?v23_3024 (.inl ⟨by rfl, ?h23_3024⟩) ?r23_3024
         case h23_3024 =>
          intro W hSW
          unfold oSpl623
          try dsimp only at hSW
          go_simp
          try with_reducible rfl
         try simp only [oSpl623, PT]
         refine tkH 24 oSpl624 ?v24_3025 (.inl ⟨by rfl, ?h24_3025⟩) ?r24_3025
         case h24_3025 =>
          intro W hSW
          unfold oSpl624
          try dsimp only at hSW
          go_simp
          try with_reducible rfl
         try simp only [oSpl624, PT]
         refine tkH 25 oSpl625 ?v25_3026 (.inl ⟨by rfl, ?h25_3026⟩) ?r25_3026
         case h25_3026 =>
          intro W hSW
          unfold oSpl625
          try dsimp only at hSW
          go_simp
          try with_reducible rfl
         try simp only [oSpl625, PT]
         refine tkH 26 oSpl626 ?v26_3027 (.inl ⟨by rfl, ?h26_3027⟩) ?r26_3027
         case h26_3027 =>
          intro W hSW
          unfold oSpl626
          try dsimp only at hSW
          go_simp
          try with_reducible rfl
         try simp only [oSpl626, PT]
         refine tkH 27 oSpl627 ?v27_3028 (.inl ⟨by rfl, ?h27_3028⟩) ?r27_3028
         case h27_3028 =>
          intro W hSW
          unfold oSpl627
          try dsimp only at hSW
          go_simp
          try with_reducible rfl
         try simp only [oSpl627, PT]
         refine wpAnyH_done (by kernel_rfl) ?_ _
         go_wp2_with fail
         go_roundw
         case rel => exact ⟨_, j + 1, (j : Int), rfl, by omega, by first | rfl | go_num, by go_num, HN.out, HBV.out.trans (hv0.mono HBV.out.size)⟩
         case measure => simp [intOf]; omega
        ·
         have HN := Lib.hid (best_old (key := fun t => T * ws.getD t 0 % S) hb2 hb3 hb4 (by have h := hgt; rw [← hkb, ← HKJ.out] at h; exact h))
         clear hb2 hb3 hb4 hcb hmb hy hr0 hr1 hry hkb
         go_wp2_with fail
         have hv0 : Below wv.heap.size wv wv.drew := (Below.refl _ _).drew
         refine wp_region_held_drew (S := fun W => Below wv.heap.size wv W) (by kernel_rfl) (hv0) (fun hHeld => ?_)
         refine tkH 0 oSpl60 ?v0_4001 (.inl ⟨by rfl, ?h0_4001⟩) ?r0_4001
         case h0_4001 =>
          intro W hSW
          unfold oSpl60
          try dsimp only at hSW
          go_simp
          try with_reducible rfl
         try simp only [oSpl60, PT]
         refine tkH 1 oSpl61 ?v1_4002 (.inl ⟨by rfl, ?h1_4002⟩) ?r1_4002
         case h1_4002 =>
          intro W hSW
          unfold oSpl61
          try dsimp only at hSW
          go_simp
          try with_reducible rfl
         try simp only [oSpl61, PT]
         refine tkH 2 oSpl62 ?v2_4003 (.inl ⟨by rfl, ?h2_4003⟩) ?r2_4003
         case h2_4003 =>
          intro W hSW
          unfold oSpl62
          try dsimp only at hSW
          go_simp
          try with_reducible rfl
         try simp only [oSpl62, PT]
         refine tkH 3 oSpl63 ?v3_4004 (.inl ⟨by rfl, ?h3_4004⟩) ?r3_4004
         case h3_4004 =>
          intro W hSW
          unfold oSpl63
          try dsimp only at hSW
          have hcc := (hSW.cell (p := ⟨gb, j, none⟩) HGBV.out).trans HGV.out
          go_simp
          try with_reducible rfl
         try simp only [oSpl63, PT]
         refine tkH 4 oSpl64 ?v4_4005 (.inl ⟨by rfl, ?h4_4005⟩) ?r4_4005
         case h4_4005 =>
          intro W hSW
          unfold oSpl64
          try dsimp only at hSW
          go_simp
          try with_reducible rfl
         try simp only [oSpl64, PT]
         refine tkH 5 oSpl65 ?v5_4006 (.inl ⟨by rfl, ?h5_4006⟩) ?r5_4006
         case h5_4006 =>
          intro W hSW
          unfold oSpl65
          try dsimp only at hSW
          go_simp
          try with_reducible rfl
         try simp only [oSpl65, PT]
         refine tkH 6 oSpl66 ?v6_4007 (.inl ⟨by rfl, ?h6_4007⟩) ?r6_4007
         case h6_4007 =>
          intro W hSW
          unfold oSpl66
          try dsimp only at hSW
          go_simp
          try with_reducible rfl
         try simp only [oSpl66, PT]
         refine tkH 7 oSpl67 ?v7_4008 (.inl ⟨by rfl, ?h7_4008⟩) ?r7_4008
         case h7_4008 =>
          intro W hSW
          unfold oSpl67
          try dsimp only at hSW
          go_simp
          try with_reducible rfl
         try simp only [oSpl67, PT]
         refine tkH 8 oSpl68 ?v8_4009 (.inl ⟨by rfl, ?h8_4009⟩) ?r8_4009
         case h8_4009 =>
          intro W hSW
          unfold oSpl68
          try dsimp only at hSW
          go_simp
          try with_reducible rfl
         try simp only [oSpl68, PT]
         refine tkH 9 oSpl69 ?v9_4010 (.inl ⟨by rfl, ?h9_4010⟩) ?r9_4010
         case h9_4010 =>
          intro W hSW
          unfold oSpl69
          try dsimp only at hSW
          go_simp
          try with_reducible rfl
         try simp only [oSpl69, PT]
         refine tkH 10 oSpl610 ?v10_4011 (.inl ⟨by rfl, ?h10_4011⟩) ?r10_4011
         case h10_4011 =>
          intro W hSW
          unfold oSpl610
          try dsimp only at hSW
          go_simp
          try with_reducible rfl
         try simp only [oSpl610, PT]
         refine tkH 11 oSpl611 ?v11_4012 (.inl ⟨by rfl, ?h11_4012⟩) ?r11_4012
         case h11_4012 =>
          intro W hSW
          unfold oSpl611
          try dsimp only at hSW
          go_simp
          try with_reducible rfl
         try simp only [oSpl611, PT]
         refine tkH 12 oSpl612 ?v12_4013 (.inl ⟨by rfl, ?h12_4013⟩) ?r12_4013
         case h12_4013 =>
          intro W hSW
          unfold oSpl612
          try dsimp only at hSW
          go_simp
          try with_reducible rfl
         try simp only [oSpl612, PT]
         refine tkH 13 oSpl613 ?v13_4014 (.inl ⟨by rfl, ?h13_4014⟩) ?r13_4014
         case h13_4014 =>
          intro W hSW
          unfold oSpl613
          try dsimp only at hSW
          have hcc := (hSW.cell (p := ⟨b, off + j, none⟩) HBBV.out).trans HX.out
          go_simp
          try with_reducible rfl
         try simp only [oSpl613, PT]
         refine tkH 14 oSpl614 ?v14_4015 (.inl ⟨by rfl, ?h14_4015⟩) ?r14_4015
         case h14_4015 =>
          intro W hSW
          unfold oSpl614
          try dsimp only at hSW
          go_simp
          try with_reducible rfl
         try simp only [oSpl614, PT]
         refine tkH 15 oSpl615 ?v15_4016 (.inl ⟨by rfl, ?h15_4016⟩) ?r15_4016
         case h15_4016 =>
          intro W hSW
          unfold oSpl615
          try dsimp only at hSW
          go_simp
          try with_reducible rfl
         try simp only [oSpl615, PT]
         refine tkH 16 oSpl616 ?v16_4017 (.inl ⟨by rfl, ?h16_4017⟩) ?r16_4017
         case h16_4017 =>
          intro W hSW
          unfold oSpl616
          try dsimp only at hSW
          go_simp
          try with_reducible rfl
         try simp only [oSpl616, PT]
         refine tkH 17 oSpl617 ?v17_4018 (.inl ⟨by rfl, ?h17_4018⟩) ?r17_4018
         case h17_4018 =>
          intro W hSW
          unfold oSpl617
          try dsimp only at hSW
          go_simp
          try with_reducible rfl
         try simp only [oSpl617, PT]
         refine tkH 18 oSpl618 ?v18_4019 (.inl ⟨by rfl, ?h18_4019⟩) ?r18_4019
         case h18_4019 =>
          intro W hSW
          unfold oSpl618
          try dsimp only at hSW
          go_simp
          try with_reducible rfl
         try simp only [oSpl618, PT]
         refine tkH 19 oSpl619 ?v19_4020 (.inl ⟨by rfl, ?h19_4020⟩) ?r19_4020
         case h19_4020 =>
          intro W hSW
          unfold oSpl619
          try dsimp only at hSW
          go_simp
          try with_reducible rfl
         try simp only [oSpl619, PT]
         refine tkH 20 oSpl620 ?v20_4021 (.inl ⟨by rfl, ?h20_4021⟩) ?r20_4021
         case h20_4021 =>
          intro W hSW
          unfold oSpl620
          try dsimp only at hSW
          go_simp
          try with_reducible rfl
         try simp only [oSpl620, PT]
         refine tkH 21 oSpl621 ?v21_4022 (.inl ⟨by rfl, ?h21_4022⟩) ?r21_4022
         case h21_4022 =>
          intro W hSW
          unfold oSpl621
          try dsimp only at hSW
          have hcc := (hSW.cell (p := ⟨b, off + b', none⟩) HBBV.out).trans HY.out
          go_simp
          try with_reducible rfl
         try simp only [oSpl621, PT]
         refine tkH 22 oSpl622 ?v22_4023 (.inl ⟨by rfl, ?h22_4023⟩) ?r22_4023
         case h22_4023 =>
          intro W hSW
          unfold oSpl622
          try dsimp only at hSW
          go_simp
          try with_reducible rfl
         try simp only [oSpl622, PT]
         refine tkH 23 oSpl623 ?v23_4024 (.inl ⟨by rfl, ?h23_4024⟩) ?r23_4024
         case h23_4024 =>
          intro W hSW
          unfold oSpl623
          try dsimp only at hSW
          go_simp
          try with_reducible rfl
         try simp only [oSpl623, PT]
         refine tkH 24 oSpl624 ?v24_4025 (.inl ⟨by rfl, ?h24_4025⟩) ?r24_4025
         case h24_4025 =>
          intro W hSW
          unfold oSpl624
          try dsimp only at hSW
          go_simp
          try with_reducible rfl
         try simp only [oSpl624, PT]
         refine tkH 25 oSpl625 ?v25_4026 (.inl ⟨by rfl, ?h25_4026⟩) ?r25_4026
         case h25_4026 =>
          intro W hSW
          unfold oSpl625
          try dsimp only at hSW
          go_simp
          try with_reducible rfl
         try simp only [oSpl625, PT]
         refine tkH 26 oSpl626 ?v26_4027 (.inl ⟨by rfl, ?h26_4027⟩) ?r26_4027
         case h26_4027 =>
          intro W hSW
          unfold oSpl626
          try dsimp only at hSW
          go_simp
          try with_reducible rfl
         try simp only [oSpl626, PT]
         refine tkH 27 oSpl627 ?v27_4028 (.inl ⟨by rfl, ?h27_4028⟩) ?r27_4028
         case h27_4028 =>
          intro W hSW
          unfold oSpl627
          try dsimp only at hSW
          go_simp
          try with_reducible rfl
         try simp only [oSpl627, PT]
         refine wpAnyH_done (by kernel_rfl) ?_ _
         go_wp2_with fail
         go_roundw
         case rel => exact ⟨_, j + 1, (b' : Int), rfl, by omega, by first | rfl | go_num, by go_num, HN.out, HBV.out.trans (hv0.mono HBV.out.size)⟩
         case measure => simp [intOf]; omega
      ·
       obtain rfl : j = i := by omega
       have hbe := best_end HO.out HSI.out HBI.out
       obtain ⟨q, hq⟩ : ∃ q, p s = q := ⟨_, rfl⟩
       have hqn : q < j := by rw [← hq]; exact HO.out.lt s HSI.out
       rw [hq] at hbe
       subst hbe
       have Fv := HFq.out.below hbv
       have c1 := Fv.cell q hqn
       have f1 := Fv.free q hqn
       have d1 := (hbv.cell (p := ⟨gb, q, none⟩) hzq).trans (HGq.out q hqn)
       have e1 := (World.frozen?_of_block (a := ⟨gb, q, none⟩) (hbv.block gb hzq)).trans (HZq.out q)
       have hbg := Spl.bump_get HO.out (baseL T S ws j) (k := s) (by simp [baseL]) (by have := HSI.out; omega) q
       rw [baseL_get T S ws hqn] at hbg
       have hb1 := HBS.out q
       have hbu : Spl.bump p (baseL T S ws j) (s + 1) = (Spl.bump p (baseL T S ws j) s).set (p s) ((Spl.bump p (baseL T S ws j) s).getD (p s) 0 + 1) := rfl
       rw [hq] at hbu
       have hbl : q < (Spl.bump p (baseL T S ws j) s).length := by rw [Spl.bump_len]; simpa [baseL] using hqn
       obtain ⟨x, hx⟩ : ∃ x, (Spl.bump p (baseL T S ws j) s).getD q 0 = x := ⟨_, rfl⟩
       rw [hx] at c1 hbg hbu
       have hx1 : 0 ≤ x ∧ x ≤ T + 1 := by split at hbg <;> omega
       have m1 : IntKind.i64.wrap (x + 1) = x + 1 := IntWalk.i64_in _ (by omega)
       obtain ⟨l', hl'⟩ : ∃ y, l - 1 = y := ⟨_, rfl⟩
       have ql : (l : Int) - 1 = (l' : Int) := by omega
       have wl : IntKind.i64.wrap (l' : Int) = (l' : Int) := IntWalk.i64_in _ (by have := HSL.out; omega)
       have q0 : (0 : Int) ≤ (q : Int) := by omega
       have q1 : (q : Int) < (j : Int) := by omega
       have q2 : (q : Int) < (cp : Int) ∨ True := Or.inr trivial
       have HBU := Lib.hid (And.intro hbu hbl)
       have HQ := Lib.hid (And.intro hqn hq)
       have HLL := Lib.hid hl'
       have HFv := Lib.hid Fv
       have hgOv := Fv.lt
       clear hbv hbg hb1 hbu hbl hx hx1 hq hqn hl' Fv q2
       go_wp2_with fail
       go_roundw
       case rel =>
        obtain ⟨hqn, hq⟩ := HQ.out
        have G1 := grown_setCell wv gb q (.bool true)
        have G2 := grown_setCell (wv.setCell ⟨gb, q, none⟩ (.bool true)) gO q (.int .i64 (x + 1))
        have F1 := HFv.out.keep (G1.block gO hgOv (fun e => hne (Option.some.inj e)))
        have z1 : (wv.setCell ⟨gb, q, none⟩ (.bool true)).heap.size = wv.heap.size := by simp
        have hgbv : gb < wv.heap.size := Nat.lt_of_lt_of_le hzq HBV.out.size
        have k2 := G2.block gb (by omega) (fun e => hne (Option.some.inj e).symm)
        refine ⟨_, l', s + 1, rfl, by show s + 1 + l' = k; have := HSL.out; have := HLL.out; omega, by go_num, FRow.congr (F1.set hqn (x + 1)) fun t _ => ?_, fun t ht => ?_, fun t => ?_, by simp; omega, ?_⟩
        ·
         rw [HBU.out.1]
         by_cases e : t = q
         ·
          subst e; rw [if_pos rfl]; simp only [List.getD, List.getElem?_set_self HBU.out.2, Option.getD_some]
         ·
          rw [if_neg e]; simp only [List.getD, List.getElem?_set_ne (fun h => e h.symm)]
        ·
         rw [World.cell?_of_block (a := ⟨gb, t, none⟩) k2]
         by_cases e : q = t
         ·
          subst e; rw [cell_set_eq _ _ d1]; congr 2; exact (decide_eq_true ((Spl.fst_succ p s q).2 (Or.inr hq))).symm
         ·
          rw [cell_set_ne _ _ e, HBV.out.cell (p := ⟨gb, t, none⟩) hzq, HGq.out t ht]
          congr 2
          rw [Bool.eq_iff_iff, decide_eq_true_eq, decide_eq_true_eq, Spl.fst_succ, hq]
          exact ⟨Or.inl, fun h => h.elim id fun h => absurd h e⟩
        ·
         rw [World.frozen?_of_block (a := ⟨gb, t, none⟩) k2]
         simp only [World.frozen?_setCell]
         exact (World.frozen?_of_block (a := ⟨gb, t, none⟩) (HBV.out.block gb hzq)).trans (HZq.out t)
        ·
         exact ((HBQ.out.trans (HBV.out.mono HBQ.out.size)).setCell (by show w.heap.size ≤ gb; exact hwgb) _).setCell (by show w.heap.size ≤ gO; exact hgO) _
       case measure => have := HLL.out; simp [intOf]; omega
    ·
     obtain rfl : l = 0 := by omega
     have hsk : s = k := by have := HSL.out; omega
     subst hsk
     have FF := HFq.out.congr (e := shOf T ws i p s) fun t _ => HSH.out t
     have HFF := Lib.hid FF.rdL
     clear hbq FF
     go_wp2_with fail
     go_ret2
     exact ⟨_, _, rfl, hgO, HFF.out, HBQ.out⟩
end Go.Proofs.YtfllkaeaanahmaaGreat.W
