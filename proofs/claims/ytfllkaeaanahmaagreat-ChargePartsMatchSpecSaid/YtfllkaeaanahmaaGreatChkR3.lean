/- Joined texts: ChkRF, ChkRG, ChkRH, ChkRI. Conditions: as each part says. -/
import Derived.Test.YtfllkaeaanahmaaGreatHeld2
import Derived.Test.YtfllkaeaanahmaaGreatChkR2
namespace Go.Proofs.YtfllkaeaanahmaaGreat
set_option linter.unusedVariables false
set_option linter.unusedSimpArgs false
section
open Go.RowKit
abbrev oChkR30 : Oper := { dst := some 42, op := Op.move (Operand.tmp 0), type := 29, pos := "ref.go:191", after := #[], guard := none }
abbrev oChkR31 : Oper := { dst := some 43, op := Op.nilCheck (Operand.tmp 42), type := 0, pos := "ref.go:191", after := #[{ on := 0, ground := Ground.data }], guard := none }
abbrev oChkR32 : Oper := { dst := some 44, op := Op.fieldAddr 58 (Operand.tmp 43) 0, type := 0, pos := "ref.go:191", after := #[{ on := 1, ground := Ground.data }], guard := none }
abbrev oChkR33 : Oper := { dst := some 45, op := Op.load 56 (Operand.tmp 44), type := 56, pos := "ref.go:191", after := #[{ on := 2, ground := Ground.data }], guard := none }
abbrev oChkR34 : Oper := { dst := some 46, op := Op.move (Operand.tmp 10), type := 3, pos := "ref.go:191", after := #[], guard := none }
abbrev oChkR35 : Oper := { dst := some 47, op := Op.move (Operand.tmp 0), type := 29, pos := "ref.go:191", after := #[], guard := none }
abbrev oChkR36 : Oper := { dst := some 48, op := Op.nilCheck (Operand.tmp 47), type := 0, pos := "ref.go:191", after := #[{ on := 5, ground := Ground.data }], guard := none }
abbrev oChkR37 : Oper := { dst := some 49, op := Op.fieldAddr 58 (Operand.tmp 48) 0, type := 0, pos := "ref.go:191", after := #[{ on := 6, ground := Ground.data }], guard := none }
abbrev oChkR38 : Oper := { dst := some 50, op := Op.load 56 (Operand.tmp 49), type := 56, pos := "ref.go:191", after := #[{ on := 7, ground := Ground.data }], guard := none }
abbrev oChkR39 : Oper := { dst := some 51, op := Op.move (Operand.tmp 10), type := 3, pos := "ref.go:191", after := #[], guard := none }
abbrev oChkR310 : Oper := { dst := some 52, op := Op.indexAddr 56 (Operand.tmp 50) (Operand.tmp 51), type := 0, pos := "ref.go:191", after := #[{ on := 8, ground := Ground.data }, { on := 9, ground := Ground.data }], guard := none }
abbrev oChkR311 : Oper := { dst := some 53, op := Op.fieldAddr 68 (Operand.tmp 52) 5, type := 0, pos := "ref.go:191", after := #[{ on := 10, ground := Ground.data }], guard := none }
abbrev oChkR312 : Oper := { dst := some 54, op := Op.load 66 (Operand.tmp 53), type := 66, pos := "ref.go:191", after := #[{ on := 11, ground := Ground.data }], guard := none }
abbrev oChkR313 : Oper := { dst := some 55, op := Op.move (Operand.tmp 2), type := 3, pos := "ref.go:191", after := #[], guard := none }
abbrev oChkR314 : Oper := { dst := some 56, op := Op.move (Operand.tmp 11), type := 3, pos := "ref.go:191", after := #[], guard := none }
abbrev oChkR315 : Oper := { dst := some 57, op := Op.call { callee := Callee.value (Operand.func 92), args := #[Operand.tmp 54, Operand.tmp 55, Operand.tmp 56], argTypes := #[66, 3, 3] }, type := 66, pos := "ref.go:191", after := #[{ on := 12, ground := Ground.data }, { on := 13, ground := Ground.data }, { on := 14, ground := Ground.data }], guard := none }
abbrev oChkR316 : Oper := { dst := some 58, op := Op.indexAddr 56 (Operand.tmp 45) (Operand.tmp 46), type := 0, pos := "ref.go:191", after := #[{ on := 3, ground := Ground.data }, { on := 4, ground := Ground.data }, { on := 0, ground := Ground.phase }, { on := 1, ground := Ground.phase }, { on := 2, ground := Ground.phase }, { on := 3, ground := Ground.phase }, { on := 4, ground := Ground.phase }, { on := 5, ground := Ground.phase }, { on := 6, ground := Ground.phase }, { on := 7, ground := Ground.phase }, { on := 8, ground := Ground.phase }, { on := 9, ground := Ground.phase }, { on := 10, ground := Ground.phase }, { on := 11, ground := Ground.phase }, { on := 12, ground := Ground.phase }, { on := 13, ground := Ground.phase }, { on := 14, ground := Ground.phase }, { on := 15, ground := Ground.phase }], guard := none }
abbrev oChkR317 : Oper := { dst := some 59, op := Op.fieldAddr 68 (Operand.tmp 58) 5, type := 0, pos := "ref.go:191", after := #[{ on := 16, ground := Ground.data }, { on := 0, ground := Ground.phase }, { on := 1, ground := Ground.phase }, { on := 2, ground := Ground.phase }, { on := 3, ground := Ground.phase }, { on := 4, ground := Ground.phase }, { on := 5, ground := Ground.phase }, { on := 6, ground := Ground.phase }, { on := 7, ground := Ground.phase }, { on := 8, ground := Ground.phase }, { on := 9, ground := Ground.phase }, { on := 10, ground := Ground.phase }, { on := 11, ground := Ground.phase }, { on := 12, ground := Ground.phase }, { on := 13, ground := Ground.phase }, { on := 14, ground := Ground.phase }, { on := 15, ground := Ground.phase }], guard := none }
abbrev oChkR318 : Oper := { dst := none, op := Op.store 66 (Operand.tmp 59) (Operand.tmp 57), type := 0, pos := "ref.go:191", after := #[{ on := 17, ground := Ground.data }, { on := 15, ground := Ground.data }, { on := 15, ground := Ground.chain }, { on := 0, ground := Ground.phase }, { on := 1, ground := Ground.phase }, { on := 2, ground := Ground.phase }, { on := 3, ground := Ground.phase }, { on := 4, ground := Ground.phase }, { on := 5, ground := Ground.phase }, { on := 6, ground := Ground.phase }, { on := 7, ground := Ground.phase }, { on := 8, ground := Ground.phase }, { on := 9, ground := Ground.phase }, { on := 10, ground := Ground.phase }, { on := 11, ground := Ground.phase }, { on := 12, ground := Ground.phase }, { on := 13, ground := Ground.phase }, { on := 14, ground := Ground.phase }, { on := 15, ground := Ground.phase }], guard := none }
abbrev oChkR339 : Oper := { dst := some 12, op := Op.move (Operand.tmp 0), type := 29, pos := "ref.go:393", after := #[], guard := none }
abbrev oChkR340 : Oper := { dst := some 13, op := Op.fieldAddr 78 (Operand.tmp 3) 5, type := 0, pos := "ref.go:393", after := #[], guard := none }
abbrev oChkR341 : Oper := { dst := some 14, op := Op.load 5 (Operand.tmp 13), type := 5, pos := "ref.go:393", after := #[{ on := 1, ground := Ground.data }], guard := none }
abbrev oChkR342 : Oper := { dst := some 16, op := Op.fieldAddr 78 (Operand.tmp 3) 6, type := 0, pos := "ref.go:393", after := #[], guard := none }
abbrev oChkR343 : Oper := { dst := some 17, op := Op.load 61 (Operand.tmp 16), type := 61, pos := "ref.go:393", after := #[{ on := 4, ground := Ground.data }], guard := none }
abbrev oChkR344 : Oper := { dst := some 18, op := Op.fieldAddr 78 (Operand.tmp 3) 4, type := 0, pos := "ref.go:393", after := #[], guard := none }
abbrev oChkR345 : Oper := { dst := some 19, op := Op.load 65 (Operand.tmp 18), type := 65, pos := "ref.go:393", after := #[{ on := 6, ground := Ground.data }], guard := none }
abbrev oChkR346 : Oper := { dst := some 20, op := Op.fieldAddr 78 (Operand.tmp 3) 2, type := 0, pos := "ref.go:393", after := #[], guard := none }
abbrev oChkR347 : Oper := { dst := some 21, op := Op.load 3 (Operand.tmp 20), type := 3, pos := "ref.go:393", after := #[{ on := 8, ground := Ground.data }], guard := none }
abbrev oChkR348 : Oper := { dst := some 15, op := Op.call { callee := Callee.value (Operand.func 30), args := #[Operand.tmp 14], argTypes := #[5] }, type := 60, pos := "ref.go:393", after := #[{ on := 2, ground := Ground.data }], guard := none }
abbrev oChkR349 : Oper := { dst := some 22, op := Op.call { callee := Callee.value (Operand.func 56), args := #[Operand.tmp 12, Operand.tmp 15, Operand.tmp 17, Operand.tmp 19, Operand.tmp 21], argTypes := #[29, 60, 61, 65, 3] }, type := 45, pos := "ref.go:393", after := #[{ on := 0, ground := Ground.data }, { on := 3, ground := Ground.data }, { on := 5, ground := Ground.data }, { on := 7, ground := Ground.data }, { on := 9, ground := Ground.data }, { on := 3, ground := Ground.chain }], guard := none }
abbrev oChkR350 : Oper := { dst := some 23, op := Op.extract (Operand.tmp 22) 0, type := 3, pos := "ref.go:393", after := #[{ on := 10, ground := Ground.data }], guard := none }
abbrev oChkR351 : Oper := { dst := some 24, op := Op.extract (Operand.tmp 22) 1, type := 36, pos := "ref.go:393", after := #[{ on := 10, ground := Ground.data }], guard := none }
abbrev oChkR352 : Oper := { dst := some 4, op := Op.assign (Operand.tmp 23), type := 3, pos := "ref.go:393", after := #[{ on := 11, ground := Ground.data }, { on := 10, ground := Ground.chain }, { on := 0, ground := Ground.phase }, { on := 1, ground := Ground.phase }, { on := 2, ground := Ground.phase }, { on := 3, ground := Ground.phase }, { on := 4, ground := Ground.phase }, { on := 5, ground := Ground.phase }, { on := 6, ground := Ground.phase }, { on := 7, ground := Ground.phase }, { on := 8, ground := Ground.phase }, { on := 9, ground := Ground.phase }, { on := 10, ground := Ground.phase }, { on := 11, ground := Ground.phase }, { on := 12, ground := Ground.phase }], guard := none }
abbrev oChkR353 : Oper := { dst := some 5, op := Op.assign (Operand.tmp 24), type := 36, pos := "ref.go:393", after := #[{ on := 12, ground := Ground.data }, { on := 13, ground := Ground.chain }, { on := 0, ground := Ground.phase }, { on := 1, ground := Ground.phase }, { on := 2, ground := Ground.phase }, { on := 3, ground := Ground.phase }, { on := 4, ground := Ground.phase }, { on := 5, ground := Ground.phase }, { on := 6, ground := Ground.phase }, { on := 7, ground := Ground.phase }, { on := 8, ground := Ground.phase }, { on := 9, ground := Ground.phase }, { on := 10, ground := Ground.phase }, { on := 11, ground := Ground.phase }, { on := 12, ground := Ground.phase }, { on := 13, ground := Ground.phase }], guard := none }
theorem crs_one (D : List CR) : ∀ u ∈ crs D, u.oneCell' = true := by
 intro u hu
 obtain ⟨x, _, hx⟩ := List.mem_flatMap.1 hu
 exact ckCells_one x.c _ rfl u hx
theorem RAt.fresh {w W : World} {F F' S : Nat → Prop} {a : Nat} {t : RM} {l l2 : List Chk.Ck} (h : RAt w F S a t l) (hb : ∀ b, F b ∨ S b → b < w.heap.size) {A2 : Option Addr} {n2 c2 : Nat} {D2 : List CR} (hrow : IsRow W a 58 [.slice A2 n2 c2]) (ho : W.ownsRow w.heap.size 68 23 (.slice A2 n2 c2) n2 (crs D2)) (hd : D2.map CR.c = l2) (hi : Chk.Inv l2)
  (hok : ∀ x ∈ D2, CRok W F' x) (hF : ∀ b, F' b → F b ∨ (w.heap.size ≤ b ∧ b < W.heap.size ∧ ∀ p, A2 = some p → p.block ≠ b)) (hk : Keep S w W) : ROp w F S a l2 W := by
 have hA : ∀ p, A2 = some p → w.heap.size ≤ p.block ∧ p.block < W.heap.size := fun p hp => by
  rcases ho.2 with h0 | ⟨g, cap, cur, hv, hg, hh, r⟩
  ·
   injection h0.1 with h1; rw [hp] at h1; cases h1
  ·
   injection hv with h1; rw [hp] at h1; have := Option.some.inj h1; subst p; exact ⟨hg, (Array.getElem?_eq_some_iff.1 hh).1⟩
 have haw : a < w.heap.size := h.row.lt
 have hs := hk.size
 refine ⟨F', fun b => b = a ∨ ∃ p, A2 = some p ∧ p.block = b, ⟨⟨A2, n2, c2, D2⟩, hrow, own_base ho (Nat.zero_le _), hd, hok, .inl rfl, fun g hg => .inr ⟨g, hg, rfl⟩, fun g hg e => ?_, fun b hf e => ?_, hi⟩, hk, fun b e => ?_, fun b e => ?_, fun b e => ?_⟩
 ·
  have := (hA g hg).1; omega
 ·
  rcases e with rfl | ⟨p, hp, rfl⟩
  ·
   rcases hF _ hf with h1 | h1
   ·
    exact h.fs _ h1 h.sa
   ·
    omega
  ·
   rcases hF _ hf with h1 | h1
   ·
    have h2 := hb _ (.inl h1); have h3 := (hA p hp).1; omega
   ·
    exact h1.2.2 p hp rfl
 ·
  rcases e with e | rfl | ⟨p, hp, rfl⟩
  ·
   rcases hF b e with h1 | h1
   ·
    have := hb b (.inl h1); omega
   ·
    exact h1.2.1
  ·
   omega
  ·
   exact (hA p hp).2
 ·
  rcases e with rfl | ⟨p, hp, rfl⟩
  ·
   exact .inl h.sa
  ·
   exact .inr (hA p hp).1
 ·
  rcases hF b e with h1 | h1
  ·
   exact .inl h1
  ·
   exact .inr h1.1
theorem RAt.split {w W5 : World} {F S : Nat → Prop} {a : Nat} {t : RM} {l : List Chk.Ck} (h : RAt w F S a t l) {g k : Nat} (hA : t.A = some ⟨g, 0, none⟩) (hk : k < t.n) (hB : Below w.heap.size w W5) (v u0 : Value) (hu : W5.cell? ⟨g, k * 23 + 22, none⟩ = some u0) :
  Rd (W5.setCell ⟨g, k * 23 + 22, none⟩ v) W5.heap.size 23 (some ⟨g, 0, none⟩) k (crs (t.D.take k)) ∧
  Rd (W5.setCell ⟨g, k * 23 + 22, none⟩ v) W5.heap.size 23 (if t.c = k + 1 then some ⟨g, 0, none⟩ else (some (⟨g, 0, none⟩ : Addr)).map (·.add ((k + 1) * 23))) (t.n - (k + 1)) (crs (t.D.drop (k + 1))) ∧
  IsRow (W5.setCell ⟨g, k * 23 + 22, none⟩ v) a 58 [.slice (some ⟨g, 0, none⟩) t.n t.c] ∧ (W5.setCell ⟨g, k * 23 + 22, none⟩ v).cell? ⟨g, k * 23 + 22, none⟩ = some v ∧ Keep S w (W5.setCell ⟨g, k * 23 + 22, none⟩ v) ∧ (W5.setCell ⟨g, k * 23 + 22, none⟩ v).heap.size = W5.heap.size := by
 have h5 := h.below hB
 have ho5 := h5.own
 rw [hA] at ho5
 have hl : (crs t.D).length = t.D.length * 23 := flatMap_len h.dl
 have hD := h.len.2
 have os := own_set ho5 (j := k * 23 + 22) (by rw [hl, hD]; omega) v
 have hsz : (W5.setCell ⟨g, k * 23 + 22, none⟩ v).heap.size = W5.heap.size := by simp [World.setCell]
 have rd := Rd.of_own os
 rw [hsz] at rd
 have r1 := rd.take (k := k) (by omega)
 have r2 := rd.cut (k := k + 1) (cap := t.c) hk h.cap.1
 rw [List.take_set_of_le (by omega), flat_take h.dl] at r1
 rw [List.drop_set_of_lt (by omega), flat_drop h.dl] at r2
 have hrow := h5.row
 rw [hA] at hrow
 exact ⟨r1, r2, hrow.setOther (p := ⟨g, k * 23 + 22, none⟩) (show g ≠ a from h.ag _ hA) _, World.cell?_setCell_same' _ _ _ (by rw [hu]; rfl), (Keep.of_below hB).setCell (a := ⟨g, k * 23 + 22, none⟩) (.inl (show S g from h.sg _ hA)) _, hsz⟩
def RUn (w : World) (F S : Nat → Prop) (a : Nat) (R : List Chk.Ck × Int × Int) (e : Ending) (w' : World) : Prop := e = .returned (.tuple #[.bool (decide (R.2.1 = 1)), .int .i64 R.2.2]) ∧ ROp w F S a R.1 w'
set_option maxRecDepth 100000 in
set_option maxHeartbeats 6400000 in
theorem runrefer_any {w : World} {F S : Nat → Prop} {a : Nat} {t : RM} {l : List Chk.Ck} (h : RAt w F S a t l) (hb : ∀ b, F b ∨ S b → b < w.heap.size) (id tn n : Int) :
  Calls Tryz.prog 58 #[.pointer (some ⟨a, 0, none⟩), .int .i64 id, .int .i64 tn, .int .i64 n] w (RUn w F S a (Chk.unrefer l id tn n)) := by
 have HF := Lib.hid (rfind_any h id _ rfl)
 have HTN := Lib.hid (fun W s hs => rtenant_any tn W s hs)
 cases hp : Chk.pos (Chk.ids l) id with
 | none =>
  have e : Chk.unrefer l id tn n = (l, 0, 12) := by unfold Chk.unrefer; rw [hp]
  rw [Chk.posI_none hp] at HF
  rw [e]
  have HE := Lib.hid (ROp.same h hb (Below.refl _ _))
  clear h hp e hb HTN
  go_enter Tryz.func58, Tryz.ntmps58
  go_wp2_with (go_at_call 54; refine HF.out.mono ?_; rintro e w1 ⟨rfl, hw1⟩; obtain rfl := hw1.symm)
  go_ret2
  exact ⟨rfl, HE.out⟩
 | some k =>
  rw [Chk.posI_some hp] at HF
  have e3 : ¬ (k : Int) < 0 := by omega
  have hbad : ¬ (Chk.tenant tn ∧ 1 ≤ n ∧ n ≤ Chk.most) → Chk.unrefer l id tn n = (l, 0, 1) := fun hh => by unfold Chk.unrefer; rw [hp]; show ite _ _ _ = _; rw [if_pos hh]
  have HE := Lib.hid (ROp.same h hb (Below.refl _ _))
  have hmost : Chk.most = 2147483647 := rfl
  rcases args_cases tn n with hs | ⟨hs, h1⟩ | ⟨hs, h1, h2⟩ | ⟨hten, hs, h1, h2⟩
  ·
   have e := hbad (fun hh => by rw [decide_eq_true hh.1] at hs; cases hs)
   have HT2 := Lib.hid (fun W => HTN.out W _ hs)
   rw [e]
   clear h hp e hb HTN hbad hs hmost
   go_enter Tryz.func58, Tryz.ntmps58
   go_wp2_with (first
    | (go_at_call 90; refine (HT2.out _).mono ?_; rintro e w2 ⟨rfl, hw2⟩; obtain rfl := hw2.symm)
    | (go_at_call 54; refine HF.out.mono ?_; rintro e w1 ⟨rfl, hw1⟩; obtain rfl := hw1.symm))
   go_ret2
   exact ⟨rfl, HE.out⟩
  ·
   have e := hbad (fun hh => by omega)
   have HT2 := Lib.hid (fun W => HTN.out W _ hs)
   rw [e]
   clear h hp e hb HTN hbad hs hmost
   go_enter Tryz.func58, Tryz.ntmps58
   go_wp2_with (first
    | (go_at_call 90; refine (HT2.out _).mono ?_; rintro e w2 ⟨rfl, hw2⟩; obtain rfl := hw2.symm)
    | (go_at_call 54; refine HF.out.mono ?_; rintro e w1 ⟨rfl, hw1⟩; obtain rfl := hw1.symm))
   go_ret2
   exact ⟨rfl, HE.out⟩
  ·
   have e := hbad (fun hh => by omega)
   have HT2 := Lib.hid (fun W => HTN.out W _ hs)
   have n1 : ¬ n < 1 := by omega
   rw [e]
   clear h hp e hb HTN hbad hs hmost
   go_enter Tryz.func58, Tryz.ntmps58
   go_wp2_with (first
    | (go_at_call 90; refine (HT2.out _).mono ?_; rintro e w2 ⟨rfl, hw2⟩; obtain rfl := hw2.symm)
    | (go_at_call 54; refine HF.out.mono ?_; rintro e w1 ⟨rfl, hw1⟩; obtain rfl := hw1.symm))
   go_ret2
   exact ⟨rfl, HE.out⟩
  ·
   clear hbad
   have HT2 := Lib.hid (fun W => HTN.out W _ hs)
   have hk := (Chk.pos_lt hp).1
   have hkn : k < t.n := by rw [← h.len.1]; exact hk
   obtain ⟨g, x, hA, hg, hx, hn, hok, hck, hrg⟩ := h.at hkn
   have hmx := h.max
   have htot := hck.refs.tot
   have hheld := Chk.held_le hck.refs.pos hck.refs.up tn
   have hheld0 := Chk.held_nonneg hck.refs.pos tn
   have hlen16 := refs_len hck.refs
   have e1 : (0 : Int) ≤ (k : Int) := by omega
   have e2 : (k : Int) < (t.n : Int) := by omega
   have n1 : ¬ n < 1 := by omega
   have n2 : ¬ 2147483647 < n := by omega
   have hd := h.dl x (List.mem_of_getElem? hx)
   have hcc : ∀ W, Below w.heap.size w W → W.cell? ⟨a, 0, none⟩ = some (.slice (some ⟨g, 0, none⟩) t.n t.c) ∧ W.cell? ⟨g, k * 23 + 22, none⟩ = some (.slice x.A x.n x.k) ∧ W.frozen? ⟨g, k * 23 + 22, none⟩ = false ∧ W.rangeAt g (k * 23) x.cells := fun W hW => by
    have c0 := h.rd hW
    rw [hA] at c0
    exact ⟨c0, (hW.cell (p := ⟨g, k * 23 + 22, none⟩) hg).trans (ck_cells hck.dg hrg).2.2.2.2.2.2, (h.below hW).frz hA _, fun q v hv => (hW.cell (p := ⟨g, k * 23 + q, none⟩) hg).trans (hrg q v hv)⟩
   have HHE := Lib.hid (fun (W : World) (hW : Below w.heap.size w W) cs hcs v hv => rheld_any x.c hck.dg x.A x.n x.k hok.n (by have := hok.n; omega) w.heap.size W (hok.rd.below hW) hW.size tn cs hcs v hv)
   have HWI := Lib.hid (fun (W : World) (hW : Below w.heap.size w W) (m : Int) => rwith_any x.A x.n x.k x.c.refs hok.n (by have := hok.n; omega) W ((hok.rd.below hW).more hW.size) tn m)
   obtain ⟨H0, hH0⟩ : ∃ H0, Chk.held x.c.refs tn = H0 := ⟨_, rfl⟩
   rw [hH0] at hheld hheld0
   have ew : IntKind.i64.wrap (H0 - n) = H0 - n := IntWalk.i64_in _ (by omega)
   obtain ⟨cs, hcs⟩ : ∃ cs, x.cells = cs := ⟨_, rfl⟩
   have HCL : Hid (cs.length = 23) := Lib.hid (by rw [← hcs]; exact hd)
   rw [hcs] at hcc
   have HCC := Lib.hid hcc
   have HHH := Lib.hid (fun W hW => HHE.out W hW cs hcs H0 hH0)
   obtain ⟨c0, k22, _, rg⟩ := hcc w (Below.refl _ _)
   by_cases hover : H0 < n
   ·
    have e : Chk.unrefer l id tn n = (l, 0, 12) := by
     unfold Chk.unrefer; rw [hp]; show ite _ _ _ = _
     rw [if_neg (fun hh => hh ⟨hten, h1, by omega⟩), hn, hH0, if_pos hover]
    rw [e]
    have e4 : H0 - n < 0 := by omega
    have HE2 := Lib.hid (fun W hW => ROp.same h hb (w' := W) hW)
    clear h hp e hb HTN hs hmost hten hk hkn hA hg hx hn hok hck hrg htot hheld hheld0 hlen16 hcc hH0 hd hcs k22 hover
    go_enter Tryz.func58, Tryz.ntmps58
    go_wp2_with (first
     | (go_at_call 90; refine (HT2.out _).mono ?_; rintro e w2 ⟨rfl, hw2⟩; obtain rfl := hw2.symm)
     | (refine wpList_load_mid rfl _ (.tmp 34) rfl g (k * 23) rfl cs _ rg Tryz.underlying68 rfl (by rw [HCL.out]; exact sizeCk) ?_)
     | (go_at_call 93; refine (HHH.out _ (Below.refl _ _)).mono ?_; rintro e w3 ⟨rfl, b3⟩)
     | (go_at_call 54; refine HF.out.mono ?_; rintro e w1 ⟨rfl, hw1⟩; obtain rfl := hw1.symm))
    go_ret2
    exact ⟨rfl, HE2.out _ b3⟩
   ·
    have hu : Chk.unrefer l id tn n = if Chk.withR x.c.refs tn (H0 - n) = [] then (l.eraseIdx k, 1, 0) else (Chk.setRefs l k (Chk.withR x.c.refs tn (H0 - n)), 0, 0) := by
     unfold Chk.unrefer; rw [hp]; show ite _ _ _ = _
     rw [if_neg (fun hh => hh ⟨hten, h1, by omega⟩), hn, hH0, if_neg hover]
    have hrok : Chk.RefsOk (Chk.withR x.c.refs tn (H0 - n)) := Chk.refsOk_with hck.refs hten (by omega) (by rw [hH0, hmost]; omega)
    obtain ⟨rs, hrs⟩ : ∃ rs, Chk.withR x.c.refs tn (H0 - n) = rs := ⟨_, rfl⟩
    have HWW := Lib.hid (fun W hW => HWI.out W hW (H0 - n))
    rw [hrs] at hrok HWW hu
    have e4 : ¬ H0 - n < 0 := by omega
    have hrl := refs_len hrok
    obtain ⟨N, hN⟩ : ∃ N, rs.length = N := ⟨_, rfl⟩
    have HSP := Lib.hid (fun (W : World) (hW : Below w.heap.size w W) (v : Value) => h.split hA hkn hW v _ (hcc W hW).2.1)
    have HRE := Lib.hid (fun (W : World) (A' : Option Addr) (c' : Nat) (hW : Below w.heap.size w W) (ho : W.ownsRow w.heap.size 76 2 (.slice A' rs.length c') rs.length (rfs rs)) (hne : rs ≠ []) => h.refd hb hA hx hk hW ho hrok hne)
    by_cases hrne : rs = []
    ·
     rw [if_pos hrne] at hu
     have hi := h.inv.erase k
     have HFR := Lib.hid (fun (W : World) (A2 : Option Addr) (n2 c2 : Nat) (hrow : IsRow W a 58 [.slice A2 n2 c2]) (ho : W.ownsRow w.heap.size 68 23 (.slice A2 n2 c2) n2 (crs (t.D.take k ++ t.D.drop (k + 1)))) (hkp : Keep S w W) =>
      h.fresh hb hrow ho (l2 := l.eraseIdx k) (F' := F) (by rw [List.map_append, List.map_take, List.map_drop, h.d, List.eraseIdx_eq_take_drop_succ]) hi (fun z hz => (h.ok z (by rcases List.mem_append.1 hz with hz | hz; exact List.mem_of_mem_take hz; exact List.mem_of_mem_drop hz)).keep hkp h.fs) (fun b e => .inl e) hkp)
     have hcap := h.cap
     rw [hu]
     subst hrne
     have hN0 : N = 0 := by rw [← hN]; rfl
     have HSA := Lib.hid h.sa
     clear h hp hu hb HTN hs hmost hten hk hA hg hx hn hok hck hrg htot hheld hheld0 hlen16 hcc hH0 hd hcs hrs hrok HHE HWI HE HRE hover hN hN0 hrl hi
     go_enter Tryz.func58, Tryz.ntmps58
     go_upto_region 9 with (first
      | (go_at_call 90; refine (HT2.out _).mono ?_; rintro e w2 ⟨rfl, hw2⟩; obtain rfl := hw2.symm)
      | (refine wpList_load_mid rfl _ (.tmp 34) rfl g (k * 23) rfl cs _ rg Tryz.underlying68 rfl (by rw [HCL.out]; exact sizeCk) ?_)
      | (go_at_call 93; refine (HHH.out _ (Below.refl _ _)).mono ?_; rintro e w3 ⟨rfl, b3⟩)
      | (go_at_call 54; refine HF.out.mono ?_; rintro e w1 ⟨rfl, hw1⟩; obtain rfl := hw1.symm))
     have HB3 := Lib.hid b3
     clear c0 k22 rg b3 ew
     have hv0 : Below w3.heap.size w3 w3.drew := (Below.refl _ _).drew
     refine wp_region_late (fun W => Below w3.heap.size w3 W) [18] (by kernel_rfl) (hv0) (fun hHeld => ?_)
     refine tkL 0 oChkR30 ?v0_91 (.inl ⟨by rfl, ?h0_91⟩) ?r0_91
     case h0_91 =>
      intro W hSW
      unfold oChkR30
      try dsimp only at hSW
      go_simp
      try with_reducible rfl
     try simp only [oChkR30, PT]
     refine tkL 1 oChkR31 ?v1_92 (.inl ⟨by rfl, ?h1_92⟩) ?r1_92
     case h1_92 =>
      intro W hSW
      unfold oChkR31
      try dsimp only at hSW
      go_simp
      try with_reducible rfl
     try simp only [oChkR31, PT]
     refine tkL 2 oChkR32 ?v2_93 (.inl ⟨by rfl, ?h2_93⟩) ?r2_93
     case h2_93 =>
      intro W hSW
      unfold oChkR32
      try dsimp only at hSW
      go_simp
      try with_reducible rfl
     try simp only [oChkR32, PT]
     refine tkL 3 oChkR33 ?v3_94 (.inl ⟨by rfl, ?h3_94⟩) ?r3_94
     case h3_94 =>
      intro W hSW
      unfold oChkR33
      try dsimp only at hSW
      have c0 := (HCC.out W (HB3.out.trans (hSW.mono HB3.out.size))).1
      go_simp
      try with_reducible rfl
     try simp only [oChkR33, PT]
     refine tkL 4 oChkR34 ?v4_95 (.inl ⟨by rfl, ?h4_95⟩) ?r4_95
     case h4_95 =>
      intro W hSW
      unfold oChkR34
      try dsimp only at hSW
      go_simp
      try with_reducible rfl
     try simp only [oChkR34, PT]
     refine tkL 5 oChkR35 ?v5_96 (.inl ⟨by rfl, ?h5_96⟩) ?r5_96
     case h5_96 =>
      intro W hSW
      unfold oChkR35
      try dsimp only at hSW
      go_simp
      try with_reducible rfl
     try simp only [oChkR35, PT]
     refine tkL 6 oChkR36 ?v6_97 (.inl ⟨by rfl, ?h6_97⟩) ?r6_97
     case h6_97 =>
      intro W hSW
      unfold oChkR36
      try dsimp only at hSW
      go_simp
      try with_reducible rfl
     try simp only [oChkR36, PT]
     refine tkL 7 oChkR37 ?v7_98 (.inl ⟨by rfl, ?h7_98⟩) ?r7_98
     case h7_98 =>
      intro W hSW
      unfold oChkR37
      try dsimp only at hSW
      go_simp
      try with_reducible rfl
     try simp only [oChkR37, PT]
     refine tkL 8 oChkR38 ?v8_99 (.inl ⟨by rfl, ?h8_99⟩) ?r8_99
     case h8_99 =>
      intro W hSW
      unfold oChkR38
      try dsimp only at hSW
      have c0 := (HCC.out W (HB3.out.trans (hSW.mono HB3.out.size))).1
      go_simp
      try with_reducible rfl
     try simp only [oChkR38, PT]
     refine tkL 9 oChkR39 ?v9_100 (.inl ⟨by rfl, ?h9_100⟩) ?r9_100
     case h9_100 =>
      intro W hSW
      unfold oChkR39
      try dsimp only at hSW
      go_simp
      try with_reducible rfl
     try simp only [oChkR39, PT]
     refine tkL 10 oChkR310 ?v10_101 (.inl ⟨by rfl, ?h10_101⟩) ?r10_101
     case h10_101 =>
      intro W hSW
      unfold oChkR310
      try dsimp only at hSW
      go_simp
      try with_reducible rfl
     try simp only [oChkR310, PT]
     refine tkL 11 oChkR311 ?v11_102 (.inl ⟨by rfl, ?h11_102⟩) ?r11_102
     case h11_102 =>
      intro W hSW
      unfold oChkR311
      try dsimp only at hSW
      go_simp
      try with_reducible rfl
     try simp only [oChkR311, PT]
     refine tkL 12 oChkR312 ?v12_103 (.inl ⟨by rfl, ?h12_103⟩) ?r12_103
     case h12_103 =>
      intro W hSW
      unfold oChkR312
      try dsimp only at hSW
      have k22 := (HCC.out W (HB3.out.trans (hSW.mono HB3.out.size))).2.1
      go_simp
      try with_reducible rfl
     try simp only [oChkR312, PT]
     refine tkL 13 oChkR313 ?v13_104 (.inl ⟨by rfl, ?h13_104⟩) ?r13_104
     case h13_104 =>
      intro W hSW
      unfold oChkR313
      try dsimp only at hSW
      go_simp
      try with_reducible rfl
     try simp only [oChkR313, PT]
     refine tkL 14 oChkR314 ?v14_105 (.inl ⟨by rfl, ?h14_105⟩) ?r14_105
     case h14_105 =>
      intro W hSW
      unfold oChkR314
      try dsimp only at hSW
      go_simp
      try with_reducible rfl
     try simp only [oChkR314, PT]
     refine rdyL [15] ?_
     refine AllReadyL.cons (o := oChkR315) rfl (fun K hK => ?_) AllReadyL.nil
     unfold oChkR315
     go_simp
     refine (HWW.out _ (HB3.out.trans ((hv0).mono HB3.out.size))).mono ?_
     rintro e w90 ⟨A', c', rfl, own', b90⟩
     have hv90 : Below w3.heap.size w3 w90 := (hv0).trans (b90.mono (hv0).size)
     have HO := Lib.hid (own_base own' (HB3.out.trans ((hv0).mono HB3.out.size)).size)
     have HBW := Lib.hid (HB3.out.trans (hv90.mono HB3.out.size))
     have k22 := (HCC.out w90 HBW.out).2.1
     have f22 := (HCC.out w90 HBW.out).2.2.1
     clear b90 own'
     refine hK.out _ _ (hv90) (fun hHeld => ?_)
     clear hK K
     try simp only [PT]
     refine tkL 16 oChkR316 ?v16_106 (.inl ⟨by rfl, ?h16_106⟩) ?r16_106
     case h16_106 =>
      intro W hSW
      unfold oChkR316
      try dsimp only at hSW
      go_simp
      try with_reducible rfl
     try simp only [oChkR316, PT]
     refine tkL 17 oChkR317 ?v17_107 (.inl ⟨by rfl, ?h17_107⟩) ?r17_107
     case h17_107 =>
      intro W hSW
      unfold oChkR317
      try dsimp only at hSW
      go_simp
      try with_reducible rfl
     try simp only [oChkR317, PT]
     refine rdyL [18] ?_
     refine AllReadyL.late (o := oChkR318) rfl (by rfl) (fun K hK => ?_) AllReadyL.nil
     unfold oChkR318
     go_simp
     have HSQ := Lib.hid (HSP.out w90 HBW.out (.slice A' 0 c'))
     try clear k22 f22 e3
     refine hK.out _ _ ?_
     clear hK K
     try simp only [PT]
     refine wpAnyL_done (by kernel_rfl) ?_ _
     obtain ⟨r1, r2, hrow, k22', hkp, hsz⟩ := HSQ.out
     obtain ⟨w5, hw5⟩ : ∃ y, w90.setCell ⟨g, k * 23 + 22, none⟩ (.slice A' 0 c') = y := ⟨_, rfl⟩
     have hge : w.heap.size ≤ w5.heap.size := by rw [← hw5, hsz]; exact HBW.out.size
     rw [hw5] at r1 r2 hrow k22' hkp hsz
     rw [hw5]
     rw [← hsz] at r1 r2
     have hcut1 := fun W => run_cutHi (P := Tryz.prog) W chunkT g t.n t.c k .i64 (by omega) (by omega)
     have hcut2 := fun W => run_cutFrom (P := Tryz.prog) W chunkT (some ⟨g, 0, none⟩) t.n t.c (k + 1) .i64 (by omega)
     obtain ⟨A3, hA3⟩ : ∃ y, (if t.c = k + 1 then some ⟨g, 0, none⟩ else (some (⟨g, 0, none⟩ : Addr)).map (·.add ((k + 1) * 23))) = y := ⟨_, rfl⟩
     simp only [hA3] at hcut2
     rw [hA3] at r2
     push_cast at hcut2
     have ek : IntKind.i64.wrap ((k : Int) + 1) = (k : Int) + 1 := IntWalk.i64_in _ (by omega)
     have ek0 : (0 : Int) ≤ (k : Int) + 1 := by omega
     have c0 := hrow.cell 0
     have HR1 := Lib.hid r1
     have HR2 := Lib.hid r2
     have HRO := Lib.hid hrow
     have HKP := Lib.hid hkp
     have HGE := Lib.hid hge
     have HKN := Lib.hid hkn
     have hmx2 : t.n ≤ 65536 := hmx
     clear r1 r2 hrow hkp hsz hw5 hA3 hge HSQ hcap
     go_upto_region 14 with (at_builtin; refine wpList_appR rfl (.tmp 70) (.tmp 76) 56 rfl w5.heap.size 68 _ 23 88 chunkT none 0 0 [] (some ⟨g, 0, none⟩) k t.c (crs (t.D.take k)) rfl rfl (World.ownsRow_nil _ _ _ _) HR1.out (crs_one _) (Below.refl _ _) (by omega) (Nat.le_refl _) (Nat.le_refl _) ?_; intro A1 c1 w6 own6 b6; simp only [Nat.zero_add, List.nil_append] at own6; simp only [Nat.zero_add]; have HO6 := Lib.hid own6; clear own6)
     have c06 := (HRO.out.below' b6).cell 0
     have HB6 := Lib.hid b6
     clear b6 c0 k22'
     go_wp2_with (at_builtin; refine wpList_appR rfl (.tmp 79) (.tmp 86) 56 rfl w5.heap.size 68 _ 23 88 chunkT A1 k c1 (crs (t.D.take k)) A3 (t.n - (k + 1)) (t.c - (k + 1)) (crs (t.D.drop (k + 1))) rfl rfl HO6.out (HR2.out.below HB6.out) (crs_one _) HB6.out (by omega) (Nat.le_refl _) HB6.out.size ?_; intro A2 c2 w7 own7 b7; have HO7 := Lib.hid own7; have HB7 := Lib.hid b7; have c07 := (HRO.out.below' b7).cell 0; have f07 := (HRO.out.below' b7).frozen 0; clear own7 b7)
     go_ret2
     have row7 := HRO.out.below' HB7.out
     have ha5 := HRO.out.lt
     exact ⟨rfl, HFR.out _ A2 _ c2 (row7.set 0 _) (own_base (own_same2 (show w7.ownsRow w5.heap.size _ 23 _ _ (crs (t.D.take k ++ t.D.drop (k + 1))) by unfold crs; rw [List.flatMap_append]; exact HO7.out) (fun b e1 _ => Below.heap_setCell _ _ _ _ (show b ≠ a by omega))) HGE.out) ((HKP.out.trans (Keep.of_below HB7.out)).setCell (.inl HSA.out) _)⟩
    ·
     rw [if_neg hrne] at hu
     rw [hu]
     have hN0 : 0 < N := by rw [← hN]; exact List.length_pos_iff.2 hrne
     have hNN : (0 : Int) < (N : Int) := by omega
     have HNE := Lib.hid hrne
     have HNL := Lib.hid hN
     clear h hp hu hb HTN hs hmost hten hk hkn hA hg hx hn hok hck hrg htot hheld hheld0 hlen16 hcc hH0 hd hcs hrs hrok hrne HHE HWI HE hover hN hrl
     go_enter Tryz.func58, Tryz.ntmps58
     go_upto_region 9 with (first
      | (go_at_call 90; refine (HT2.out _).mono ?_; rintro e w2 ⟨rfl, hw2⟩; obtain rfl := hw2.symm)
      | (refine wpList_load_mid rfl _ (.tmp 34) rfl g (k * 23) rfl cs _ rg Tryz.underlying68 rfl (by rw [HCL.out]; exact sizeCk) ?_)
      | (go_at_call 93; refine (HHH.out _ (Below.refl _ _)).mono ?_; rintro e w3 ⟨rfl, b3⟩)
      | (go_at_call 54; refine HF.out.mono ?_; rintro e w1 ⟨rfl, hw1⟩; obtain rfl := hw1.symm))
     have HB3 := Lib.hid b3
     clear c0 k22 rg b3 ew
     have hv0 : Below w3.heap.size w3 w3.drew := (Below.refl _ _).drew
     refine wp_region_late (fun W => Below w3.heap.size w3 W) [18] (by kernel_rfl) (hv0) (fun hHeld => ?_)
     refine tkL 0 oChkR30 ?v0_191 (.inl ⟨by rfl, ?h0_191⟩) ?r0_191
     case h0_191 =>
      intro W hSW
      unfold oChkR30
      try dsimp only at hSW
      go_simp
      try with_reducible rfl
     try simp only [oChkR30, PT]
     refine tkL 1 oChkR31 ?v1_192 (.inl ⟨by rfl, ?h1_192⟩) ?r1_192
     case h1_192 =>
      intro W hSW
      unfold oChkR31
      try dsimp only at hSW
      go_simp
      try with_reducible rfl
     try simp only [oChkR31, PT]
     refine tkL 2 oChkR32 ?v2_193 (.inl ⟨by rfl, ?h2_193⟩) ?r2_193
     case h2_193 =>
      intro W hSW
      unfold oChkR32
      try dsimp only at hSW
      go_simp
      try with_reducible rfl
     try simp only [oChkR32, PT]
     refine tkL 3 oChkR33 ?v3_194 (.inl ⟨by rfl, ?h3_194⟩) ?r3_194
     case h3_194 =>
      intro W hSW
      unfold oChkR33
      try dsimp only at hSW
      have c0 := (HCC.out W (HB3.out.trans (hSW.mono HB3.out.size))).1
      go_simp
      try with_reducible rfl
     try simp only [oChkR33, PT]
     refine tkL 4 oChkR34 ?v4_195 (.inl ⟨by rfl, ?h4_195⟩) ?r4_195
     case h4_195 =>
      intro W hSW
      unfold oChkR34
      try dsimp only at hSW
      go_simp
      try with_reducible rfl
     try simp only [oChkR34, PT]
     refine tkL 5 oChkR35 ?v5_196 (.inl ⟨by rfl, ?h5_196⟩) ?r5_196
     case h5_196 =>
      intro W hSW
      unfold oChkR35
      try dsimp only at hSW
      go_simp
      try with_reducible rfl
     try simp only [oChkR35, PT]
     refine tkL 6 oChkR36 ?v6_197 (.inl ⟨by rfl, ?h6_197⟩) ?r6_197
     case h6_197 =>
      intro W hSW
      unfold oChkR36
      try dsimp only at hSW
      go_simp
      try with_reducible rfl
     try simp only [oChkR36, PT]
     refine tkL 7 oChkR37 ?v7_198 (.inl ⟨by rfl, ?h7_198⟩) ?r7_198
     case h7_198 =>
      intro W hSW
      unfold oChkR37
      try dsimp only at hSW
      go_simp
      try with_reducible rfl
     try simp only [oChkR37, PT]
     refine tkL 8 oChkR38 ?v8_199 (.inl ⟨by rfl, ?h8_199⟩) ?r8_199
     case h8_199 =>
      intro W hSW
      unfold oChkR38
      try dsimp only at hSW
      have c0 := (HCC.out W (HB3.out.trans (hSW.mono HB3.out.size))).1
      go_simp
      try with_reducible rfl
     try simp only [oChkR38, PT]
     refine tkL 9 oChkR39 ?v9_200 (.inl ⟨by rfl, ?h9_200⟩) ?r9_200
     case h9_200 =>
      intro W hSW
      unfold oChkR39
      try dsimp only at hSW
      go_simp
      try with_reducible rfl
     try simp only [oChkR39, PT]
     refine tkL 10 oChkR310 ?v10_201 (.inl ⟨by rfl, ?h10_201⟩) ?r10_201
     case h10_201 =>
      intro W hSW
      unfold oChkR310
      try dsimp only at hSW
      go_simp
      try with_reducible rfl
     try simp only [oChkR310, PT]
     refine tkL 11 oChkR311 ?v11_202 (.inl ⟨by rfl, ?h11_202⟩) ?r11_202
     case h11_202 =>
      intro W hSW
      unfold oChkR311
      try dsimp only at hSW
      go_simp
      try with_reducible rfl
     try simp only [oChkR311, PT]
     refine tkL 12 oChkR312 ?v12_203 (.inl ⟨by rfl, ?h12_203⟩) ?r12_203
     case h12_203 =>
      intro W hSW
      unfold oChkR312
      try dsimp only at hSW
      have k22 := (HCC.out W (HB3.out.trans (hSW.mono HB3.out.size))).2.1
      go_simp
      try with_reducible rfl
     try simp only [oChkR312, PT]
     refine tkL 13 oChkR313 ?v13_204 (.inl ⟨by rfl, ?h13_204⟩) ?r13_204
     case h13_204 =>
      intro W hSW
      unfold oChkR313
      try dsimp only at hSW
      go_simp
      try with_reducible rfl
     try simp only [oChkR313, PT]
     refine tkL 14 oChkR314 ?v14_205 (.inl ⟨by rfl, ?h14_205⟩) ?r14_205
     case h14_205 =>
      intro W hSW
      unfold oChkR314
      try dsimp only at hSW
      go_simp
      try with_reducible rfl
     try simp only [oChkR314, PT]
     refine rdyL [15] ?_
     refine AllReadyL.cons (o := oChkR315) rfl (fun K hK => ?_) AllReadyL.nil
     unfold oChkR315
     go_simp
     refine (HWW.out _ (HB3.out.trans ((hv0).mono HB3.out.size))).mono ?_
     rintro e w190 ⟨A', c', rfl, own', b190⟩
     have hv190 : Below w3.heap.size w3 w190 := (hv0).trans (b190.mono (hv0).size)
     have HO := Lib.hid (own_base own' (HB3.out.trans ((hv0).mono HB3.out.size)).size)
     have HBW := Lib.hid (HB3.out.trans (hv190.mono HB3.out.size))
     have k22 := (HCC.out w190 HBW.out).2.1
     have f22 := (HCC.out w190 HBW.out).2.2.1
     clear b190 own'
     refine hK.out _ _ (hv190) (fun hHeld => ?_)
     clear hK K
     try simp only [PT]
     refine tkL 16 oChkR316 ?v16_206 (.inl ⟨by rfl, ?h16_206⟩) ?r16_206
     case h16_206 =>
      intro W hSW
      unfold oChkR316
      try dsimp only at hSW
      go_simp
      try with_reducible rfl
     try simp only [oChkR316, PT]
     refine tkL 17 oChkR317 ?v17_207 (.inl ⟨by rfl, ?h17_207⟩) ?r17_207
     case h17_207 =>
      intro W hSW
      unfold oChkR317
      try dsimp only at hSW
      go_simp
      try with_reducible rfl
     try simp only [oChkR317, PT]
     refine rdyL [18] ?_
     refine AllReadyL.late (o := oChkR318) rfl (by rfl) (fun K hK => ?_) AllReadyL.nil
     unfold oChkR318
     go_simp
     have HEX := Lib.hid (HRE.out w190 A' c' HBW.out HO.out HNE.out)
     have HSQ := Lib.hid (HSP.out w190 HBW.out (.slice A' rs.length c'))
     try clear k22 f22 e3
     refine hK.out _ _ ?_
     clear hK K
     try simp only [PT]
     refine wpAnyL_done (by kernel_rfl) ?_ _
     obtain ⟨_, _, hrow, k22', _, _⟩ := HSQ.out
     obtain ⟨w5, hw5⟩ : ∃ y, w190.setCell ⟨g, k * 23 + 22, none⟩ (.slice A' rs.length c') = y := ⟨_, rfl⟩
     rw [hw5] at hrow k22' HEX
     rw [hw5]
     rw [HNL.out] at k22' ⊢
     have c0 := hrow.cell 0
     clear hrow hw5 HSQ HO
     go_wp2_with fail
     go_ret2
     obtain ⟨F', h1, h2, h3, h4⟩ := HEX.out
     exact ⟨rfl, F', S, h1, h2, h3, fun _ h => .inl h, h4⟩
end
section
open Go.RowKit
end
section
open Go.RowKit
theorem RAt.added {w W7 W10 : World} {F S : Nat → Prop} {a : Nat} {t : RM} {l : List Chk.Ck} (h : RAt w F S a t l) (hb : ∀ b, F b ∨ S b → b < w.heap.size) {k br n2 c2 : Nat} {c : Chk.Ck} {A2 : Option Addr} (hrl : c.refs.length = 1)
  (hB7 : Below w.heap.size w W7) (hbr : w.heap.size ≤ br) (hrow : IsRow W7 br 76 (rfs c.refs)) (hB10 : Below W7.heap.size W7 W10) (hn2 : 0 < n2)
  (ho : W10.ownsRow W7.heap.size 68 23 (.slice A2 n2 c2) n2 (crs (t.D.take k) ++ ckCells c (.slice (some ⟨br, 0, none⟩) 1 1) ++ crs (t.D.drop k))) (hi : Chk.Inv (l.take k ++ c :: l.drop k)) :
  ROp w F S a (l.take k ++ c :: l.drop k) (W10.setCell ⟨a, 0, none⟩ (.slice A2 n2 c2)) := by
 have hB : Below w.heap.size w W10 := hB7.trans (hB10.mono hB7.size)
 have halt := h.row.lt
 have hs7 := hB7.size
 have hs10 := hB10.size
 have hsz : (W10.setCell ⟨a, 0, none⟩ (.slice A2 n2 c2)).heap.size = W10.heap.size := by simp [World.setCell]
 have hK : Keep S w (W10.setCell ⟨a, 0, none⟩ (.slice A2 n2 c2)) := (Keep.of_below hB).setCell (a := ⟨a, 0, none⟩) (.inl h.sa) _
 obtain ⟨g2, cap, hv, hg2, _⟩ := ho.form hn2
 have hA2 : A2 = some ⟨g2, 0, none⟩ := by injection hv
 have hbr7 := hrow.lt
 refine h.fresh hb (F' := fun b => F b ∨ b = br) (D2 := t.D.take k ++ ⟨c, some ⟨br, 0, none⟩, 1, 1⟩ :: t.D.drop k) ((h.row.below' hB).set 0 _) ?_ ?_ hi (fun z hz => ?_) (fun b e => ?_) hK
 ·
  refine own_base (own_same2 ?_ fun b e1 _ => Below.heap_setCell _ _ _ _ (show b ≠ a by omega)) hs7
  show W10.ownsRow W7.heap.size _ 23 _ _ (crs (t.D.take k ++ ⟨c, some ⟨br, 0, none⟩, 1, 1⟩ :: t.D.drop k))
  have e : crs (t.D.take k ++ ⟨c, some ⟨br, 0, none⟩, 1, 1⟩ :: t.D.drop k) = crs (t.D.take k) ++ ckCells c (.slice (some ⟨br, 0, none⟩) 1 1) ++ crs (t.D.drop k) := by
   unfold crs; rw [List.flatMap_append, List.flatMap_cons, List.append_assoc]; rfl
  rw [e]; exact ho
 ·
  rw [List.map_append, List.map_cons, List.map_take, List.map_drop, h.d]
 ·
  rcases List.mem_append.1 hz with hz | hz
  ·
   exact ((h.ok z (List.mem_of_mem_take hz)).keep hK h.fs).mono fun b e => .inl e
  ·
   rcases List.mem_cons.1 hz with rfl | hz
   ·
    refine ⟨?_, hrl, Nat.le_refl _, by show 1 ≤ maxLen; unfold maxLen; omega, fun p hp => .inr (by rw [← Option.some.inj hp])⟩
    have hr := (hrow.below' hB10).rd (B := W10.heap.size) (n := 1) (size := 2) (by rw [rfs_len, hrl]) (by omega)
    rw [hsz]
    exact hr.setCell_far (fun p hp => by rw [← Option.some.inj hp]; show br ≠ a; omega) _
   ·
    exact ((h.ok z (List.mem_of_mem_drop hz)).keep hK h.fs).mono fun b e => .inl e
 ·
  rcases e with e | rfl
  ·
   exact .inl e
  ·
   exact .inr ⟨hbr, by rw [hsz]; omega, fun p hp => by rw [hA2] at hp; rw [← Option.some.inj hp]; show g2 ≠ b; omega⟩
def RAdd (w : World) (F S : Nat → Prop) (a : Nat) (R : List Chk.Ck × Int × Int) (e : Ending) (w' : World) : Prop := e = .returned (.tuple #[.int .i64 R.2.1, .int .i64 R.2.2]) ∧ ROp w F S a R.1 w'
theorem run_cutHiO {P : Program} (w : World) {t e : TypeId} {z : Value} {size bytes : Nat} (E : ElemT P t e z size bytes) (A : Option Addr) (n c h : Nat) (kh : IntKind) (hh : h ≤ c) (hA : ∀ p, A = some p → p = ⟨p.block, 0, none⟩) :
  (Instr.sliceAt t (.slice A n c) none (some (.int kh h)) none).run P w = .ok (.slice A h c) w := by
 obtain ⟨i, hi, hz, hsize, hby⟩ := info_parts E.info
 cases A with
 | none => simp [Instr.sliceAt, run_underlying E.sl, Instr.slice, Instr.sliceBounds, run_sliceBound, hh, sizeOf, typeInfo, hi, hsize]
 | some p =>
  rw [hA p rfl]
  simp [Instr.sliceAt, run_underlying E.sl, Instr.slice, Instr.sliceBounds, run_sliceBound, hh, sizeOf, typeInfo, hi, hsize, Addr.add_lit]
set_option maxRecDepth 100000 in
set_option maxHeartbeats 6400000 in
theorem radd_any {w : World} {F S : Nat → Prop} {a : Nat} {t : RM} {l : List Chk.Ck} (h : RAt w F S a t l) (hb : ∀ b, F b ∨ S b → b < w.heap.size) (dg : List UInt8) (hdg : dg.length = 16) (pr : Int) (hp : Chk.inR pr 4294967296) (u : Chk.Un) (tn : Int) :
  Calls Tryz.prog 56 #[.pointer (some ⟨a, 0, none⟩), .agg (bvs dg).toArray, .int .u32 pr, unV u, .int .i64 tn] w (RAdd w F S a (Chk.add l dg pr u tn)) := by
 obtain ⟨D, hD⟩ : ∃ D, bvs dg = D := ⟨_, rfl⟩
 have hDL : D.length = 16 := by rw [← hD, bvs_length, hdg]
 have HD := Lib.hid hD
 have HDL := Lib.hid hDL
 rw [hD]
 obtain ⟨w0, hw0⟩ : ∃ z, (w.alloc (.cells D.toArray 60)).alloc (.cells #[.int .i64 u.r, .int .i64 u.g, .int .i64 u.u] 65) = z := ⟨_, rfl⟩
 have hb0 : Below w.heap.size w w0 := by rw [← hw0]; exact box_below2 w _ _
 have hsz0 : w0.heap.size = w.heap.size + 2 := by rw [← hw0]; simp
 have hrD : IsRow w0 w.heap.size 60 D := by rw [← hw0]; exact (IsRow.new w _ D).alloc _
 have hrU : IsRow w0 (w.heap.size + 1) 65 [.int .i64 u.r, .int .i64 u.g, .int .i64 u.u] := by
  have := IsRow.new (w.alloc (.cells D.toArray 60)) 65 [.int .i64 u.r, .int .i64 u.g, .int .i64 u.u]
  rw [show (w.alloc (.cells D.toArray 60)).heap.size = w.heap.size + 1 by simp] at this
  rw [← hw0]; exact this
 have HW0 := Lib.hid hw0
 have HB0 := Lib.hid hb0
 have HX := Lib.hid (And.intro hsz0 (And.intro hrD hrU))
 have H := Lib.hid (h.below hb0)
 have HVL := Lib.hid (fun W s hs => refValid_any u W s hs)
 have HUV : Hid (unV u = .agg #[.int .i64 u.r, .int .i64 u.g, .int .i64 u.u]) := Lib.hid rfl
 have HTN := Lib.hid (fun W s hs => rtenant_any tn W s hs)
 have HSM := Lib.hid (fun W (hW : Below w.heap.size w W) => ROp.same h hb hW)
 have HAT := Lib.hid (fun W (hW : Below w0.heap.size w0 W) v q hv hq => rat_any (H.out.below hW) u v q hv hq)
 obtain ⟨v, hv⟩ : ∃ v, (Chk.unitAt l u).getD 0 = v := ⟨_, rfl⟩
 obtain ⟨q, hq⟩ : ∃ q, (Chk.unitAt l u).isSome = q := ⟨_, rfl⟩
 have HAT2 := Lib.hid (fun W hW => HAT.out W hW v q hv hq)
 rw [HUV.out] at HAT2 ⊢
 obtain ⟨s, hs⟩ : ∃ s, decide (Chk.valid u) = s := ⟨_, rfl⟩
 have HV := Lib.hid (fun W => HVL.out W s hs)
 rw [HUV.out] at HV
 obtain ⟨s2, hs2⟩ : ∃ s, decide (Chk.tenant tn) = s := ⟨_, rfl⟩
 have HT := Lib.hid (fun W => HTN.out W s2 hs2)
 have hlen := h.len.1
 have hmx := h.max
 have b0 := hrU.cell 0
 have b1 := hrU.cell 1
 have b2 := hrU.cell 2
 dsimp only [List.getElem?_cons_zero, List.getElem?_cons_succ] at b0 b1 b2
 have HBB := Lib.hid (fun (W : World) (hW : Below w0.heap.size w0 W) => And.intro ((hrU.below' hW).cell 0) (And.intro ((hrU.below' hW).cell 1) ((hrU.below' hW).cell 2)))
 clear hw0 hb0 hsz0 hrD hrU hD hDL HAT HVL HTN
 cases s with
 | false =>
  have e : Chk.add l dg pr u tn = (l, 0, 1) := by unfold Chk.add; rw [if_pos (fun hh => by rw [decide_eq_true hh.1] at hs; cases hs)]
  rw [e]
  clear h hb e hs hs2 hq hv hlen
  go_enter Tryz.func56, Tryz.ntmps56
  go_wp2_with (rw [HW0.out]; go_at_call 89; refine (HV.out _).mono ?_; rintro e w1 ⟨rfl, v1⟩)
  go_ret2
  exact ⟨rfl, HSM.out _ (HB0.out.trans (v1.mono HB0.out.size))⟩
 | true =>
  have hu := of_decide_eq_true hs
  cases s2 with
  | false =>
   have e : Chk.add l dg pr u tn = (l, 0, 1) := by unfold Chk.add; rw [if_pos (fun hh => by rw [decide_eq_true hh.2] at hs2; cases hs2)]
   rw [e]
   clear h hb e hs hs2 hq hv hlen hu
   go_enter Tryz.func56, Tryz.ntmps56
   go_wp2_with (first
    | (go_at_call 90; refine (HT.out _).mono ?_; rintro e w2 ⟨rfl, hw2⟩; obtain rfl := hw2.symm)
    | (rw [HW0.out]; go_at_call 89; refine (HV.out _).mono ?_; rintro e w1 ⟨rfl, v1⟩))
   go_ret2
   exact ⟨rfl, HSM.out _ (HB0.out.trans (v1.mono HB0.out.size))⟩
  | true =>
   have ht := of_decide_eq_true hs2
   cases q with
   | true =>
    have e : Chk.add l dg pr u tn = (l, 0, 20) := by unfold Chk.add; rw [if_neg (fun hh => hh ⟨hu, ht⟩), if_pos hq]
    rw [e]
    clear h hb e hs hs2 hq hv hlen hu ht
    go_enter Tryz.func56, Tryz.ntmps56
    go_wp2_with (first
     | (go_at_call 90; refine (HT.out _).mono ?_; rintro e w2 ⟨rfl, hw2⟩; obtain rfl := hw2.symm; obtain ⟨y0, y1, y2⟩ := HBB.out _ v1)
     | (go_at_call 81; refine (HAT2.out _ v1).mono ?_; rintro e w3 ⟨rfl, v3⟩)
     | (rw [HW0.out]; go_at_call 89; refine (HV.out _).mono ?_; rintro e w1 ⟨rfl, v1⟩))
    go_ret2
    have v4 := v1.trans (v3.mono v1.size)
    exact ⟨rfl, HSM.out _ (HB0.out.trans (v4.mono HB0.out.size))⟩
   | false =>
    by_cases hfull : 65536 ≤ t.n
    ·
     have e : Chk.add l dg pr u tn = (l, 0, 2) := by unfold Chk.add; rw [if_neg (fun hh => hh ⟨hu, ht⟩), if_neg (by rw [hq]; simp), if_pos (by rw [hlen]; exact hfull)]
     rw [e]
     have hn : (t.n : Int) = 65536 := by omega
     have HRD := Lib.hid (fun W hW => H.out.rd (w' := W) hW)
     have HN := Lib.hid hn
     clear h hb e hs hs2 hq hv hlen hu ht hfull hn hmx
     go_enter Tryz.func56, Tryz.ntmps56
     go_upto_region 6 with (first
      | (go_at_call 90; refine (HT.out _).mono ?_; rintro e w2 ⟨rfl, hw2⟩; obtain rfl := hw2.symm; obtain ⟨y0, y1, y2⟩ := HBB.out _ v1)
      | (go_at_call 81; refine (HAT2.out _ v1).mono ?_; rintro e w3 ⟨rfl, v3⟩)
      | (rw [HW0.out]; go_at_call 89; refine (HV.out _).mono ?_; rintro e w1 ⟨rfl, v1⟩))
     have v4 := v1.trans (v3.mono v1.size)
     have c0 := HRD.out _ v4
     have hd : decide ((65536 : Int) ≤ (t.n : Int)) = true := by rw [HN.out]; rfl
     go_wp2_with fail
     go_ret2
     exact ⟨rfl, HSM.out _ (HB0.out.trans (v4.mono HB0.out.size))⟩
    ·
     obtain ⟨k, hk⟩ : ∃ k, Chk.gap (Chk.ids l) = k := ⟨_, rfl⟩
     have hkle : k ≤ t.n := by rw [← hk, ← hlen]; simpa using Chk.gap_le (Chk.ids l)
     have e : Chk.add l dg pr u tn = (l.take k ++ ⟨(k : Int) + 1, dg, pr, u, false, [⟨tn, 1⟩]⟩ :: l.drop k, (k : Int) + 1, 0) := by
      unfold Chk.add; rw [if_neg (fun hh => hh ⟨hu, ht⟩), if_neg (by rw [hq]; simp), if_neg (by rw [hlen]; exact hfull), hk]
     have hi : Chk.Inv (Chk.add l dg pr u tn).1 := h.inv.add u tn hdg hp
     rw [e] at hi ⊢
     have hbelow : ∀ j, j < k → (Chk.nth l j).id = (j : Int) + 1 := fun j hj => Chk.gap_below (Chk.ids l) j _ (by rw [hk]; exact hj) (by rw [List.getElem?_map, Chk.nth_get (by rw [hlen]; omega)]; rfl)
     have habove : k < t.n → (Chk.nth l k).id ≠ (k : Int) + 1 := fun hkn => by
      have := Chk.gap_above (Chk.ids l) (Chk.nth l k).id (by rw [hk, List.getElem?_map, Chk.nth_get (by rw [hlen]; exact hkn)]; rfl)
      rwa [hk] at this
     rcases Nat.lt_or_eq_of_le hkle with hkn | hkn
     ·
      have hmx' : t.n < 65536 := by omega
      have hhn : k < t.n := hkn
      have HEND := Lib.hid (fun (W7 W10 : World) (br n2 c2 : Nat) (A2 : Option Addr) hB7 hbr hrow hB10 hn2 ho => h.added (k := k) (c := ⟨(k : Int) + 1, dg, pr, u, false, [⟨tn, 1⟩]⟩) (W7 := W7) (W10 := W10) (br := br) (n2 := n2) (c2 := c2) (A2 := A2) hb rfl hB7 hbr hrow hB10 hn2 ho hi)
      have HRD := Lib.hid (fun W hW => H.out.rd (w' := W) hW)
      have HBE := Lib.hid hbelow
      have HAB := Lib.hid habove
      have HEL : Hid (∀ W, Below w0.heap.size w0 W → ∀ j, j < t.n → ∃ g, t.A = some ⟨g, 0, none⟩ ∧ W.cell? ⟨g, j * 23, none⟩ = some (.int .i64 (Chk.nth l j).id)) := Lib.hid (fun W hW j hj => by
       obtain ⟨g, x, hA, _, _, hn, _, hck, hrg⟩ := (H.out.below hW).at hj
       exact ⟨g, hA, by rw [hn]; exact (ck_cells hck.dg hrg).1⟩)
      have hA0 : ∀ p, t.A = some p → p = ⟨p.block, 0, none⟩ := fun p hpA => by
       rcases h.own.2 with h0 | ⟨g, cap, cur, hv, hg, hh, r⟩
       ·
        injection h0.1 with h1; rw [hpA] at h1; cases h1
       ·
        injection hv with h1; rw [hpA] at h1; rw [Option.some.inj h1]
      have hcap := h.cap
      have hcut1 := fun W => run_cutHiO (P := Tryz.prog) W chunkT t.A t.n t.c k .i64 (by omega) hA0
      have hcut2 := fun W => run_cutFrom (P := Tryz.prog) W chunkT t.A t.n t.c k .i64 hkle
      obtain ⟨A3, hA3⟩ : ∃ y, (if t.c = k then t.A else t.A.map (·.add (k * 23))) = y := ⟨_, rfl⟩
      simp only [hA3] at hcut2
      have HROW := Lib.hid (fun (W : World) (hW : Below w.heap.size w W) => (h.below hW).row)
      have HR1 := Lib.hid (fun (W : World) (hW : Below w.heap.size w W) => show Rd W W.heap.size 23 t.A k (crs (t.D.take k)) from by
       have := (Rd.of_own (h.below hW).own).take hkle
       rwa [flat_take h.dl] at this)
      have HR2 := Lib.hid (fun (W : World) (hW : Below w.heap.size w W) => show Rd W W.heap.size 23 A3 (t.n - k) (crs (t.D.drop k)) from by
       have := (Rd.of_own (h.below hW).own).cut hkle hcap.1
       rw [flat_drop h.dl] at this
       rwa [hA3] at this)
      have HCK : Hid (∀ v, ckCells ⟨(k : Int) + 1, dg, pr, u, false, [⟨tn, 1⟩]⟩ v = [.int .i64 ((k : Int) + 1)] ++ (D ++ [.int .u32 pr, .int .i64 u.r, .int .i64 u.g, .int .i64 u.u, .bool false, v])) := Lib.hid (fun v => by rw [← HD.out]; rfl)
      have ew0 : IntKind.i64.wrap ((k : Int) + 1) = (k : Int) + 1 := IntWalk.i64_in _ (by omega)
      have HEW := Lib.hid ew0
      have hdn : decide ((65536 : Int) ≤ (t.n : Int)) = false := decide_eq_false (by omega)
      have HDN := Lib.hid hdn
      clear h hb e hs hs2 hq hv hlen hu ht hfull hi hbelow habove hA0 hA3 hkn hcap hk ew0 hdn
      go_enter Tryz.func56, Tryz.ntmps56
      go_upto_region 6 with (first
       | (go_at_call 90; refine (HT.out _).mono ?_; rintro e w2 ⟨rfl, hw2⟩; obtain rfl := hw2.symm; obtain ⟨y0, y1, y2⟩ := HBB.out _ v1)
       | (go_at_call 81; refine (HAT2.out _ v1).mono ?_; rintro e w3 ⟨rfl, v3⟩)
       | (rw [HW0.out]; go_at_call 89; refine (HV.out _).mono ?_; rintro e w1 ⟨rfl, v1⟩))
      have v4 := v1.trans (v3.mono v1.size)
      have HV4 := Lib.hid v4
      have c0 := HRD.out _ v4
      have hd := HDN.out
      clear y0 y1 y2 b0 b1 b2 v1 v3 v4
      go_upto_region 9 with fail
      clear hd
      go_loop [14] (fun u14 => ∃ j : Nat, j ≤ k ∧ u14 = .int .i64 (j : Int)) (fun u14 => k - (intOf u14).toNat)
      case atStart => exact ⟨0, Nat.zero_le _, rfl⟩
      case round =>
       obtain ⟨j, hj, rfl⟩ := hrel
       by_cases hlt : j < k
       ·
        obtain ⟨g, hA, k0⟩ := HEL.out _ HV4.out j (by omega)
        rw [hA] at c0
        rw [HBE.out j hlt] at k0
        have ew : IntKind.i64.wrap ((j : Int) + 1) = (j : Int) + 1 := IntWalk.i64_in _ (by omega)
        have e1 : (0 : Int) ≤ (j : Int) := by omega
        have e2 : (j : Int) < (t.n : Int) := by omega
        clear hA hcut1 hcut2
        go_wp2
        go_round
        case rel => exact ⟨j + 1, by omega, by go_num⟩
        case measure => simp [intOf]; omega
       ·
        obtain rfl : k = j := by omega
        obtain ⟨g, hA, k0⟩ := HEL.out _ HV4.out k hhn
        have hxi := HAB.out hhn
        obtain ⟨xi, hxe⟩ : ∃ y, (Chk.nth l k).id = y := ⟨_, rfl⟩
        rw [hxe] at k0 hxi
        have hxb : (xi == (k : Int) + 1) = false := beq_eq_false_iff_ne.2 hxi
        have ew := HEW.out
        have e1 : (0 : Int) ≤ (k : Int) := by omega
        have e2 : (k : Int) < (t.n : Int) := by omega
        have c0s := c0
        rw [hA] at c0
        clear hxe hxi
        go_upto_region 11 with fail
        clear c0 k0 hxb ew c0s hA
        have rD := HX.out.2.1.below' HV4.out
        obtain ⟨z0, z1, z2⟩ := HBB.out _ HV4.out
        have ew := HEW.out
        obtain ⟨cs, hcs⟩ : ∃ cs, ckCells ⟨(k : Int) + 1, dg, pr, u, false, [⟨tn, 1⟩]⟩ (.slice (some ⟨w3.heap.size, 0, none⟩) 1 1) = cs := ⟨_, rfl⟩
        have hbt := built_ck ((k : Int) + 1) pr u.r u.g u.u D HDL.out (.slice (some ⟨w3.heap.size, 0, none⟩) 1 1) ⟨_, _, _, rfl⟩
        rw [← HCK.out, hcs] at hbt
        have HBT := Lib.hid hbt
        have HCS := Lib.hid hcs
        have HCL : Hid (cs.length = 23) := Lib.hid (by rw [← hcs]; exact ckCells_len hdg _)
        have HCO : Hid (∀ x ∈ cs, x.oneCell' = true) := Lib.hid (by rw [← hcs]; exact ckCells_one _ _ rfl)
        clear hbt hcs hj hlt
        go_upto_region 12 with (first
         | (refine wpList_loadRow rfl _ (.tmp 6) rfl rD rfl Tryz.underlying60 (by rw [HDL.out]; exact size16d) ?_)
         | (refine wpList_buildTo rfl 68 _ rfl (some 68) rfl cs.toArray (by simpa [Act.eval] using HBT.out) ?_)
         | (refine wpList_allocRow rfl _ rfl _ infoCk' ?_; intro w6 rz6 b6 z6)
         | (refine wpList_storeRow rfl _ (.tmp 15) (.tmp 68) rfl (l' := cs) rz6 rfl rfl (by rw [HCL.out]; exact sizeCk) (by rw [HCL.out]; rfl) (List.all_eq_true.2 HCO.out) ?_; intro w7 rz7 g7 z7))
        have e58 : w3.heap.size + 1 = (w3.alloc (.cells #[.int .i64 tn, .int .i64 1] 76)).heap.size := by simp
        have hb37 : Below w3.heap.size w3 w7 := (((Below.refl _ w3).alloc (Nat.le_refl _) _).trans (b6.mono (by rw [← e58]; omega))).grown g7 (by rw [z6, ← e58]; omega) (fun i hi => by have := Option.some.inj hi; rw [← e58] at this; omega)
        have hbr : IsRow w7 w3.heap.size 76 [.int .i64 tn, .int .i64 1] := (((IsRow.new w3 76 [.int .i64 tn, .int .i64 1])).below' b6).grown g7 (fun e => by have := Option.some.inj e; rw [← e58] at this; omega)
        obtain ⟨bc, hbc⟩ : ∃ x, (w3.alloc (.cells #[.int .i64 tn, .int .i64 1] 76)).heap.size = x := ⟨_, rfl⟩
        rw [hbc] at rz7 ⊢
        obtain ⟨br, hbre⟩ : ∃ x, w3.heap.size = x := ⟨_, rfl⟩
        rw [hbre] at HCS hbr ⊢
        have hb03 := HB0.out.trans (HV4.out.mono HB0.out.size)
        have HB7 := Lib.hid (hb03.trans (hb37.mono hb03.size))
        have HBR : Hid (w.heap.size ≤ br ∧ IsRow w7 br 76 [.int .i64 tn, .int .i64 1]) := Lib.hid ⟨by rw [← hbre]; exact hb03.size, hbr⟩
        have HR7 := Lib.hid rz7
        clear rD z0 z1 z2 rz6 b6 z6 g7 z7 e58 hb37 hbr rz7 hbc hbre hb03 HBT
        try clear c0
        try clear ew
        have c0 := (HROW.out _ HB7.out).cell 0
        try simp only [PT]
        go_upto_region 14 with (at_builtin; refine wpList_appR rfl (.tmp 69) (.tmp 75) 56 rfl w7.heap.size 68 _ 23 88 chunkT none 0 0 [] t.A k t.c (crs (t.D.take k)) rfl rfl (World.ownsRow_nil _ _ _ _) (HR1.out _ HB7.out) (crs_one _) (Below.refl _ _) (by omega) (Nat.le_refl _) (Nat.le_refl _) ?_; intro A1 c1 w8 own8 b8; simp only [Nat.zero_add, List.nil_append] at own8; simp only [Nat.zero_add]; have HO8 := Lib.hid own8; clear own8)
        have HB8 := Lib.hid b8
        have rg8 : w8.rangeAt bc 0 cs := fun q x hx => (by rw [Nat.zero_add, (HR7.out.below' b8).cell]; exact hx)
        clear c0 b8
        go_upto_region 15 with (first
         | (refine wpList_load_mid rfl _ (.tmp 15) rfl bc 0 rfl cs _ rg8 Tryz.underlying68 rfl (by rw [HCL.out]; exact sizeCk) ?_)
         | (at_builtin; refine wpList_appN rfl (.tmp 77) (.tmp 79) 56 rfl w7.heap.size 68 _ 23 88 chunkT A1 k c1 (crs (t.D.take k)) cs _ rfl rfl rfl HO8.out HB8.out HCL.out HCO.out (by omega) (Nat.le_refl _) HB8.out.size ?_; intro g9 c9 w9 own9 b9 hg9; have HO9 := Lib.hid own9; have HB9 := Lib.hid b9; clear own9 b9 hg9)
         | (refine wpList_plain rfl fun K hK => wp_build23 (.tmp 78) rfl cs HCL.out rfl (hK _ _ ?_); clear hK K))
        have hb79 := HB7.out.trans (HB9.out.mono HB7.out.size)
        have c0 := (HROW.out _ hb79).cell 0
        have HR9 := Lib.hid (HR2.out _ hb79)
        clear rg8 hb79
        try simp only [PT]
        go_wp2_with (at_builtin; refine wpList_appR rfl (.tmp 82) (.tmp 88) 56 rfl w7.heap.size 68 _ 23 88 chunkT (some ⟨g9, 0, none⟩) (k + 1) c9 (crs (t.D.take k) ++ cs) A3 (t.n - k) (t.c - k) (crs (t.D.drop k)) rfl rfl HO9.out HR9.out (crs_one _) HB9.out (by omega) (Nat.le_refl _) HB9.out.size ?_; intro A10 c10 w10 own10 b10; have HO10 := Lib.hid own10; have HB10 := Lib.hid b10; have c010 := (HROW.out _ (HB7.out.trans (b10.mono HB7.out.size))).cell 0; have f010 := (HROW.out _ (HB7.out.trans (b10.mono HB7.out.size))).frozen 0; clear own10 b10)
        go_ret2
        have hro : IsRow w7 br 76 (rfs [⟨tn, 1⟩]) := HBR.out.2
        have hown := HO10.out
        rw [← HCS.out] at hown
        have hfin := HEND.out w7 w10 br (k + 1 + (t.n - k)) c10 A10 HB7.out HBR.out.1 hro HB10.out (by omega) hown
        refine ⟨rfl, ?_⟩
        exact hfin
     ·
      have hmx' : t.n < 65536 := by omega
      have HKN := Lib.hid hkn
      have HEND := Lib.hid (fun (W7 W10 : World) (br n2 c2 : Nat) (A2 : Option Addr) hB7 hbr hrow hB10 hn2 ho => h.added (k := k) (c := ⟨(k : Int) + 1, dg, pr, u, false, [⟨tn, 1⟩]⟩) (W7 := W7) (W10 := W10) (br := br) (n2 := n2) (c2 := c2) (A2 := A2) hb rfl hB7 hbr hrow hB10 hn2 ho hi)
      have HRD := Lib.hid (fun W hW => H.out.rd (w' := W) hW)
      have HBE := Lib.hid hbelow
      have HAB := Lib.hid habove
      have HEL : Hid (∀ W, Below w0.heap.size w0 W → ∀ j, j < t.n → ∃ g, t.A = some ⟨g, 0, none⟩ ∧ W.cell? ⟨g, j * 23, none⟩ = some (.int .i64 (Chk.nth l j).id)) := Lib.hid (fun W hW j hj => by
       obtain ⟨g, x, hA, _, _, hn, _, hck, hrg⟩ := (H.out.below hW).at hj
       exact ⟨g, hA, by rw [hn]; exact (ck_cells hck.dg hrg).1⟩)
      have hA0 : ∀ p, t.A = some p → p = ⟨p.block, 0, none⟩ := fun p hpA => by
       rcases h.own.2 with h0 | ⟨g, cap, cur, hv, hg, hh, r⟩
       ·
        injection h0.1 with h1; rw [hpA] at h1; cases h1
       ·
        injection hv with h1; rw [hpA] at h1; rw [Option.some.inj h1]
      have hcap := h.cap
      have hcut1 := fun W => run_cutHiO (P := Tryz.prog) W chunkT t.A t.n t.c k .i64 (by omega) hA0
      have hcut2 := fun W => run_cutFrom (P := Tryz.prog) W chunkT t.A t.n t.c k .i64 hkle
      obtain ⟨A3, hA3⟩ : ∃ y, (if t.c = k then t.A else t.A.map (·.add (k * 23))) = y := ⟨_, rfl⟩
      simp only [hA3] at hcut2
      have HROW := Lib.hid (fun (W : World) (hW : Below w.heap.size w W) => (h.below hW).row)
      have HR1 := Lib.hid (fun (W : World) (hW : Below w.heap.size w W) => show Rd W W.heap.size 23 t.A k (crs (t.D.take k)) from by
       have := (Rd.of_own (h.below hW).own).take hkle
       rwa [flat_take h.dl] at this)
      have HR2 := Lib.hid (fun (W : World) (hW : Below w.heap.size w W) => show Rd W W.heap.size 23 A3 (t.n - k) (crs (t.D.drop k)) from by
       have := (Rd.of_own (h.below hW).own).cut hkle hcap.1
       rw [flat_drop h.dl] at this
       rwa [hA3] at this)
      have HCK : Hid (∀ v, ckCells ⟨(k : Int) + 1, dg, pr, u, false, [⟨tn, 1⟩]⟩ v = [.int .i64 ((k : Int) + 1)] ++ (D ++ [.int .u32 pr, .int .i64 u.r, .int .i64 u.g, .int .i64 u.u, .bool false, v])) := Lib.hid (fun v => by rw [← HD.out]; rfl)
      have ew0 : IntKind.i64.wrap ((k : Int) + 1) = (k : Int) + 1 := IntWalk.i64_in _ (by omega)
      have HEW := Lib.hid ew0
      have hdn : decide ((65536 : Int) ≤ (t.n : Int)) = false := decide_eq_false (by omega)
      have HDN := Lib.hid hdn
      clear h hb e hs hs2 hq hv hlen hu ht hfull hi hbelow habove hA0 hA3 hkn hcap hk ew0 hdn
      go_enter Tryz.func56, Tryz.ntmps56
      go_upto_region 6 with (first
       | (go_at_call 90; refine (HT.out _).mono ?_; rintro e w2 ⟨rfl, hw2⟩; obtain rfl := hw2.symm; obtain ⟨y0, y1, y2⟩ := HBB.out _ v1)
       | (go_at_call 81; refine (HAT2.out _ v1).mono ?_; rintro e w3 ⟨rfl, v3⟩)
       | (rw [HW0.out]; go_at_call 89; refine (HV.out _).mono ?_; rintro e w1 ⟨rfl, v1⟩))
      have v4 := v1.trans (v3.mono v1.size)
      have HV4 := Lib.hid v4
      have c0 := HRD.out _ v4
      have hd := HDN.out
      clear y0 y1 y2 b0 b1 b2 v1 v3 v4
      go_upto_region 9 with fail
      clear hd
      go_loop [14] (fun u14 => ∃ j : Nat, j ≤ k ∧ u14 = .int .i64 (j : Int)) (fun u14 => k - (intOf u14).toNat)
      case atStart => exact ⟨0, Nat.zero_le _, rfl⟩
      case round =>
       obtain ⟨j, hj, rfl⟩ := hrel
       by_cases hlt : j < k
       ·
        obtain ⟨g, hA, k0⟩ := HEL.out _ HV4.out j (by omega)
        rw [hA] at c0
        rw [HBE.out j hlt] at k0
        have ew : IntKind.i64.wrap ((j : Int) + 1) = (j : Int) + 1 := IntWalk.i64_in _ (by omega)
        have e1 : (0 : Int) ≤ (j : Int) := by omega
        have e2 : (j : Int) < (t.n : Int) := by omega
        clear hA hcut1 hcut2
        go_wp2
        go_round
        case rel => exact ⟨j + 1, by omega, by go_num⟩
        case measure => simp [intOf]; omega
       ·
        obtain rfl : k = j := by omega
        have hkk : t.n ≤ k := by have := HKN.out; omega
        have hdk : decide ((k : Int) < (t.n : Int)) = false := decide_eq_false (by omega)
        go_upto_region 11 with fail
        clear hkk hdk
        have rD := HX.out.2.1.below' HV4.out
        obtain ⟨z0, z1, z2⟩ := HBB.out _ HV4.out
        have ew := HEW.out
        obtain ⟨cs, hcs⟩ : ∃ cs, ckCells ⟨(k : Int) + 1, dg, pr, u, false, [⟨tn, 1⟩]⟩ (.slice (some ⟨w3.heap.size, 0, none⟩) 1 1) = cs := ⟨_, rfl⟩
        have hbt := built_ck ((k : Int) + 1) pr u.r u.g u.u D HDL.out (.slice (some ⟨w3.heap.size, 0, none⟩) 1 1) ⟨_, _, _, rfl⟩
        rw [← HCK.out, hcs] at hbt
        have HBT := Lib.hid hbt
        have HCS := Lib.hid hcs
        have HCL : Hid (cs.length = 23) := Lib.hid (by rw [← hcs]; exact ckCells_len hdg _)
        have HCO : Hid (∀ x ∈ cs, x.oneCell' = true) := Lib.hid (by rw [← hcs]; exact ckCells_one _ _ rfl)
        clear hbt hcs hj hlt
        go_upto_region 12 with (first
         | (refine wpList_loadRow rfl _ (.tmp 6) rfl rD rfl Tryz.underlying60 (by rw [HDL.out]; exact size16d) ?_)
         | (refine wpList_buildTo rfl 68 _ rfl (some 68) rfl cs.toArray (by simpa [Act.eval] using HBT.out) ?_)
         | (refine wpList_allocRow rfl _ rfl _ infoCk' ?_; intro w6 rz6 b6 z6)
         | (refine wpList_storeRow rfl _ (.tmp 15) (.tmp 68) rfl (l' := cs) rz6 rfl rfl (by rw [HCL.out]; exact sizeCk) (by rw [HCL.out]; rfl) (List.all_eq_true.2 HCO.out) ?_; intro w7 rz7 g7 z7))
        have e58 : w3.heap.size + 1 = (w3.alloc (.cells #[.int .i64 tn, .int .i64 1] 76)).heap.size := by simp
        have hb37 : Below w3.heap.size w3 w7 := (((Below.refl _ w3).alloc (Nat.le_refl _) _).trans (b6.mono (by rw [← e58]; omega))).grown g7 (by rw [z6, ← e58]; omega) (fun i hi => by have := Option.some.inj hi; rw [← e58] at this; omega)
        have hbr : IsRow w7 w3.heap.size 76 [.int .i64 tn, .int .i64 1] := (((IsRow.new w3 76 [.int .i64 tn, .int .i64 1])).below' b6).grown g7 (fun e => by have := Option.some.inj e; rw [← e58] at this; omega)
        obtain ⟨bc, hbc⟩ : ∃ x, (w3.alloc (.cells #[.int .i64 tn, .int .i64 1] 76)).heap.size = x := ⟨_, rfl⟩
        rw [hbc] at rz7 ⊢
        obtain ⟨br, hbre⟩ : ∃ x, w3.heap.size = x := ⟨_, rfl⟩
        rw [hbre] at HCS hbr ⊢
        have hb03 := HB0.out.trans (HV4.out.mono HB0.out.size)
        have HB7 := Lib.hid (hb03.trans (hb37.mono hb03.size))
        have HBR : Hid (w.heap.size ≤ br ∧ IsRow w7 br 76 [.int .i64 tn, .int .i64 1]) := Lib.hid ⟨by rw [← hbre]; exact hb03.size, hbr⟩
        have HR7 := Lib.hid rz7
        clear rD z0 z1 z2 rz6 b6 z6 g7 z7 e58 hb37 hbr rz7 hbc hbre hb03 HBT
        try clear c0
        try clear ew
        have c0 := (HROW.out _ HB7.out).cell 0
        try simp only [PT]
        go_upto_region 14 with (at_builtin; refine wpList_appR rfl (.tmp 69) (.tmp 75) 56 rfl w7.heap.size 68 _ 23 88 chunkT none 0 0 [] t.A k t.c (crs (t.D.take k)) rfl rfl (World.ownsRow_nil _ _ _ _) (HR1.out _ HB7.out) (crs_one _) (Below.refl _ _) (by omega) (Nat.le_refl _) (Nat.le_refl _) ?_; intro A1 c1 w8 own8 b8; simp only [Nat.zero_add, List.nil_append] at own8; simp only [Nat.zero_add]; have HO8 := Lib.hid own8; clear own8)
        have HB8 := Lib.hid b8
        have rg8 : w8.rangeAt bc 0 cs := fun q x hx => (by rw [Nat.zero_add, (HR7.out.below' b8).cell]; exact hx)
        clear c0 b8
        go_upto_region 15 with (first
         | (refine wpList_load_mid rfl _ (.tmp 15) rfl bc 0 rfl cs _ rg8 Tryz.underlying68 rfl (by rw [HCL.out]; exact sizeCk) ?_)
         | (at_builtin; refine wpList_appN rfl (.tmp 77) (.tmp 79) 56 rfl w7.heap.size 68 _ 23 88 chunkT A1 k c1 (crs (t.D.take k)) cs _ rfl rfl rfl HO8.out HB8.out HCL.out HCO.out (by omega) (Nat.le_refl _) HB8.out.size ?_; intro g9 c9 w9 own9 b9 hg9; have HO9 := Lib.hid own9; have HB9 := Lib.hid b9; clear own9 b9 hg9)
         | (refine wpList_plain rfl fun K hK => wp_build23 (.tmp 78) rfl cs HCL.out rfl (hK _ _ ?_); clear hK K))
        have hb79 := HB7.out.trans (HB9.out.mono HB7.out.size)
        have c0 := (HROW.out _ hb79).cell 0
        have HR9 := Lib.hid (HR2.out _ hb79)
        clear rg8 hb79
        try simp only [PT]
        go_wp2_with (at_builtin; refine wpList_appR rfl (.tmp 82) (.tmp 88) 56 rfl w7.heap.size 68 _ 23 88 chunkT (some ⟨g9, 0, none⟩) (k + 1) c9 (crs (t.D.take k) ++ cs) A3 (t.n - k) (t.c - k) (crs (t.D.drop k)) rfl rfl HO9.out HR9.out (crs_one _) HB9.out (by omega) (Nat.le_refl _) HB9.out.size ?_; intro A10 c10 w10 own10 b10; have HO10 := Lib.hid own10; have HB10 := Lib.hid b10; have c010 := (HROW.out _ (HB7.out.trans (b10.mono HB7.out.size))).cell 0; have f010 := (HROW.out _ (HB7.out.trans (b10.mono HB7.out.size))).frozen 0; clear own10 b10)
        go_ret2
        have hro : IsRow w7 br 76 (rfs [⟨tn, 1⟩]) := HBR.out.2
        have hown := HO10.out
        rw [← HCS.out] at hown
        have hfin := HEND.out w7 w10 br (k + 1 + (t.n - k)) c10 A10 HB7.out HBR.out.1 hro HB10.out (by omega) hown
        refine ⟨rfl, ?_⟩
        exact hfin
end
section
open Go.RowKit
def RStep (w : World) (F S : Nat → Prop) (a : Nat) (R : List Chk.Ck × Int × Int) (e : Ending) (w' : World) : Prop := e = .returned (.tuple #[.int .i64 R.2.1, .int .i64 R.2.2]) ∧ ROp w F S a R.1 w'
theorem ROp.before {w w0 w' : World} {F S : Nat → Prop} {a : Nat} {l : List Chk.Ck} (h0 : Below w.heap.size w w0) (h : ROp w0 F S a l w') : ROp w F S a l w' := by
 obtain ⟨F', S', h1, h2, h3, h4, h5⟩ := h
 have hs := h0.size
 exact ⟨F', S', h1, (Keep.of_below h0).trans h2, h3, fun b hb => (h4 b hb).imp id fun h => by omega, fun b hb => (h5 b hb).imp id fun h => by omega⟩
set_option maxRecDepth 100000 in
set_option maxHeartbeats 1600000 in
theorem rdo_add {w : World} {F S : Nat → Prop} {a : Nat} {t : RM} {l : List Chk.Ck} (h : RAt w F S a t l) (hb : ∀ b, F b ∨ S b → b < w.heap.size) (o : Chk.Op) (hp : Chk.inR o.pr 4294967296) (hk : o.kind = 1) :
  Calls Tryz.prog 27 #[.pointer (some ⟨a, 0, none⟩), opV o] w (RStep w F S a (Chk.step l o)) := by
 have hbz : Below w.heap.size w (w.alloc (.cells (opL o).toArray 78)) := (Below.refl _ _).alloc (Nat.le_refl _) _
 have hrz := IsRow.new w 78 (opL o)
 have h0 := h.below hbz
 have hb0 : ∀ b, F b ∨ S b → b < (w.alloc (.cells (opL o).toArray 78)).heap.size := fun b hb' => Nat.lt_of_lt_of_le (hb b hb') hbz.size
 have hnS : ¬ S w.heap.size := fun e => by have := hb _ (.inr e); omega
 have hlt : w.heap.size < (w.alloc (.cells (opL o).toArray 78)).heap.size := by simp
 obtain ⟨w0, hw0⟩ : ∃ y, w.alloc (.cells (opL o).toArray 78) = y := ⟨_, rfl⟩
 rw [hw0] at hbz hrz h0 hb0 hlt
 have HW0 : Hid (w.alloc (.cells #[.int .i64 o.kind, .int .i64 o.id, .int .i64 o.t, .int .i64 o.n, .int .i64 o.u.r, .int .i64 o.u.g, .int .i64 o.u.u, .int .u8 (o.d.toNat : Int), .int .u32 o.pr] 78) = w0) := Lib.hid hw0
 have HB0 := Lib.hid hbz
 have HNS := Lib.hid (And.intro hnS hlt)
 have x0 := hrz.cell 0
 have x1 := hrz.cell 1
 have x2 := hrz.cell 2
 have x3 := hrz.cell 3
 have x4 := hrz.cell 4
 have x5 := hrz.cell 5
 have x6 := hrz.cell 6
 have x7 := hrz.cell 7
 have x8 := hrz.cell 8
 unfold opL at x0 x1 x2 x3 x4 x5 x6 x7 x8
 dsimp only [List.getElem?_cons_zero, List.getElem?_cons_succ] at x0 x1 x2 x3 x4 x5 x6 x7 x8
 have HST : Hid (Chk.step l o = Chk.add l (Chk.dig o.d) o.pr o.u o.t) := Lib.hid (by unfold Chk.step; rw [if_pos hk])
 rw [HST.out]
 rw [hk] at x0 HW0
 have HDG := Lib.hid (fun W => digest_any o.d W)
 have HAD := Lib.hid (fun (W : World) (hW : Below w0.heap.size w0 W) => radd_any (h0.below hW) (fun b hb' => Nat.lt_of_lt_of_le (hb0 b hb') hW.size) (Chk.dig o.d) (by unfold Chk.dig; simp) o.pr hp o.u o.t)
 unfold unV at HAD
 have HX := Lib.hid (And.intro x2 (And.intro x4 (And.intro x5 (And.intro x6 (And.intro x7 x8)))))
 obtain ⟨R, hR⟩ : ∃ R, Chk.add l (Chk.dig o.d) o.pr o.u o.t = R := ⟨_, rfl⟩
 rw [hR] at HAD ⊢
 clear x1 x2 x3 x4 x5 x6 x7 x8 hR
 clear HST
 clear hw0 hbz hrz h0 hb0 hlt hnS h hb hp
 unfold opV
 rw [hk]
 go_enter Tryz.func27, Tryz.ntmps27
 go_upto_region 1 with fail
 rw [HW0.out]
 clear hk
 go_upto_region 3 with fail
 clear x0
 have hv0 : Below w0.heap.size w0 w0.drew := (Below.refl _ _).drew
 refine wp_region_held_drew (S := fun W => Keep S w0 W) (by kernel_rfl) (Keep.of_below hv0) (fun hHeld => ?_)
 refine tkH 0 oChkR339 ?v0_1 (.inl ⟨by rfl, ?h0_1⟩) ?r0_1
 case h0_1 =>
  intro W hSW
  unfold oChkR339
  try dsimp only at hSW
  go_simp
  try with_reducible rfl
 try simp only [oChkR339, PT]
 refine tkH 1 oChkR340 ?v1_2 (.inl ⟨by rfl, ?h1_2⟩) ?r1_2
 case h1_2 =>
  intro W hSW
  unfold oChkR340
  try dsimp only at hSW
  go_simp
  try with_reducible rfl
 try simp only [oChkR340, PT]
 refine tkH 2 oChkR341 ?v2_3 (.inl ⟨by rfl, ?h2_3⟩) ?r2_3
 case h2_3 =>
  intro W hSW
  unfold oChkR341
  try dsimp only at hSW
  have c7 := (hSW.cell (p := ⟨w.heap.size, 7, none⟩) HNS.out.2 HNS.out.1).trans HX.out.2.2.2.2.1
  go_simp
  try with_reducible rfl
 try simp only [oChkR341, PT]
 refine tkH 4 oChkR342 ?v4_4 (.inl ⟨by rfl, ?h4_4⟩) ?r4_4
 case h4_4 =>
  intro W hSW
  unfold oChkR342
  try dsimp only at hSW
  go_simp
  try with_reducible rfl
 try simp only [oChkR342, PT]
 refine tkH 5 oChkR343 ?v5_5 (.inl ⟨by rfl, ?h5_5⟩) ?r5_5
 case h5_5 =>
  intro W hSW
  unfold oChkR343
  try dsimp only at hSW
  have c8 := (hSW.cell (p := ⟨w.heap.size, 8, none⟩) HNS.out.2 HNS.out.1).trans HX.out.2.2.2.2.2
  go_simp
  try with_reducible rfl
 try simp only [oChkR343, PT]
 refine tkH 6 oChkR344 ?v6_6 (.inl ⟨by rfl, ?h6_6⟩) ?r6_6
 case h6_6 =>
  intro W hSW
  unfold oChkR344
  try dsimp only at hSW
  go_simp
  try with_reducible rfl
 try simp only [oChkR344, PT]
 refine tkH 7 oChkR345 ?v7_7 (.inl ⟨by rfl, ?h7_7⟩) ?r7_7
 case h7_7 =>
  intro W hSW
  unfold oChkR345
  try dsimp only at hSW
  have c4 := (hSW.cell (p := ⟨w.heap.size, 4, none⟩) HNS.out.2 HNS.out.1).trans HX.out.2.1
  have c5 := (hSW.cell (p := ⟨w.heap.size, 5, none⟩) HNS.out.2 HNS.out.1).trans HX.out.2.2.1
  have c6 := (hSW.cell (p := ⟨w.heap.size, 6, none⟩) HNS.out.2 HNS.out.1).trans HX.out.2.2.2.1
  go_simp
  try with_reducible rfl
 try simp only [oChkR345, PT]
 refine tkH 8 oChkR346 ?v8_8 (.inl ⟨by rfl, ?h8_8⟩) ?r8_8
 case h8_8 =>
  intro W hSW
  unfold oChkR346
  try dsimp only at hSW
  go_simp
  try with_reducible rfl
 try simp only [oChkR346, PT]
 refine tkH 9 oChkR347 ?v9_9 (.inl ⟨by rfl, ?h9_9⟩) ?r9_9
 case h9_9 =>
  intro W hSW
  unfold oChkR347
  try dsimp only at hSW
  have c2 := (hSW.cell (p := ⟨w.heap.size, 2, none⟩) HNS.out.2 HNS.out.1).trans HX.out.1
  go_simp
  try with_reducible rfl
 try simp only [oChkR347, PT]
 refine rdyH [3] ?_
 refine AllReadyH.cons (o := oChkR348) rfl (fun K hK => ?_) AllReadyH.nil
 unfold oChkR348
 go_simp
 refine (HDG.out _).mono ?_
 rintro e w70 ⟨rfl, b70⟩
 have hv70 : Below w0.heap.size w0 w70 := (hv0).trans (b70.mono (hv0).size)
 clear b70
 refine hK.out _ _ (Keep.of_below hv70) (fun hHeld => ?_)
 clear hK K
 try simp only [PT]
 refine rdyH [10] ?_
 refine AllReadyH.cons (o := oChkR349) rfl (fun K hK => ?_) AllReadyH.nil
 unfold oChkR349
 go_simp
 refine (HAD.out _ hv70).mono ?_
 rintro e w71 ⟨rfl, F', S', h1, h2, h3, h4, h5⟩
 have hv71 : Keep S w0 w71 := (Keep.of_below hv70).trans h2
 have hbf := hv70
 have HFIN : Hid (ROp w0 F S a R.1 w71) := Lib.hid ⟨F', S', h1, hv71, h3, fun b hb => (h4 b hb).imp id fun h => Nat.le_trans hbf.size h, fun b hb => (h5 b hb).imp id fun h => Nat.le_trans hbf.size h⟩
 clear h1 h2 h3 h4 h5 hbf
 refine hK.out _ _ hv71 (fun hHeld => ?_)
 clear hK K
 try simp only [PT]
 refine tkH 11 oChkR350 ?v11_10 (.inl ⟨by rfl, ?h11_10⟩) ?r11_10
 case h11_10 =>
  intro W hSW
  unfold oChkR350
  try dsimp only at hSW
  go_simp
  try with_reducible rfl
 try simp only [oChkR350, PT]
 refine tkH 12 oChkR351 ?v12_11 (.inl ⟨by rfl, ?h12_11⟩) ?r12_11
 case h12_11 =>
  intro W hSW
  unfold oChkR351
  try dsimp only at hSW
  go_simp
  try with_reducible rfl
 try simp only [oChkR351, PT]
 refine tkH 13 oChkR352 ?v13_12 (.inl ⟨by rfl, ?h13_12⟩) ?r13_12
 case h13_12 =>
  intro W hSW
  unfold oChkR352
  try dsimp only at hSW
  go_simp
  try with_reducible rfl
 try simp only [oChkR352, PT]
 refine tkH 14 oChkR353 ?v14_13 (.inl ⟨by rfl, ?h14_13⟩) ?r14_13
 case h14_13 =>
  intro W hSW
  unfold oChkR353
  try dsimp only at hSW
  go_simp
  try with_reducible rfl
 try simp only [oChkR353, PT]
 refine wpAnyH_done (by kernel_rfl) ?_ _
 go_wp2_with fail
 go_ret2
 exact ⟨rfl, ROp.before HB0.out HFIN.out⟩
set_option maxRecDepth 100000 in
set_option maxHeartbeats 1600000 in
theorem rdo_refer {w : World} {F S : Nat → Prop} {a : Nat} {t : RM} {l : List Chk.Ck} (h : RAt w F S a t l) (hb : ∀ b, F b ∨ S b → b < w.heap.size) (o : Chk.Op) (hp : Chk.inR o.pr 4294967296) (hk : o.kind = 2) :
  Calls Tryz.prog 27 #[.pointer (some ⟨a, 0, none⟩), opV o] w (RStep w F S a (Chk.step l o)) := by
 have hbz : Below w.heap.size w (w.alloc (.cells (opL o).toArray 78)) := (Below.refl _ _).alloc (Nat.le_refl _) _
 have hrz := IsRow.new w 78 (opL o)
 have h0 := h.below hbz
 have hb0 : ∀ b, F b ∨ S b → b < (w.alloc (.cells (opL o).toArray 78)).heap.size := fun b hb' => Nat.lt_of_lt_of_le (hb b hb') hbz.size
 have hnS : ¬ S w.heap.size := fun e => by have := hb _ (.inr e); omega
 have hlt : w.heap.size < (w.alloc (.cells (opL o).toArray 78)).heap.size := by simp
 obtain ⟨w0, hw0⟩ : ∃ y, w.alloc (.cells (opL o).toArray 78) = y := ⟨_, rfl⟩
 rw [hw0] at hbz hrz h0 hb0 hlt
 have HW0 : Hid (w.alloc (.cells #[.int .i64 o.kind, .int .i64 o.id, .int .i64 o.t, .int .i64 o.n, .int .i64 o.u.r, .int .i64 o.u.g, .int .i64 o.u.u, .int .u8 (o.d.toNat : Int), .int .u32 o.pr] 78) = w0) := Lib.hid hw0
 have HB0 := Lib.hid hbz
 have HNS := Lib.hid (And.intro hnS hlt)
 have x0 := hrz.cell 0
 have x1 := hrz.cell 1
 have x2 := hrz.cell 2
 have x3 := hrz.cell 3
 have x4 := hrz.cell 4
 have x5 := hrz.cell 5
 have x6 := hrz.cell 6
 have x7 := hrz.cell 7
 have x8 := hrz.cell 8
 unfold opL at x0 x1 x2 x3 x4 x5 x6 x7 x8
 dsimp only [List.getElem?_cons_zero, List.getElem?_cons_succ] at x0 x1 x2 x3 x4 x5 x6 x7 x8
 have HST : Hid (Chk.step l o = Chk.refer l o.id o.t o.n) := Lib.hid (by unfold Chk.step; rw [if_neg (by omega)]; rw [if_pos hk])
 rw [HST.out]
 rw [hk] at x0 HW0
 have HCA := Lib.hid (rrefer_any h0 hb0 o.id o.t o.n)
 have HN0 := Lib.hid (refer_n0 l o.id o.t o.n)
 obtain ⟨R, hR⟩ : ∃ R, Chk.refer l o.id o.t o.n = R := ⟨_, rfl⟩
 rw [hR] at HCA HN0 ⊢
 clear x4 x5 x6 x7 x8 hR HST
 clear hw0 hbz hrz h0 hb0 hlt hnS h hb hp
 unfold opV
 rw [hk]
 go_enter Tryz.func27, Tryz.ntmps27
 go_upto_region 1 with fail
 rw [HW0.out]
 clear hk
 go_wp2_with (go_at_call 57; refine HCA.out.mono ?_; rintro e w5 ⟨rfl, h5⟩)
 go_ret2
 refine ⟨by rw [HN0.out]; rfl, ROp.before HB0.out h5⟩
set_option maxRecDepth 100000 in
set_option maxHeartbeats 1600000 in
theorem rdo_unrefer {w : World} {F S : Nat → Prop} {a : Nat} {t : RM} {l : List Chk.Ck} (h : RAt w F S a t l) (hb : ∀ b, F b ∨ S b → b < w.heap.size) (o : Chk.Op) (hp : Chk.inR o.pr 4294967296) (hk : o.kind = 3) :
  Calls Tryz.prog 27 #[.pointer (some ⟨a, 0, none⟩), opV o] w (RStep w F S a (Chk.step l o)) := by
 have hbz : Below w.heap.size w (w.alloc (.cells (opL o).toArray 78)) := (Below.refl _ _).alloc (Nat.le_refl _) _
 have hrz := IsRow.new w 78 (opL o)
 have h0 := h.below hbz
 have hb0 : ∀ b, F b ∨ S b → b < (w.alloc (.cells (opL o).toArray 78)).heap.size := fun b hb' => Nat.lt_of_lt_of_le (hb b hb') hbz.size
 have hnS : ¬ S w.heap.size := fun e => by have := hb _ (.inr e); omega
 have hlt : w.heap.size < (w.alloc (.cells (opL o).toArray 78)).heap.size := by simp
 obtain ⟨w0, hw0⟩ : ∃ y, w.alloc (.cells (opL o).toArray 78) = y := ⟨_, rfl⟩
 rw [hw0] at hbz hrz h0 hb0 hlt
 have HW0 : Hid (w.alloc (.cells #[.int .i64 o.kind, .int .i64 o.id, .int .i64 o.t, .int .i64 o.n, .int .i64 o.u.r, .int .i64 o.u.g, .int .i64 o.u.u, .int .u8 (o.d.toNat : Int), .int .u32 o.pr] 78) = w0) := Lib.hid hw0
 have HB0 := Lib.hid hbz
 have HNS := Lib.hid (And.intro hnS hlt)
 have x0 := hrz.cell 0
 have x1 := hrz.cell 1
 have x2 := hrz.cell 2
 have x3 := hrz.cell 3
 have x4 := hrz.cell 4
 have x5 := hrz.cell 5
 have x6 := hrz.cell 6
 have x7 := hrz.cell 7
 have x8 := hrz.cell 8
 unfold opL at x0 x1 x2 x3 x4 x5 x6 x7 x8
 dsimp only [List.getElem?_cons_zero, List.getElem?_cons_succ] at x0 x1 x2 x3 x4 x5 x6 x7 x8
 have HST : Hid (Chk.step l o = Chk.unrefer l o.id o.t o.n) := Lib.hid (by unfold Chk.step; rw [if_neg (by omega)]; rw [if_neg (by omega)]; rw [if_pos hk])
 rw [HST.out]
 rw [hk] at x0 HW0
 have HCA := Lib.hid (runrefer_any h0 hb0 o.id o.t o.n)
 have hn := unrefer_n l o.id o.t o.n
 obtain ⟨R, hR⟩ : ∃ R, Chk.unrefer l o.id o.t o.n = R := ⟨_, rfl⟩
 rw [hR] at HCA hn ⊢
 obtain ⟨q, hq⟩ : ∃ q, decide (R.2.1 = 1) = q := ⟨_, rfl⟩
 unfold RUn at HCA
 rw [hq] at HCA hn
 have HN0 := Lib.hid hn
 clear x4 x5 x6 x7 x8 hR HST hn hq
 clear hw0 hbz hrz h0 hb0 hlt hnS h hb hp
 unfold opV
 rw [hk]
 go_enter Tryz.func27, Tryz.ntmps27
 go_upto_region 1 with fail
 rw [HW0.out]
 clear hk
 cases q with
 | true =>
  go_wp2_with (go_at_call 58; refine HCA.out.mono ?_; rintro e w5 ⟨rfl, h5⟩)
  go_ret2
  refine ⟨by rw [HN0.out]; rfl, ROp.before HB0.out h5⟩
 | false =>
  go_wp2_with (go_at_call 58; refine HCA.out.mono ?_; rintro e w5 ⟨rfl, h5⟩)
  go_ret2
  refine ⟨by rw [HN0.out]; rfl, ROp.before HB0.out h5⟩
set_option maxRecDepth 100000 in
set_option maxHeartbeats 1600000 in
theorem rdo_move {w : World} {F S : Nat → Prop} {a : Nat} {t : RM} {l : List Chk.Ck} (h : RAt w F S a t l) (hb : ∀ b, F b ∨ S b → b < w.heap.size) (o : Chk.Op) (hp : Chk.inR o.pr 4294967296) (hk : o.kind = 4) :
  Calls Tryz.prog 27 #[.pointer (some ⟨a, 0, none⟩), opV o] w (RStep w F S a (Chk.step l o)) := by
 have hbz : Below w.heap.size w (w.alloc (.cells (opL o).toArray 78)) := (Below.refl _ _).alloc (Nat.le_refl _) _
 have hrz := IsRow.new w 78 (opL o)
 have h0 := h.below hbz
 have hb0 : ∀ b, F b ∨ S b → b < (w.alloc (.cells (opL o).toArray 78)).heap.size := fun b hb' => Nat.lt_of_lt_of_le (hb b hb') hbz.size
 have hnS : ¬ S w.heap.size := fun e => by have := hb _ (.inr e); omega
 have hlt : w.heap.size < (w.alloc (.cells (opL o).toArray 78)).heap.size := by simp
 obtain ⟨w0, hw0⟩ : ∃ y, w.alloc (.cells (opL o).toArray 78) = y := ⟨_, rfl⟩
 rw [hw0] at hbz hrz h0 hb0 hlt
 have HW0 : Hid (w.alloc (.cells #[.int .i64 o.kind, .int .i64 o.id, .int .i64 o.t, .int .i64 o.n, .int .i64 o.u.r, .int .i64 o.u.g, .int .i64 o.u.u, .int .u8 (o.d.toNat : Int), .int .u32 o.pr] 78) = w0) := Lib.hid hw0
 have HB0 := Lib.hid hbz
 have HNS := Lib.hid (And.intro hnS hlt)
 have x0 := hrz.cell 0
 have x1 := hrz.cell 1
 have x2 := hrz.cell 2
 have x3 := hrz.cell 3
 have x4 := hrz.cell 4
 have x5 := hrz.cell 5
 have x6 := hrz.cell 6
 have x7 := hrz.cell 7
 have x8 := hrz.cell 8
 unfold opL at x0 x1 x2 x3 x4 x5 x6 x7 x8
 dsimp only [List.getElem?_cons_zero, List.getElem?_cons_succ] at x0 x1 x2 x3 x4 x5 x6 x7 x8
 have HST : Hid (Chk.step l o = Chk.move l o.id o.u) := Lib.hid (by unfold Chk.step; rw [if_neg (by omega)]; rw [if_neg (by omega)]; rw [if_neg (by omega)]; rw [if_pos hk])
 rw [HST.out]
 rw [hk] at x0 HW0
 have HCA := Lib.hid (rmove_any h0 o.id o.u)
 unfold unV at HCA
 have HN0 := Lib.hid (move_n0 l o.id o.u)
 have HBB := Lib.hid hb0
 obtain ⟨R, hR⟩ : ∃ R, Chk.move l o.id o.u = R := ⟨_, rfl⟩
 rw [hR] at HCA HN0 ⊢
 clear x2 x3 x7 x8 hR HST
 clear hw0 hbz hrz h0 hb0 hlt hnS h hb hp
 unfold opV
 rw [hk]
 go_enter Tryz.func27, Tryz.ntmps27
 go_upto_region 1 with fail
 rw [HW0.out]
 clear hk
 go_wp2_with (go_at_call 59; refine HCA.out.mono ?_; rintro e w5 ⟨rfl, ⟨t5, h51⟩, h52⟩)
 go_ret2
 refine ⟨by rw [HN0.out]; rfl, ROp.before HB0.out ⟨F, S, ⟨t5, h51⟩, h52, fun b hb => Nat.lt_of_lt_of_le (HBB.out b hb) h52.size, fun _ h => .inl h, fun _ h => .inl h⟩⟩
set_option maxRecDepth 100000 in
set_option maxHeartbeats 1600000 in
theorem rdo_lose {w : World} {F S : Nat → Prop} {a : Nat} {t : RM} {l : List Chk.Ck} (h : RAt w F S a t l) (hb : ∀ b, F b ∨ S b → b < w.heap.size) (o : Chk.Op) (hp : Chk.inR o.pr 4294967296) (hk : o.kind = 5) :
  Calls Tryz.prog 27 #[.pointer (some ⟨a, 0, none⟩), opV o] w (RStep w F S a (Chk.step l o)) := by
 have hbz : Below w.heap.size w (w.alloc (.cells (opL o).toArray 78)) := (Below.refl _ _).alloc (Nat.le_refl _) _
 have hrz := IsRow.new w 78 (opL o)
 have h0 := h.below hbz
 have hb0 : ∀ b, F b ∨ S b → b < (w.alloc (.cells (opL o).toArray 78)).heap.size := fun b hb' => Nat.lt_of_lt_of_le (hb b hb') hbz.size
 have hnS : ¬ S w.heap.size := fun e => by have := hb _ (.inr e); omega
 have hlt : w.heap.size < (w.alloc (.cells (opL o).toArray 78)).heap.size := by simp
 obtain ⟨w0, hw0⟩ : ∃ y, w.alloc (.cells (opL o).toArray 78) = y := ⟨_, rfl⟩
 rw [hw0] at hbz hrz h0 hb0 hlt
 have HW0 : Hid (w.alloc (.cells #[.int .i64 o.kind, .int .i64 o.id, .int .i64 o.t, .int .i64 o.n, .int .i64 o.u.r, .int .i64 o.u.g, .int .i64 o.u.u, .int .u8 (o.d.toNat : Int), .int .u32 o.pr] 78) = w0) := Lib.hid hw0
 have HB0 := Lib.hid hbz
 have HNS := Lib.hid (And.intro hnS hlt)
 have x0 := hrz.cell 0
 have x1 := hrz.cell 1
 have x2 := hrz.cell 2
 have x3 := hrz.cell 3
 have x4 := hrz.cell 4
 have x5 := hrz.cell 5
 have x6 := hrz.cell 6
 have x7 := hrz.cell 7
 have x8 := hrz.cell 8
 unfold opL at x0 x1 x2 x3 x4 x5 x6 x7 x8
 dsimp only [List.getElem?_cons_zero, List.getElem?_cons_succ] at x0 x1 x2 x3 x4 x5 x6 x7 x8
 have HST : Hid (Chk.step l o = Chk.lose l o.id) := Lib.hid (by unfold Chk.step; rw [if_neg (by omega)]; rw [if_neg (by omega)]; rw [if_neg (by omega)]; rw [if_neg (by omega)]; rw [if_pos hk])
 rw [HST.out]
 rw [hk] at x0 HW0
 have HCA := Lib.hid (rlose_any h0 o.id)
 have HN0 := Lib.hid (lose_n0 l o.id)
 have HBB := Lib.hid hb0
 obtain ⟨R, hR⟩ : ∃ R, Chk.lose l o.id = R := ⟨_, rfl⟩
 rw [hR] at HCA HN0 ⊢
 clear x2 x3 x4 x5 x6 x7 x8 hR HST
 clear hw0 hbz hrz h0 hb0 hlt hnS h hb hp
 unfold opV
 rw [hk]
 go_enter Tryz.func27, Tryz.ntmps27
 go_upto_region 1 with fail
 rw [HW0.out]
 clear hk
 go_wp2_with (go_at_call 60; refine HCA.out.mono ?_; rintro e w5 ⟨rfl, ⟨t5, h51⟩, h52⟩)
 go_ret2
 refine ⟨by rw [HN0.out]; rfl, ROp.before HB0.out ⟨F, S, ⟨t5, h51⟩, h52, fun b hb => Nat.lt_of_lt_of_le (HBB.out b hb) h52.size, fun _ h => .inl h, fun _ h => .inl h⟩⟩
set_option maxRecDepth 100000 in
set_option maxHeartbeats 1600000 in
theorem rdo_none {w : World} {F S : Nat → Prop} {a : Nat} {t : RM} {l : List Chk.Ck} (h : RAt w F S a t l) (hb : ∀ b, F b ∨ S b → b < w.heap.size) (o : Chk.Op) (hp : Chk.inR o.pr 4294967296) (k1 : o.kind ≠ 1) (k2 : o.kind ≠ 2) (k3 : o.kind ≠ 3) (k4 : o.kind ≠ 4) (k5 : o.kind ≠ 5) :
  Calls Tryz.prog 27 #[.pointer (some ⟨a, 0, none⟩), opV o] w (RStep w F S a (Chk.step l o)) := by
 have hbz : Below w.heap.size w (w.alloc (.cells (opL o).toArray 78)) := (Below.refl _ _).alloc (Nat.le_refl _) _
 have hrz := IsRow.new w 78 (opL o)
 have h0 := h.below hbz
 have hb0 : ∀ b, F b ∨ S b → b < (w.alloc (.cells (opL o).toArray 78)).heap.size := fun b hb' => Nat.lt_of_lt_of_le (hb b hb') hbz.size
 have hnS : ¬ S w.heap.size := fun e => by have := hb _ (.inr e); omega
 have hlt : w.heap.size < (w.alloc (.cells (opL o).toArray 78)).heap.size := by simp
 obtain ⟨w0, hw0⟩ : ∃ y, w.alloc (.cells (opL o).toArray 78) = y := ⟨_, rfl⟩
 rw [hw0] at hbz hrz h0 hb0 hlt
 have HW0 : Hid (w.alloc (.cells #[.int .i64 o.kind, .int .i64 o.id, .int .i64 o.t, .int .i64 o.n, .int .i64 o.u.r, .int .i64 o.u.g, .int .i64 o.u.u, .int .u8 (o.d.toNat : Int), .int .u32 o.pr] 78) = w0) := Lib.hid hw0
 have HB0 := Lib.hid hbz
 have HNS := Lib.hid (And.intro hnS hlt)
 have x0 := hrz.cell 0
 have x1 := hrz.cell 1
 have x2 := hrz.cell 2
 have x3 := hrz.cell 3
 have x4 := hrz.cell 4
 have x5 := hrz.cell 5
 have x6 := hrz.cell 6
 have x7 := hrz.cell 7
 have x8 := hrz.cell 8
 unfold opL at x0 x1 x2 x3 x4 x5 x6 x7 x8
 dsimp only [List.getElem?_cons_zero, List.getElem?_cons_succ] at x0 x1 x2 x3 x4 x5 x6 x7 x8
 have HST : Hid (Chk.step l o = (l, 0, 0)) := Lib.hid (by unfold Chk.step; rw [if_neg k1, if_neg k2, if_neg k3, if_neg k4, if_neg k5])
 rw [HST.out]
 have HS := Lib.hid (ROp.same h hb HB0.out)
 obtain ⟨k, hk⟩ : ∃ k, o.kind = k := ⟨_, rfl⟩
 rw [hk] at x0 HW0 k1 k2 k3 k4 k5
 have d1 : (k == 1) = false := by simpa using k1
 have d2 : (k == 2) = false := by simpa using k2
 have d3 : (k == 3) = false := by simpa using k3
 have d4 : (k == 4) = false := by simpa using k4
 have d5 : (k == 5) = false := by simpa using k5
 clear x1 x2 x3 x4 x5 x6 x7 x8 HST
 clear hw0 hbz hrz h0 hb0 hlt hnS h hb hp
 unfold opV
 rw [hk]
 go_enter Tryz.func27, Tryz.ntmps27
 go_upto_region 1 with fail
 rw [HW0.out]
 clear hk
 go_wp2
 go_ret2
 exact ⟨rfl, HS.out⟩
theorem rdo_any {w : World} {F S : Nat → Prop} {a : Nat} {t : RM} {l : List Chk.Ck} (h : RAt w F S a t l) (hb : ∀ b, F b ∨ S b → b < w.heap.size) (o : Chk.Op) (hp : Chk.inR o.pr 4294967296) :
  Calls Tryz.prog 27 #[.pointer (some ⟨a, 0, none⟩), opV o] w (RStep w F S a (Chk.step l o)) := by
 by_cases k1 : o.kind = 1
 ·
  exact rdo_add h hb o hp k1
 by_cases k2 : o.kind = 2
 ·
  exact rdo_refer h hb o hp k2
 by_cases k3 : o.kind = 3
 ·
  exact rdo_unrefer h hb o hp k3
 by_cases k4 : o.kind = 4
 ·
  exact rdo_move h hb o hp k4
 by_cases k5 : o.kind = 5
 ·
  exact rdo_lose h hb o hp k5
 exact rdo_none h hb o hp k1 k2 k3 k4 k5
def Pair (w0 w : World) (a : Nat) (l : List Chk.Ck) (r : Nat) (l' : List Chk.Ck) (G : Nat → Prop) : Prop :=
 ∃ F S F' S' : Nat → Prop, (∃ t, TAt w F S a t l) ∧ (∃ t, RAt w F' S' r t l') ∧ (∀ b, (F b ∨ S b) ∨ (F' b ∨ S' b) → w0.heap.size ≤ b ∧ b < w.heap.size) ∧ (∀ b, S b → ¬ S' b) ∧ (∀ b, F b → ¬ S' b) ∧ (∀ b, F' b → ¬ S b) ∧ Below w0.heap.size w0 w ∧ (∀ b, G b → b < w.heap.size ∧ ¬ S b ∧ ¬ S' b)
section
variable {w0 w w' : World} {a r : Nat} {l l' m : List Chk.Ck} {G : Nat → Prop}
theorem Pair.below (h : Pair w0 w a l r l' G) (hb : Below w.heap.size w w') : Pair w0 w' a l r l' G := by
 obtain ⟨F, S, F', S', ⟨t, h1⟩, ⟨t', h2⟩, h3, h4, h5, h6, h7, h8⟩ := h
 exact ⟨F, S, F', S', ⟨t, h1.below hb⟩, ⟨t', h2.below hb⟩, fun b e => ⟨(h3 b e).1, Nat.lt_of_lt_of_le (h3 b e).2 hb.size⟩, h4, h5, h6, h7.trans (hb.mono h7.size), fun b e => ⟨Nat.lt_of_lt_of_le (h8 b e).1 hb.size, (h8 b e).2⟩⟩
theorem Pair.more (h : Pair w0 w a l r l' G) (hb : Below w.heap.size w w') (x : Nat) (hx1 : w.heap.size ≤ x) (hx2 : x < w'.heap.size) : Pair w0 w' a l r l' (fun b => b = x) := by
 obtain ⟨F, S, F', S', ⟨t, h1⟩, ⟨t', h2⟩, h3, h4, h5, h6, h7, h8⟩ := h
 exact ⟨F, S, F', S', ⟨t, h1.below hb⟩, ⟨t', h2.below hb⟩, fun b e => ⟨(h3 b e).1, Nat.lt_of_lt_of_le (h3 b e).2 hb.size⟩, h4, h5, h6, h7.trans (hb.mono h7.size), fun b e => by
  subst e
  exact ⟨hx2, fun hS => by have := (h3 b (.inl (.inr hS))).2; omega, fun hS => by have := (h3 b (.inr (.inr hS))).2; omega⟩⟩
theorem Pair.free (h : Pair w0 w a l r l' G) : Pair w0 w a l r l' (fun _ => False) := by
 obtain ⟨F, S, F', S', h1, h2, h3, h4, h5, h6, h7, h8⟩ := h
 exact ⟨F, S, F', S', h1, h2, h3, h4, h5, h6, h7, fun _ e => e.elim⟩
theorem Pair.b (h : Pair w0 w a l r l' G) : Below w0.heap.size w0 w := by obtain ⟨F, S, F', S', _, _, _, _, _, _, h7, _⟩ := h; exact h7
theorem Pair.left (h : Pair w0 w a l r l' G) : TabG w0 w a l (fun _ => False) := by
 obtain ⟨F, S, F', S', h1, h2, h3, h4, h5, h6, h7, h8⟩ := h
 exact ⟨F, S, h1, fun b e => h3 b (.inl e), h7, fun _ e => e.elim⟩
theorem Pair.right (h : Pair w0 w a l r l' G) : ∃ F S t, RAt w F S r t l' := by
 obtain ⟨F, S, F', S', _, ⟨t, h2⟩, _⟩ := h
 exact ⟨F', S', t, h2⟩
theorem Pair.rdo_ (h : Pair w0 w a l r l' G) (o : Chk.Op) (hp : Chk.inR o.pr 4294967296) :
  Calls Tryz.prog 27 #[.pointer (some ⟨r, 0, none⟩), opV o] w fun e w' => e = .returned (.tuple #[.int .i64 (Chk.step l' o).2.1, .int .i64 (Chk.step l' o).2.2]) ∧ Pair w0 w' a l r (Chk.step l' o).1 G ∧ SameG w w' G := by
 obtain ⟨F, S, F', S', ⟨t, h1⟩, ⟨t', h2⟩, h3, h4, h5, h6, h7, h8⟩ := h
 refine (rdo_any h2 (fun b e => (h3 b (.inr e)).2) o hp).mono ?_
 rintro e w' ⟨he, Fn, Sn, ht, hk, hb, hS, hF⟩
 have hs := h7.size
 refine ⟨he, ⟨F, S, Fn, Sn, ⟨t, h1.keep hk (fun b e e2 => h4 b e e2) h5⟩, ht, fun b e => ?_, fun b e e2 => ?_, fun b e e2 => ?_, fun b e e2 => ?_, Below.then_keep h7 hk (fun b e => (h3 b (.inr (.inr e))).1) (Nat.le_refl _), fun b e => ⟨Nat.lt_of_lt_of_le (h8 b e).1 hk.size, (h8 b e).2.1, fun e2 => ?_⟩⟩, fun b e => hk.block b (h8 b e).1 (h8 b e).2.2⟩
 ·
  rcases e with e | e | e
  ·
   exact ⟨(h3 b (.inl e)).1, Nat.lt_of_lt_of_le (h3 b (.inl e)).2 hk.size⟩
  ·
   refine ⟨?_, hb b (.inl e)⟩
   rcases hF b e with h | h
   ·
    exact (h3 b (.inr (.inl h))).1
   ·
    omega
  ·
   refine ⟨?_, hb b (.inr e)⟩
   rcases hS b e with h | h
   ·
    exact (h3 b (.inr (.inr h))).1
   ·
    omega
 ·
  rcases hS b e2 with h | h
  ·
   exact h4 b e h
  ·
   have := (h3 b (.inl (.inr e))).2; omega
 ·
  rcases hS b e2 with h | h
  ·
   exact h5 b e h
  ·
   have := (h3 b (.inl (.inl e))).2; omega
 ·
  rcases hF b e with h | h
  ·
   exact h6 b h e2
  ·
   have := (h3 b (.inl (.inr e2))).2; omega
 ·
  rcases hS b e2 with h | h
  ·
   exact (h8 b e).2.2 h
  ·
   have := (h8 b e).1; omega
theorem TabNew.pair (h : TabNew w0 w a l) : Pair w0 (w.alloc (.cells #[.slice none 0 0] 58)) a l w.heap.size [] (fun _ => False) := by
 obtain ⟨F, S, ⟨t, ht⟩, h2, h3⟩ := h
 have hbz : Below w.heap.size w (w.alloc (.cells #[.slice none 0 0] 58)) := (Below.refl _ _).alloc (Nat.le_refl _) _
 have hs : (w.alloc (.cells #[.slice none 0 0] 58)).heap.size = w.heap.size + 1 := by simp
 have hrow := IsRow.new w 58 [.slice none 0 0]
 refine ⟨F, S, fun _ => False, fun b => b = w.heap.size, ⟨t, ht.below hbz⟩, ⟨⟨none, 0, 0, []⟩, hrow, World.ownsRow_nil _ _ _ _, rfl, fun _ hx => (List.not_mem_nil hx).elim, rfl, fun g hg => (by cases hg), fun g hg => (by cases hg), fun _ e => e.elim, Chk.Inv.nil⟩, fun b e => ?_, fun b e e2 => ?_, fun b e e2 => ?_, fun b e => e.elim, h3.trans (hbz.mono h3.size), fun _ e => e.elim⟩
 ·
  have hs3 := h3.size
  rcases e with e | e | e
  ·
   exact ⟨(h2 b e).1, Nat.lt_of_lt_of_le (h2 b e).2 hbz.size⟩
  ·
   exact e.elim
  ·
   subst e; exact ⟨hs3, by rw [hs]; omega⟩
 ·
  subst e2; have := (h2 _ (.inr e)).2; omega
 ·
  subst e2; have := (h2 _ (.inl e)).2; omega
end
end
end Go.Proofs.YtfllkaeaanahmaaGreat
