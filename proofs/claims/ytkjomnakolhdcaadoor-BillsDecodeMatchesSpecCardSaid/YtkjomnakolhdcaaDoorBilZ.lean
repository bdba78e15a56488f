/- Layer 35's Encode. Conditions: the ledger's numbers have 64 bits. -/
import Derived.Test.YtkjomnakolhdcaaDoorHeld2
import Derived.Test.YtkjomnakolhdcaaDoorBilY
namespace Go.Proofs.YtkjomnakolhdcaaDoor
set_option linter.unusedVariables false
set_option linter.unusedSimpArgs false
open Go.RowKit
abbrev oZ0 : Oper := { dst := some 6, op := Op.move (Operand.tmp 0), type := 25, pos := "bills.go:162", after := #[], guard := none }
abbrev oZ1 : Oper := { dst := some 9, op := Op.move (Operand.tmp 0), type := 25, pos := "bills.go:162", after := #[], guard := none }
abbrev oZ2 : Oper := { dst := some 10, op := Op.nilCheck (Operand.tmp 9), type := 0, pos := "bills.go:162", after := #[{ on := 3, ground := Ground.data }], guard := none }
abbrev oZ3 : Oper := { dst := some 11, op := Op.fieldAddr 71 (Operand.tmp 10) 0, type := 0, pos := "bills.go:162", after := #[{ on := 4, ground := Ground.data }], guard := none }
abbrev oZ4 : Oper := { dst := some 12, op := Op.load 3 (Operand.tmp 11), type := 3, pos := "bills.go:162", after := #[{ on := 5, ground := Ground.data }], guard := none }
abbrev oZ5 : Oper := { dst := some 14, op := Op.move (Operand.tmp 0), type := 25, pos := "bills.go:162", after := #[], guard := none }
abbrev oZ6 : Oper := { dst := some 15, op := Op.nilCheck (Operand.tmp 14), type := 0, pos := "bills.go:162", after := #[{ on := 8, ground := Ground.data }], guard := none }
abbrev oZ7 : Oper := { dst := some 16, op := Op.fieldAddr 71 (Operand.tmp 15) 4, type := 0, pos := "bills.go:162", after := #[{ on := 9, ground := Ground.data }], guard := none }
abbrev oZ8 : Oper := { dst := some 17, op := Op.slice 66 (Operand.tmp 16) none none none, type := 58, pos := "bills.go:162", after := #[{ on := 10, ground := Ground.data }], guard := none }
abbrev oZ9 : Oper := { dst := some 18, op := Op.move (Operand.tmp 0), type := 25, pos := "bills.go:162", after := #[], guard := none }
abbrev oZ10 : Oper := { dst := some 19, op := Op.nilCheck (Operand.tmp 18), type := 0, pos := "bills.go:162", after := #[{ on := 12, ground := Ground.data }], guard := none }
abbrev oZ11 : Oper := { dst := some 20, op := Op.fieldAddr 71 (Operand.tmp 19) 2, type := 0, pos := "bills.go:162", after := #[{ on := 13, ground := Ground.data }], guard := none }
abbrev oZ12 : Oper := { dst := some 21, op := Op.load 29 (Operand.tmp 20), type := 29, pos := "bills.go:162", after := #[{ on := 14, ground := Ground.data }], guard := none }
abbrev oZ13 : Oper := { dst := some 23, op := Op.move (Operand.tmp 0), type := 25, pos := "bills.go:162", after := #[], guard := none }
abbrev oZ14 : Oper := { dst := some 24, op := Op.nilCheck (Operand.tmp 23), type := 0, pos := "bills.go:162", after := #[{ on := 17, ground := Ground.data }], guard := none }
abbrev oZ15 : Oper := { dst := some 25, op := Op.fieldAddr 71 (Operand.tmp 24) 3, type := 0, pos := "bills.go:162", after := #[{ on := 18, ground := Ground.data }], guard := none }
abbrev oZ16 : Oper := { dst := some 26, op := Op.load 29 (Operand.tmp 25), type := 29, pos := "bills.go:162", after := #[{ on := 19, ground := Ground.data }], guard := none }
abbrev oZ17 : Oper := { dst := some 7, op := Op.call { callee := Callee.value (Operand.func 43), args := #[Operand.tmp 6], argTypes := #[25] }, type := 3, pos := "bills.go:162", after := #[{ on := 0, ground := Ground.data }], guard := none }
abbrev oZ18 : Oper := { dst := some 8, op := Op.call { callee := Callee.value (Operand.func 32), args := #[Operand.tmp 7], argTypes := #[3] }, type := 58, pos := "bills.go:162", after := #[{ on := 1, ground := Ground.data }, { on := 1, ground := Ground.chain }], guard := none }
abbrev oZ19 : Oper := { dst := some 13, op := Op.call { callee := Callee.value (Operand.func 32), args := #[Operand.tmp 12], argTypes := #[3] }, type := 58, pos := "bills.go:162", after := #[{ on := 6, ground := Ground.data }, { on := 2, ground := Ground.chain }], guard := none }
abbrev oZ20 : Oper := { dst := some 22, op := Op.call { callee := Callee.value (Operand.func 58), args := #[Operand.tmp 21], argTypes := #[29] }, type := 58, pos := "bills.go:162", after := #[{ on := 15, ground := Ground.data }, { on := 7, ground := Ground.chain }], guard := none }
abbrev oZ21 : Oper := { dst := some 27, op := Op.call { callee := Callee.value (Operand.func 58), args := #[Operand.tmp 26], argTypes := #[29] }, type := 58, pos := "bills.go:162", after := #[{ on := 20, ground := Ground.data }, { on := 16, ground := Ground.chain }], guard := none }
abbrev oZ22 : Oper := { dst := some 28, op := Op.buildSlice 121 5 #[(0, Operand.tmp 8), (1, Operand.tmp 13), (2, Operand.tmp 17), (3, Operand.tmp 22), (4, Operand.tmp 27)], type := 121, pos := "bills.go:162", after := #[{ on := 2, ground := Ground.data }, { on := 7, ground := Ground.data }, { on := 11, ground := Ground.data }, { on := 16, ground := Ground.data }, { on := 21, ground := Ground.data }], guard := none }
abbrev oZ23 : Oper := { dst := some 29, op := Op.call { callee := Callee.value (Operand.func 57), args := #[Operand.tmp 28], argTypes := #[121] }, type := 58, pos := "bills.go:162", after := #[{ on := 22, ground := Ground.data }, { on := 21, ground := Ground.chain }], guard := none }
abbrev oZ24 : Oper := { dst := some 3, op := Op.assign (Operand.tmp 29), type := 58, pos := "bills.go:162", after := #[{ on := 23, ground := Ground.data }, { on := 23, ground := Ground.chain }, { on := 0, ground := Ground.phase }, { on := 1, ground := Ground.phase }, { on := 2, ground := Ground.phase }, { on := 3, ground := Ground.phase }, { on := 4, ground := Ground.phase }, { on := 5, ground := Ground.phase }, { on := 6, ground := Ground.phase }, { on := 7, ground := Ground.phase }, { on := 8, ground := Ground.phase }, { on := 9, ground := Ground.phase }, { on := 10, ground := Ground.phase }, { on := 11, ground := Ground.phase }, { on := 12, ground := Ground.phase }, { on := 13, ground := Ground.phase }, { on := 14, ground := Ground.phase }, { on := 15, ground := Ground.phase }, { on := 16, ground := Ground.phase }, { on := 17, ground := Ground.phase }, { on := 18, ground := Ground.phase }, { on := 19, ground := Ground.phase }, { on := 20, ground := Ground.phase }, { on := 21, ground := Ground.phase }, { on := 22, ground := Ground.phase }, { on := 23, ground := Ground.phase }], guard := none }
abbrev oZ25 : Oper := { dst := some 39, op := Op.move (Operand.tmp 3), type := 58, pos := "bills.go:164", after := #[], guard := none }
abbrev oZ26 : Oper := { dst := some 40, op := Op.fieldAddr 79 (Operand.tmp 5) 0, type := 0, pos := "bills.go:164", after := #[], guard := none }
abbrev oZ27 : Oper := { dst := some 41, op := Op.fieldAddr 31 (Operand.tmp 40) 1, type := 0, pos := "bills.go:164", after := #[{ on := 1, ground := Ground.data }], guard := none }
abbrev oZ28 : Oper := { dst := some 42, op := Op.load 3 (Operand.tmp 41), type := 3, pos := "bills.go:164", after := #[{ on := 2, ground := Ground.data }], guard := none }
abbrev oZ29 : Oper := { dst := some 44, op := Op.fieldAddr 79 (Operand.tmp 5) 0, type := 0, pos := "bills.go:164", after := #[], guard := none }
abbrev oZ30 : Oper := { dst := some 45, op := Op.fieldAddr 31 (Operand.tmp 44) 2, type := 0, pos := "bills.go:164", after := #[{ on := 5, ground := Ground.data }], guard := none }
abbrev oZ31 : Oper := { dst := some 46, op := Op.load 3 (Operand.tmp 45), type := 3, pos := "bills.go:164", after := #[{ on := 6, ground := Ground.data }], guard := none }
abbrev oZ32 : Oper := { dst := some 48, op := Op.fieldAddr 79 (Operand.tmp 5) 0, type := 0, pos := "bills.go:164", after := #[], guard := none }
abbrev oZ33 : Oper := { dst := some 49, op := Op.fieldAddr 31 (Operand.tmp 48) 3, type := 0, pos := "bills.go:164", after := #[{ on := 9, ground := Ground.data }], guard := none }
abbrev oZ34 : Oper := { dst := some 50, op := Op.load 29 (Operand.tmp 49), type := 29, pos := "bills.go:164", after := #[{ on := 10, ground := Ground.data }], guard := none }
abbrev oZ35 : Oper := { dst := some 52, op := Op.fieldAddr 79 (Operand.tmp 5) 0, type := 0, pos := "bills.go:164", after := #[], guard := none }
abbrev oZ36 : Oper := { dst := some 53, op := Op.fieldAddr 31 (Operand.tmp 52) 4, type := 0, pos := "bills.go:164", after := #[{ on := 13, ground := Ground.data }], guard := none }
abbrev oZ37 : Oper := { dst := some 54, op := Op.load 29 (Operand.tmp 53), type := 29, pos := "bills.go:164", after := #[{ on := 14, ground := Ground.data }], guard := none }
abbrev oZ38 : Oper := { dst := some 56, op := Op.fieldAddr 79 (Operand.tmp 5) 1, type := 0, pos := "bills.go:164", after := #[], guard := none }
abbrev oZ39 : Oper := { dst := some 57, op := Op.load 29 (Operand.tmp 56), type := 29, pos := "bills.go:164", after := #[{ on := 17, ground := Ground.data }], guard := none }
abbrev oZ40 : Oper := { dst := some 43, op := Op.call { callee := Callee.value (Operand.func 32), args := #[Operand.tmp 42], argTypes := #[3] }, type := 58, pos := "bills.go:164", after := #[{ on := 3, ground := Ground.data }], guard := none }
abbrev oZ41 : Oper := { dst := some 47, op := Op.call { callee := Callee.value (Operand.func 32), args := #[Operand.tmp 46], argTypes := #[3] }, type := 58, pos := "bills.go:164", after := #[{ on := 7, ground := Ground.data }, { on := 4, ground := Ground.chain }], guard := none }
abbrev oZ42 : Oper := { dst := some 51, op := Op.call { callee := Callee.value (Operand.func 58), args := #[Operand.tmp 50], argTypes := #[29] }, type := 58, pos := "bills.go:164", after := #[{ on := 11, ground := Ground.data }, { on := 8, ground := Ground.chain }], guard := none }
abbrev oZ43 : Oper := { dst := some 55, op := Op.call { callee := Callee.value (Operand.func 58), args := #[Operand.tmp 54], argTypes := #[29] }, type := 58, pos := "bills.go:164", after := #[{ on := 15, ground := Ground.data }, { on := 12, ground := Ground.chain }], guard := none }
abbrev oZ44 : Oper := { dst := some 58, op := Op.call { callee := Callee.value (Operand.func 58), args := #[Operand.tmp 57], argTypes := #[29] }, type := 58, pos := "bills.go:164", after := #[{ on := 18, ground := Ground.data }, { on := 16, ground := Ground.chain }], guard := none }
abbrev oZ45 : Oper := { dst := some 59, op := Op.buildSlice 121 6 #[(0, Operand.tmp 39), (1, Operand.tmp 43), (2, Operand.tmp 47), (3, Operand.tmp 51), (4, Operand.tmp 55), (5, Operand.tmp 58)], type := 121, pos := "bills.go:164", after := #[{ on := 0, ground := Ground.data }, { on := 4, ground := Ground.data }, { on := 8, ground := Ground.data }, { on := 12, ground := Ground.data }, { on := 16, ground := Ground.data }, { on := 19, ground := Ground.data }], guard := none }
abbrev oZ46 : Oper := { dst := some 60, op := Op.call { callee := Callee.value (Operand.func 57), args := #[Operand.tmp 59], argTypes := #[121] }, type := 58, pos := "bills.go:164", after := #[{ on := 20, ground := Ground.data }, { on := 19, ground := Ground.chain }], guard := none }
abbrev oZ47 : Oper := { dst := some 3, op := Op.assign (Operand.tmp 60), type := 58, pos := "bills.go:164", after := #[{ on := 21, ground := Ground.data }, { on := 21, ground := Ground.chain }, { on := 0, ground := Ground.phase }, { on := 1, ground := Ground.phase }, { on := 2, ground := Ground.phase }, { on := 3, ground := Ground.phase }, { on := 4, ground := Ground.phase }, { on := 5, ground := Ground.phase }, { on := 6, ground := Ground.phase }, { on := 7, ground := Ground.phase }, { on := 8, ground := Ground.phase }, { on := 9, ground := Ground.phase }, { on := 10, ground := Ground.phase }, { on := 11, ground := Ground.phase }, { on := 12, ground := Ground.phase }, { on := 13, ground := Ground.phase }, { on := 14, ground := Ground.phase }, { on := 15, ground := Ground.phase }, { on := 16, ground := Ground.phase }, { on := 17, ground := Ground.phase }, { on := 18, ground := Ground.phase }, { on := 19, ground := Ground.phase }, { on := 20, ground := Ground.phase }, { on := 21, ground := Ground.phase }], guard := none }
def i64 (x : Int) : Prop := -9223372036854775808 ≤ x ∧ x ≤ 9223372036854775807
namespace Bil
structure AEnc (a : Acc) : Prop where
  md : i64 a.bill.media
  hs : i64 a.bill.house
  c : I64s a.bill.charges
  r : I64s a.bill.credits
  g : I64s a.granted
def KEnc (l : Lg) : Prop := ∀ a ∈ l.kept, AEnc a
/-- the encoding of an account, of a ledger -/
def encA (a : Acc) : List UInt8 := Wire.enc a.bill.media ++ (Wire.enc a.bill.house ++ (Wire.encI a.bill.charges ++ (Wire.encI a.bill.credits ++ Wire.encI a.granted)))
def encH (l : Lg) : List UInt8 := Wire.enc (l.n : Int) ++ (Wire.enc (l.periods : Int) ++ (l.head ++ (Wire.encI l.pending ++ Wire.encI l.paid)))
def enc (l : Lg) : List UInt8 := encH l ++ l.kept.flatMap encA
end Bil
theorem encA_le (a : Bil.Acc) (n : Nat) (h1 : a.bill.charges.length = n) (h2 : a.bill.credits.length = n) (h3 : a.granted.length = n) : (Bil.encA a).length ≤ 45 + 27 * n := by
  have e1 := Wire.enc_length_le a.bill.media
  have e2 := Wire.enc_length_le a.bill.house
  have e3 := encI_len a.bill.charges
  have e4 := encI_len a.bill.credits
  have e5 := encI_len a.granted
  unfold Bil.encA
  simp only [List.length_append]
  omega
theorem infoA : (Tryd.prog.info? 79).map (fun i => (i.zero, i.size)) = some (some (.agg [.int .i64 0, .int .i64 0, .int .i64 0, .slice none 0 0, .slice none 0 0, .slice none 0 0, .slice none 0 0].toArray), [Value.int .i64 0, .int .i64 0, .int .i64 0, .slice none 0 0, .slice none 0 0, .slice none 0 0, .slice none 0 0].length) := by kernel_rfl
theorem catN (L : List BSl) (n : Nat) (hL : L.length = n) (hn : n ≤ 1000) (w w1 : World) (hw : w.alloc (.cells (L.map bsl).toArray 58) = w1) (hok : ∀ y ∈ L, BSlOk w w.heap.size y) (ht : (catL L).length ≤ 1099511627776) :
    Calls Tryd.prog 57 #[.slice (some ⟨w.heap.size, 0, none⟩) n n] w1 fun e w' => ∃ A' N c', e = .returned (.slice A' N c') ∧ N = (catL L).length ∧ Rd w' w'.heap.size 1 A' N (bvs (catL L)) ∧ Below w.heap.size w w' := by
  subst hw
  have hb : Below w.heap.size w (w.alloc (.cells (L.map bsl).toArray 58)) := (Below.refl _ _).alloc (Nat.le_refl _) _
  have h := concat_any (some ⟨w.heap.size, 0, none⟩) n n L hL hn (w.heap.size + 1) _ (Rd.new w (L.map bsl) 58 n (size := 1) (by rw [List.length_map, hL]; omega)) (fun y hy => ⟨(hok y hy).1, ((hok y hy).2.below hb).more (Nat.le_succ _)⟩) (by rw [alloc_size1]; exact Nat.le_refl _) ht
  refine h.mono ?_
  rintro e w' ⟨A', c', rfl, own, b'⟩
  exact ⟨A', _, c', rfl, rfl, Rd.of_own own, hb.trans (b'.mono hb.size)⟩
theorem ints_at {w : World} {g c n : Nat} {l : List Int} (h : FRow w g n (fun t => l.getD t 0)) (hl : l.length = n) (hn : n ≤ 1000) (hi : I64s l) : Calls Tryd.prog 58 #[.slice (some ⟨g, 0, none⟩) n c] w fun e w' => ∃ A c, e = .returned (.slice A (Wire.encI l).length c) ∧
      w'.ownsRow w.heap.size 5 1 (.slice A (Wire.encI l).length c) (Wire.encI l).length (bvs (Wire.encI l)) ∧ Below w.heap.size w w' := by
  have hr := h.rd hl
  subst hl
  exact wireInts_any (some ⟨g, 0, none⟩) c l (by omega) hi w hr
/-- the result of Encode -/
def EncRes (w : World) (x : List UInt8) (e : Ending) (w' : World) : Prop := ∃ A n c, e = .returned (.slice A n c) ∧ n = x.length ∧ Rd w' w'.heap.size 1 A n (bvs x) ∧ Below w.heap.size w w'
set_option maxRecDepth 100000 in
set_option maxHeartbeats 6400000 in
theorem encode_any (bl : Nat) (col : Nat → Nat) (m : LM) (l : Bil.Lg) (w : World) (h : LAt w bl col m l) (hp : I64s l.pending) (hq : I64s l.paid) (hk : Bil.KEnc l) :
    Calls Tryd.prog 26 #[.pointer (some ⟨bl, 0, none⟩)] w (EncRes w (Bil.enc l)) := by
  have hrow := h.row
  have HH := Lib.hid h
  have HBL : Hid (bl < w.heap.size) := Lib.hid hrow.lt
  have c0 : w.cell? ⟨bl, 0, none⟩ = some (.int .i64 (l.periods : Int)) := hrow.cell 0
  have c1 : w.cell? ⟨bl, 1, none⟩ = some (.slice m.A m.ks.length m.c) := hrow.cell 1
  have c2 : w.cell? ⟨bl, 2, none⟩ = some (.slice (some ⟨m.bp, 0, none⟩) l.n m.cp) := hrow.cell 2
  have c3 : w.cell? ⟨bl, 3, none⟩ = some (.slice (some ⟨m.bq, 0, none⟩) l.n m.cq) := hrow.cell 3
  have hrng : Rd w (bl + 1) 1 (some ⟨bl, 4, none⟩) 16 (bvs l.head) := ⟨by simp [h.h16], fun _ => ⟨bl, 4, rfl, by omega, fun j u hu => by
    rw [hrow.cell]
    show (m.cells l)[4 + j]? = some u
    rw [Nat.add_comm]
    exact hu⟩⟩
  have HRN := Lib.hid hrng
  have HTN := Lib.hid (fun W (hW : Below w.heap.size w W) => tenants_any bl col m l W (h.below hW))
  have HP := Lib.hid (fun W (hW : Below w.heap.size w W) => ints_at (c := m.cp) (h.pend.below hW) h.lp (by have := h.n2; omega) hp)
  have HQ := Lib.hid (fun W (hW : Below w.heap.size w W) => ints_at (c := m.cq) (h.paid.below hW) h.lq (by have := h.n2; omega) hq)
  have hn2 := h.n2
  have hper := h.per
  have HN := Lib.hid (fun W => wireInt_any (l.n : Int) (by omega) (by omega) W)
  have HPE := Lib.hid (fun W => wireInt_any (l.periods : Int) (by omega) (by omega) W)
  have hle0 : (Bil.encH l).length ≤ 400 := by
    have e1 := Wire.enc_length_le (l.n : Int)
    have e2 := Wire.enc_length_le (l.periods : Int)
    have e3 := encI_len l.pending
    have e4 := encI_len l.paid
    have e5 := h.h16
    have e6 := h.lp
    have e7 := h.lq
    unfold Bil.encH
    simp only [List.length_append]
    omega
  have HE0 := Lib.hid hle0
  have HKE := Lib.hid hk
  obtain ⟨N, hN⟩ : ∃ x, l.n = x := ⟨_, rfl⟩
  obtain ⟨P, hP⟩ : ∃ x, l.periods = x := ⟨_, rfl⟩
  obtain ⟨Lk, hLk⟩ : ∃ x, m.ks.length = x := ⟨_, rfl⟩
  have hL16 : Lk ≤ 16 := by rw [← hLk]; exact h.len
  rw [hN] at c2 c3 HTN HP HQ HN
  rw [hP] at c0 HPE
  rw [hLk] at c1
  have HEQ := Lib.hid (And.intro hN (And.intro hP hLk))
  have HC := Lib.hid (And.intro c0 (And.intro c1 (And.intro c2 c3)))
  clear h hrow hrng hp hq hk hn2 hper hle0 hN hP hLk c0 c1 c2 c3
  go_enter Tryd.func26, Tryd.ntmps26
  go_upto_region 1 with fail
  go_cut [3] (fun u3 wx => ∃ A3 n3 c3, u3 = .slice A3 n3 c3 ∧ Hid (n3 = (Bil.encH l).length) ∧ Hid (Rd wx wx.heap.size 1 A3 n3 (bvs (Bil.encH l))) ∧ Hid (Below w.heap.size w wx))
  case first =>
    go_wp2_with fail
    have hv0 : Below w.heap.size w w.drew := (Below.refl _ _).drew
    refine wp_region_held_drew (S := fun W => Below w.heap.size w W) (by kernel_rfl) (hv0) (fun hHeld => ?_)
    obtain ⟨wd, hwd⟩ : ∃ x, w.drew = x := ⟨_, rfl⟩
    rw [hwd] at hv0 hHeld ⊢
    clear hwd
    refine tkH 0 oZ0 ?v0_101 (.inl ⟨by rfl, ?h0_101⟩) ?r0_101
    case h0_101 =>
      intro W hSW
      unfold oZ0
      try dsimp only at hSW
      go_simp
      try with_reducible rfl
    try simp only [oZ0, PT]
    refine tkH 3 oZ1 ?v3_102 (.inl ⟨by rfl, ?h3_102⟩) ?r3_102
    case h3_102 =>
      intro W hSW
      unfold oZ1
      try dsimp only at hSW
      go_simp
      try with_reducible rfl
    try simp only [oZ1, PT]
    refine tkH 4 oZ2 ?v4_103 (.inl ⟨by rfl, ?h4_103⟩) ?r4_103
    case h4_103 =>
      intro W hSW
      unfold oZ2
      try dsimp only at hSW
      go_simp
      try with_reducible rfl
    try simp only [oZ2, PT]
    refine tkH 5 oZ3 ?v5_104 (.inl ⟨by rfl, ?h5_104⟩) ?r5_104
    case h5_104 =>
      intro W hSW
      unfold oZ3
      try dsimp only at hSW
      go_simp
      try with_reducible rfl
    try simp only [oZ3, PT]
    refine tkH 6 oZ4 ?v6_105 (.inl ⟨by rfl, ?h6_105⟩) ?r6_105
    case h6_105 =>
      intro W hSW
      unfold oZ4
      try dsimp only at hSW
      have hcc := (hSW.cell (p := ⟨bl, 0, none⟩) HBL.out).trans HC.out.1
      go_simp
      try with_reducible rfl
    try simp only [oZ4, PT]
    refine tkH 8 oZ5 ?v8_106 (.inl ⟨by rfl, ?h8_106⟩) ?r8_106
    case h8_106 =>
      intro W hSW
      unfold oZ5
      try dsimp only at hSW
      go_simp
      try with_reducible rfl
    try simp only [oZ5, PT]
    refine tkH 9 oZ6 ?v9_107 (.inl ⟨by rfl, ?h9_107⟩) ?r9_107
    case h9_107 =>
      intro W hSW
      unfold oZ6
      try dsimp only at hSW
      go_simp
      try with_reducible rfl
    try simp only [oZ6, PT]
    refine tkH 10 oZ7 ?v10_108 (.inl ⟨by rfl, ?h10_108⟩) ?r10_108
    case h10_108 =>
      intro W hSW
      unfold oZ7
      try dsimp only at hSW
      go_simp
      try with_reducible rfl
    try simp only [oZ7, PT]
    refine tkH 11 oZ8 ?v11_109 (.inl ⟨by rfl, ?h11_109⟩) ?r11_109
    case h11_109 =>
      intro W hSW
      unfold oZ8
      try dsimp only at hSW
      go_simp
      try with_reducible rfl
    try simp only [oZ8, PT]
    refine tkH 12 oZ9 ?v12_110 (.inl ⟨by rfl, ?h12_110⟩) ?r12_110
    case h12_110 =>
      intro W hSW
      unfold oZ9
      try dsimp only at hSW
      go_simp
      try with_reducible rfl
    try simp only [oZ9, PT]
    refine tkH 13 oZ10 ?v13_111 (.inl ⟨by rfl, ?h13_111⟩) ?r13_111
    case h13_111 =>
      intro W hSW
      unfold oZ10
      try dsimp only at hSW
      go_simp
      try with_reducible rfl
    try simp only [oZ10, PT]
    refine tkH 14 oZ11 ?v14_112 (.inl ⟨by rfl, ?h14_112⟩) ?r14_112
    case h14_112 =>
      intro W hSW
      unfold oZ11
      try dsimp only at hSW
      go_simp
      try with_reducible rfl
    try simp only [oZ11, PT]
    refine tkH 15 oZ12 ?v15_113 (.inl ⟨by rfl, ?h15_113⟩) ?r15_113
    case h15_113 =>
      intro W hSW
      unfold oZ12
      try dsimp only at hSW
      have hcc := (hSW.cell (p := ⟨bl, 2, none⟩) HBL.out).trans HC.out.2.2.1
      go_simp
      try with_reducible rfl
    try simp only [oZ12, PT]
    refine tkH 17 oZ13 ?v17_114 (.inl ⟨by rfl, ?h17_114⟩) ?r17_114
    case h17_114 =>
      intro W hSW
      unfold oZ13
      try dsimp only at hSW
      go_simp
      try with_reducible rfl
    try simp only [oZ13, PT]
    refine tkH 18 oZ14 ?v18_115 (.inl ⟨by rfl, ?h18_115⟩) ?r18_115
    case h18_115 =>
      intro W hSW
      unfold oZ14
      try dsimp only at hSW
      go_simp
      try with_reducible rfl
    try simp only [oZ14, PT]
    refine tkH 19 oZ15 ?v19_116 (.inl ⟨by rfl, ?h19_116⟩) ?r19_116
    case h19_116 =>
      intro W hSW
      unfold oZ15
      try dsimp only at hSW
      go_simp
      try with_reducible rfl
    try simp only [oZ15, PT]
    refine tkH 20 oZ16 ?v20_117 (.inl ⟨by rfl, ?h20_117⟩) ?r20_117
    case h20_117 =>
      intro W hSW
      unfold oZ16
      try dsimp only at hSW
      have hcc := (hSW.cell (p := ⟨bl, 3, none⟩) HBL.out).trans HC.out.2.2.2
      go_simp
      try with_reducible rfl
    try simp only [oZ16, PT]
    refine rdyH [1] ?_
    refine AllReadyH.cons (o := oZ17) rfl (fun K hK => ?_) AllReadyH.nil
    unfold oZ17
    go_simp
    refine (HTN.out _ hv0).mono ?_
    rintro e w40 ⟨rfl, hw40⟩
    have hv40 : Below w.heap.size w w40 := by rw [hw40]; exact hv0
    clear hw40
    refine hK.out _ _ (hv40) (fun hHeld => ?_)
    clear hK K
    try simp only [PT]
    refine rdyH [2] ?_
    refine AllReadyH.cons (o := oZ18) rfl (fun K hK => ?_) AllReadyH.nil
    unfold oZ18
    go_simp
    refine (HN.out _).mono ?_
    rintro e w41 ⟨A8, c8, rfl, own41, b41⟩
    have hv41 : Below w.heap.size w w41 := hv40.trans (b41.mono hv40.size)
    try have r13 := (r13.below b41).more b41.size
    try have r22 := (r22.below b41).more b41.size
    try have r27 := (r27.below b41).more b41.size
    try have r43 := (r43.below b41).more b41.size
    try have r47 := (r47.below b41).more b41.size
    try have r51 := (r51.below b41).more b41.size
    try have r55 := (r55.below b41).more b41.size
    try have r58 := (r58.below b41).more b41.size
    have r8 := Rd.of_own own41
    clear own41 b41
    refine hK.out _ _ (hv41) (fun hHeld => ?_)
    clear hK K
    try simp only [PT]
    refine rdyH [7] ?_
    refine AllReadyH.cons (o := oZ19) rfl (fun K hK => ?_) AllReadyH.nil
    unfold oZ19
    go_simp
    refine (HPE.out _).mono ?_
    rintro e w42 ⟨A13, c13, rfl, own42, b42⟩
    have hv42 : Below w.heap.size w w42 := hv41.trans (b42.mono hv41.size)
    try have r8 := (r8.below b42).more b42.size
    try have r22 := (r22.below b42).more b42.size
    try have r27 := (r27.below b42).more b42.size
    try have r43 := (r43.below b42).more b42.size
    try have r47 := (r47.below b42).more b42.size
    try have r51 := (r51.below b42).more b42.size
    try have r55 := (r55.below b42).more b42.size
    try have r58 := (r58.below b42).more b42.size
    have r13 := Rd.of_own own42
    clear own42 b42
    refine hK.out _ _ (hv42) (fun hHeld => ?_)
    clear hK K
    try simp only [PT]
    refine rdyH [16] ?_
    refine AllReadyH.cons (o := oZ20) rfl (fun K hK => ?_) AllReadyH.nil
    unfold oZ20
    go_simp
    refine (HP.out _ hv42).mono ?_
    rintro e w43 ⟨A22, c22, rfl, own43, b43⟩
    have hv43 : Below w.heap.size w w43 := hv42.trans (b43.mono hv42.size)
    try have r8 := (r8.below b43).more b43.size
    try have r13 := (r13.below b43).more b43.size
    try have r27 := (r27.below b43).more b43.size
    try have r43 := (r43.below b43).more b43.size
    try have r47 := (r47.below b43).more b43.size
    try have r51 := (r51.below b43).more b43.size
    try have r55 := (r55.below b43).more b43.size
    try have r58 := (r58.below b43).more b43.size
    have r22 := Rd.of_own own43
    clear own43 b43
    refine hK.out _ _ (hv43) (fun hHeld => ?_)
    clear hK K
    try simp only [PT]
    refine rdyH [21] ?_
    refine AllReadyH.cons (o := oZ21) rfl (fun K hK => ?_) AllReadyH.nil
    unfold oZ21
    go_simp
    refine (HQ.out _ hv43).mono ?_
    rintro e w44 ⟨A27, c27, rfl, own44, b44⟩
    have hv44 : Below w.heap.size w w44 := hv43.trans (b44.mono hv43.size)
    try have r8 := (r8.below b44).more b44.size
    try have r13 := (r13.below b44).more b44.size
    try have r22 := (r22.below b44).more b44.size
    try have r43 := (r43.below b44).more b44.size
    try have r47 := (r47.below b44).more b44.size
    try have r51 := (r51.below b44).more b44.size
    try have r55 := (r55.below b44).more b44.size
    try have r58 := (r58.below b44).more b44.size
    have r27 := Rd.of_own own44
    clear own44 b44
    refine hK.out _ _ (hv44) (fun hHeld => ?_)
    clear hK K
    try simp only [PT]
    refine rdyH [22] ?_
    refine AllReadyH.cons (o := oZ22) rfl (fun K hK => ?_) AllReadyH.nil
    unfold oZ22
    go_simp
    obtain ⟨w45, hw45⟩ : ∃ x, w44.alloc (.cells #[.slice A8 (Wire.enc (N : Int)).length c8, .slice A13 (Wire.enc (P : Int)).length c13, .slice (some ⟨bl, 4, none⟩) 16 16, .slice A22 (Wire.encI l.pending).length c22, .slice A27 (Wire.encI l.paid).length c27] 58) = x := ⟨_, rfl⟩
    have HCT := Lib.hid (catN [⟨A8, (Wire.enc (N : Int)).length, c8, Wire.enc (N : Int)⟩, ⟨A13, (Wire.enc (P : Int)).length, c13, Wire.enc (P : Int)⟩, ⟨some ⟨bl, 4, none⟩, 16, 16, l.head⟩, ⟨A22, (Wire.encI l.pending).length, c22, Wire.encI l.pending⟩, ⟨A27, (Wire.encI l.paid).length, c27, Wire.encI l.paid⟩] 5 rfl (by decide) w44 w45 hw45 (fun y hy => by
      simp only [List.mem_cons, List.not_mem_nil, or_false] at hy
      rcases hy with rfl | rfl | rfl | rfl | rfl
      · exact ⟨rfl, r8⟩
      · exact ⟨rfl, r13⟩
      · exact ⟨HH.out.h16, (HRN.out.below (hv44.mono (Nat.succ_le_of_lt HBL.out))).more (Nat.le_trans (Nat.succ_le_of_lt HBL.out) hv44.size)⟩
      · exact ⟨rfl, r22⟩
      · exact ⟨rfl, r27⟩) (by have := HE0.out; rw [← HEQ.out.1, ← HEQ.out.2.1]; simp only [catL, List.flatMap_cons, List.flatMap_nil, List.append_nil]; exact Nat.le_trans this (by decide)))
    rw [hw45]
    have b45 : Below w44.heap.size w44 w45 := by rw [← hw45]; exact (Below.refl _ _).alloc (Nat.le_refl _) _
    have hv45 : Below w.heap.size w w45 := hv44.trans (b45.mono hv44.size)
    have HVP := Lib.hid hv44
    clear hw45 b45 r8 r13 r22 r27
    refine hK.out _ _ (hv45) (fun hHeld => ?_)
    clear hK K
    try simp only [PT]
    refine rdyH [23] ?_
    refine AllReadyH.cons (o := oZ23) rfl (fun K hK => ?_) AllReadyH.nil
    unfold oZ23
    go_simp
    refine HCT.out.mono ?_
    rintro e w46 ⟨A29, n29, c29, rfl, hn29, r29, b46⟩
    have HNX := Lib.hid hn29
    clear hn29
    have hv46 : Below w.heap.size w w46 := HVP.out.trans (b46.mono HVP.out.size)
    clear b46
    refine hK.out _ _ (hv46) (fun hHeld => ?_)
    clear hK K
    try simp only [PT]
    refine tkH 24 oZ24 ?v24_118 (.inl ⟨by rfl, ?h24_118⟩) ?r24_118
    case h24_118 =>
      intro W hSW
      unfold oZ24
      try dsimp only at hSW
      go_simp
      try with_reducible rfl
    try simp only [oZ24, PT]
    refine wpAnyH_done (by kernel_rfl) ?_ _
    have hcat : catL [⟨A8, (Wire.enc (N : Int)).length, c8, Wire.enc (N : Int)⟩, ⟨A13, (Wire.enc (P : Int)).length, c13, Wire.enc (P : Int)⟩, ⟨some ⟨bl, 4, none⟩, 16, 16, l.head⟩, ⟨A22, (Wire.encI l.pending).length, c22, Wire.encI l.pending⟩, ⟨A27, (Wire.encI l.paid).length, c27, Wire.encI l.paid⟩] = Bil.encH l := by rw [← HEQ.out.1, ← HEQ.out.2.1]; simp [catL, Bil.encH]
    have HN29 : Hid (n29 = (Bil.encH l).length) := Lib.hid (by rw [HNX.out, hcat])
    rw [hcat] at r29
    have HR29 := Lib.hid r29
    have HB29 := Lib.hid hv46
    clear hcat r29 HNX
    go_wp2_with fail
    go_meet
    exact ⟨A29, n29, c29, rfl, HN29, HR29, HB29⟩
  case rest =>
    obtain ⟨A3, n3, c3, rfl, HN3, HR3, HB1⟩ := hcut
    obtain ⟨w1, hw1⟩ : ∃ x, wc = x := ⟨_, rfl⟩
    try rw [hw1] at HR3 HB1 ⊢
    clear hw1
    have c1 : w1.cell? ⟨bl, 1, none⟩ = some (.slice m.A Lk m.c) := (HB1.out.cell (p := ⟨bl, 1, none⟩) HBL.out).trans HC.out.2.1
    go_wp2_with fail
    go_loopw [3, 35] (fun u3 u35 wr => ∃ (k : Nat) (A3 : Option Addr) (n3 c3 : Nat), k ≤ Lk ∧ u35 = .int .i64 k ∧ u3 = .slice A3 n3 c3 ∧ Hid (n3 = (Bil.encH l ++ (l.kept.take k).flatMap Bil.encA).length) ∧ Hid (Rd wr wr.heap.size 1 A3 n3 (bvs (Bil.encH l ++ (l.kept.take k).flatMap Bil.encA))) ∧ Hid (Below w.heap.size w wr)) (fun _ u35 _ => Lk - (intOf u35).toNat)
    case atStart => exact ⟨0, A3, n3, c3, Nat.zero_le _, rfl, rfl, by simpa using HN3, by simpa using HR3, HB1⟩
    case round =>
      clear c1
      obtain ⟨k, A3', n3', c3', hk, rfl, rfl, HN4, HR4, HB4⟩ := hrel
      by_cases hlt : k < Lk
      · have hkm : k < m.ks.length := by rw [HEQ.out.2.2]; exact hlt
        have hlat := HH.out.below HB4.out
        obtain ⟨g, off, hA, _, hform⟩ := hlat.krow.form (by omega)
        have hcells := hform k hkm
        have hkat := hlat.kat _ (List.getElem_mem hkm)
        rw [hA]
        have hkl : k < l.kept.length := by rw [HH.out.klen]; exact hkm
        have hke : l.kept[k] = (m.ks[k]'hkm).a := by
          have := HH.out.acc hkm
          unfold Bil.accAt at this
          simpa [List.getD, hkl] using this
        have htk : (l.kept.take (k + 1)).flatMap Bil.encA = (l.kept.take k).flatMap Bil.encA ++ Bil.encA (m.ks[k]'hkm).a := by
          rw [List.take_succ_eq_append_getElem hkl, List.flatMap_append, hke]; simp
        have hae := HKE.out _ (List.getElem_mem hkl)
        rw [hke] at hae
        obtain ⟨ka, hka⟩ : ∃ x, m.ks[k]'hkm = x := ⟨_, rfl⟩
        rw [hka] at hcells hkat htk hae
        have hrg : wr.rangeAt g (off + k * 7) (ka.cells l.n) := fun j v hv => hcells j v hv
        rw [HEQ.out.1] at hrg
        have i0 : (0 : Int) ≤ (k : Int) := by omega
        have i1 : (k : Int) < (Lk : Int) := by omega
        have HK := Lib.hid (fun (W : World) (hW : Below wr.heap.size wr W) => (show KAt W col N ka from by have := hkat; rw [HEQ.out.1] at this; exact ⟨this.c.below hW, this.r.below hW, this.t.below hW, this.g.below hW, this.lc, this.lr, this.lt, this.lg, this.qc, this.qr, this.qt, this.qg⟩))
        have HTK := Lib.hid htk
        have HAE := Lib.hid hae
        have hlen : (l.kept.take k).flatMap Bil.encA = (l.kept.take k).flatMap Bil.encA := rfl
        have HLN : Hid ((Bil.encH l ++ (l.kept.take k).flatMap Bil.encA).length ≤ 100000) := Lib.hid (by
          have hb : ∀ ks : List KA, (∀ x ∈ ks, KAt wr col l.n x) → ((ks.map KA.a).flatMap Bil.encA).length ≤ ks.length * 477 := by
            intro ks
            induction ks with
            | nil => intro _; simp
            | cons x xs ih =>
              intro hx
              have h1 := ih (fun y hy => hx y (List.mem_cons_of_mem _ hy))
              have h2 := hx x List.mem_cons_self
              have h3 := encA_le x.a l.n h2.lc h2.lr h2.lg
              have := HH.out.n2
              simp only [List.map_cons, List.flatMap_cons, List.length_append, List.length_cons]
              omega
          have h1 := hb (m.ks.take k) (fun x hx => hlat.kat x (List.mem_of_mem_take hx))
          rw [List.map_take, ← HH.out.kept] at h1
          have h2 : (m.ks.take k).length ≤ 16 := by rw [List.length_take]; omega
          have h3 := HE0.out
          rw [List.length_append]
          omega)
        have hn1 : N ≤ 16 := by rw [← HEQ.out.1]; exact HH.out.n2
        have HLA : Hid ((Bil.encA ka.a).length ≤ 1000) := Lib.hid (by have h2 := HK.out wr (Below.refl _ _); have := encA_le ka.a N h2.lc h2.lr h2.lg; omega)
        have HN16 := Lib.hid hn1
        clear hlat hform hcells hkat hkl hke htk hae hka hlen hA hkm hn1
        go_upto_region 5 with (first
          | (refine wpList_load_mid rfl _ (.tmp 37) rfl g (off + k * 7) rfl (ka.cells N) _ hrg Tryd.underlying79 rfl (by kernel_rfl) ?_)
          | (refine wpList_allocRow rfl _ rfl _ infoA ?_; intro w5 r5 b5 z5)
          | (refine wpList_storeRow rfl _ (.tmp 5) (.tmp 38) rfl (l' := ka.cells N) r5 rfl rfl (by kernel_rfl) rfl rfl ?_; intro w6 r6 g6 z6))
        have hz5 : w5.heap.size = wr.heap.size + 1 := z5
        have hq6 := r6
        have HQ6 := Lib.hid hq6
        have H6 : Hid (wr.heap.size < w6.heap.size) := Lib.hid r6.lt
        have HB6 : Hid (Below wr.heap.size wr w6) := Lib.hid (b5.grown g6 b5.size (by intro j hj; have hj := Option.some.inj hj; omega))
        clear hz5 hq6 r5 r6 z5 z6 b5 g6 hrg
        go_wp2_with fail
        have hv0 : Below w6.heap.size w6 w6.drew := (Below.refl _ _).drew
        refine wp_region_held_drew (S := fun W => Below w6.heap.size w6 W) (by kernel_rfl) (hv0) (fun hHeld => ?_)
        obtain ⟨wd, hwd⟩ : ∃ x, w6.drew = x := ⟨_, rfl⟩
        rw [hwd] at hv0 hHeld ⊢
        clear hwd
        refine tkH 0 oZ25 ?v0_501 (.inl ⟨by rfl, ?h0_501⟩) ?r0_501
        case h0_501 =>
          intro W hSW
          unfold oZ25
          try dsimp only at hSW
          go_simp
          try with_reducible rfl
        try simp only [oZ25, PT]
        refine tkH 1 oZ26 ?v1_502 (.inl ⟨by rfl, ?h1_502⟩) ?r1_502
        case h1_502 =>
          intro W hSW
          unfold oZ26
          try dsimp only at hSW
          go_simp
          try with_reducible rfl
        try simp only [oZ26, PT]
        refine tkH 2 oZ27 ?v2_503 (.inl ⟨by rfl, ?h2_503⟩) ?r2_503
        case h2_503 =>
          intro W hSW
          unfold oZ27
          try dsimp only at hSW
          go_simp
          try with_reducible rfl
        try simp only [oZ27, PT]
        refine tkH 3 oZ28 ?v3_504 (.inl ⟨by rfl, ?h3_504⟩) ?r3_504
        case h3_504 =>
          intro W hSW
          unfold oZ28
          try dsimp only at hSW
          have hcc : W.cell? ⟨wr.heap.size, 1, none⟩ = some (.int .i64 ka.a.bill.media) := (hSW.cell (p := ⟨wr.heap.size, 1, none⟩) H6.out).trans (HQ6.out.cell 1)
          go_simp
          try with_reducible rfl
        try simp only [oZ28, PT]
        refine tkH 5 oZ29 ?v5_505 (.inl ⟨by rfl, ?h5_505⟩) ?r5_505
        case h5_505 =>
          intro W hSW
          unfold oZ29
          try dsimp only at hSW
          go_simp
          try with_reducible rfl
        try simp only [oZ29, PT]
        refine tkH 6 oZ30 ?v6_506 (.inl ⟨by rfl, ?h6_506⟩) ?r6_506
        case h6_506 =>
          intro W hSW
          unfold oZ30
          try dsimp only at hSW
          go_simp
          try with_reducible rfl
        try simp only [oZ30, PT]
        refine tkH 7 oZ31 ?v7_507 (.inl ⟨by rfl, ?h7_507⟩) ?r7_507
        case h7_507 =>
          intro W hSW
          unfold oZ31
          try dsimp only at hSW
          have hcc : W.cell? ⟨wr.heap.size, 2, none⟩ = some (.int .i64 ka.a.bill.house) := (hSW.cell (p := ⟨wr.heap.size, 2, none⟩) H6.out).trans (HQ6.out.cell 2)
          go_simp
          try with_reducible rfl
        try simp only [oZ31, PT]
        refine tkH 9 oZ32 ?v9_508 (.inl ⟨by rfl, ?h9_508⟩) ?r9_508
        case h9_508 =>
          intro W hSW
          unfold oZ32
          try dsimp only at hSW
          go_simp
          try with_reducible rfl
        try simp only [oZ32, PT]
        refine tkH 10 oZ33 ?v10_509 (.inl ⟨by rfl, ?h10_509⟩) ?r10_509
        case h10_509 =>
          intro W hSW
          unfold oZ33
          try dsimp only at hSW
          go_simp
          try with_reducible rfl
        try simp only [oZ33, PT]
        refine tkH 11 oZ34 ?v11_510 (.inl ⟨by rfl, ?h11_510⟩) ?r11_510
        case h11_510 =>
          intro W hSW
          unfold oZ34
          try dsimp only at hSW
          have hcc : W.cell? ⟨wr.heap.size, 3, none⟩ = some (.slice (some ⟨ka.bc, 0, none⟩) N ka.cc) := (hSW.cell (p := ⟨wr.heap.size, 3, none⟩) H6.out).trans (HQ6.out.cell 3)
          go_simp
          try with_reducible rfl
        try simp only [oZ34, PT]
        refine tkH 13 oZ35 ?v13_511 (.inl ⟨by rfl, ?h13_511⟩) ?r13_511
        case h13_511 =>
          intro W hSW
          unfold oZ35
          try dsimp only at hSW
          go_simp
          try with_reducible rfl
        try simp only [oZ35, PT]
        refine tkH 14 oZ36 ?v14_512 (.inl ⟨by rfl, ?h14_512⟩) ?r14_512
        case h14_512 =>
          intro W hSW
          unfold oZ36
          try dsimp only at hSW
          go_simp
          try with_reducible rfl
        try simp only [oZ36, PT]
        refine tkH 15 oZ37 ?v15_513 (.inl ⟨by rfl, ?h15_513⟩) ?r15_513
        case h15_513 =>
          intro W hSW
          unfold oZ37
          try dsimp only at hSW
          have hcc : W.cell? ⟨wr.heap.size, 4, none⟩ = some (.slice (some ⟨ka.br, 0, none⟩) N ka.cr) := (hSW.cell (p := ⟨wr.heap.size, 4, none⟩) H6.out).trans (HQ6.out.cell 4)
          go_simp
          try with_reducible rfl
        try simp only [oZ37, PT]
        refine tkH 17 oZ38 ?v17_514 (.inl ⟨by rfl, ?h17_514⟩) ?r17_514
        case h17_514 =>
          intro W hSW
          unfold oZ38
          try dsimp only at hSW
          go_simp
          try with_reducible rfl
        try simp only [oZ38, PT]
        refine tkH 18 oZ39 ?v18_515 (.inl ⟨by rfl, ?h18_515⟩) ?r18_515
        case h18_515 =>
          intro W hSW
          unfold oZ39
          try dsimp only at hSW
          have hcc : W.cell? ⟨wr.heap.size, 6, none⟩ = some (.slice (some ⟨ka.bg, 0, none⟩) N ka.cg) := (hSW.cell (p := ⟨wr.heap.size, 6, none⟩) H6.out).trans (HQ6.out.cell 6)
          go_simp
          try with_reducible rfl
        try simp only [oZ39, PT]
        refine rdyH [4] ?_
        refine AllReadyH.cons (o := oZ40) rfl (fun K hK => ?_) AllReadyH.nil
        unfold oZ40
        go_simp
        refine (wireInt_any ka.a.bill.media HAE.out.md.1 HAE.out.md.2 _).mono ?_
        rintro e w60 ⟨A43, c43, rfl, own60, b60⟩
        have hv60 : Below w6.heap.size w6 w60 := hv0.trans (b60.mono hv0.size)
        try have r8 := (r8.below b60).more b60.size
        try have r13 := (r13.below b60).more b60.size
        try have r22 := (r22.below b60).more b60.size
        try have r27 := (r27.below b60).more b60.size
        try have r47 := (r47.below b60).more b60.size
        try have r51 := (r51.below b60).more b60.size
        try have r55 := (r55.below b60).more b60.size
        try have r58 := (r58.below b60).more b60.size
        have r43 := Rd.of_own own60
        clear own60 b60
        refine hK.out _ _ (hv60) (fun hHeld => ?_)
        clear hK K
        try simp only [PT]
        refine rdyH [8] ?_
        refine AllReadyH.cons (o := oZ41) rfl (fun K hK => ?_) AllReadyH.nil
        unfold oZ41
        go_simp
        refine (wireInt_any ka.a.bill.house HAE.out.hs.1 HAE.out.hs.2 _).mono ?_
        rintro e w61 ⟨A47, c47, rfl, own61, b61⟩
        have hv61 : Below w6.heap.size w6 w61 := hv60.trans (b61.mono hv60.size)
        try have r8 := (r8.below b61).more b61.size
        try have r13 := (r13.below b61).more b61.size
        try have r22 := (r22.below b61).more b61.size
        try have r27 := (r27.below b61).more b61.size
        try have r43 := (r43.below b61).more b61.size
        try have r51 := (r51.below b61).more b61.size
        try have r55 := (r55.below b61).more b61.size
        try have r58 := (r58.below b61).more b61.size
        have r47 := Rd.of_own own61
        clear own61 b61
        refine hK.out _ _ (hv61) (fun hHeld => ?_)
        clear hK K
        try simp only [PT]
        refine rdyH [12] ?_
        refine AllReadyH.cons (o := oZ42) rfl (fun K hK => ?_) AllReadyH.nil
        unfold oZ42
        go_simp
        refine (ints_at (c := ka.cc) (HK.out _ (HB6.out.trans (hv61.mono HB6.out.size))).c (HK.out _ (HB6.out.trans (hv61.mono HB6.out.size))).lc (Nat.le_trans HN16.out (by decide)) HAE.out.c).mono ?_
        rintro e w62 ⟨A51, c51, rfl, own62, b62⟩
        have hv62 : Below w6.heap.size w6 w62 := hv61.trans (b62.mono hv61.size)
        try have r8 := (r8.below b62).more b62.size
        try have r13 := (r13.below b62).more b62.size
        try have r22 := (r22.below b62).more b62.size
        try have r27 := (r27.below b62).more b62.size
        try have r43 := (r43.below b62).more b62.size
        try have r47 := (r47.below b62).more b62.size
        try have r55 := (r55.below b62).more b62.size
        try have r58 := (r58.below b62).more b62.size
        have r51 := Rd.of_own own62
        clear own62 b62
        refine hK.out _ _ (hv62) (fun hHeld => ?_)
        clear hK K
        try simp only [PT]
        refine rdyH [16] ?_
        refine AllReadyH.cons (o := oZ43) rfl (fun K hK => ?_) AllReadyH.nil
        unfold oZ43
        go_simp
        refine (ints_at (c := ka.cr) (HK.out _ (HB6.out.trans (hv62.mono HB6.out.size))).r (HK.out _ (HB6.out.trans (hv62.mono HB6.out.size))).lr (Nat.le_trans HN16.out (by decide)) HAE.out.r).mono ?_
        rintro e w63 ⟨A55, c55, rfl, own63, b63⟩
        have hv63 : Below w6.heap.size w6 w63 := hv62.trans (b63.mono hv62.size)
        try have r8 := (r8.below b63).more b63.size
        try have r13 := (r13.below b63).more b63.size
        try have r22 := (r22.below b63).more b63.size
        try have r27 := (r27.below b63).more b63.size
        try have r43 := (r43.below b63).more b63.size
        try have r47 := (r47.below b63).more b63.size
        try have r51 := (r51.below b63).more b63.size
        try have r58 := (r58.below b63).more b63.size
        have r55 := Rd.of_own own63
        clear own63 b63
        refine hK.out _ _ (hv63) (fun hHeld => ?_)
        clear hK K
        try simp only [PT]
        refine rdyH [19] ?_
        refine AllReadyH.cons (o := oZ44) rfl (fun K hK => ?_) AllReadyH.nil
        unfold oZ44
        go_simp
        refine (ints_at (c := ka.cg) (HK.out _ (HB6.out.trans (hv63.mono HB6.out.size))).g (HK.out _ (HB6.out.trans (hv63.mono HB6.out.size))).lg (Nat.le_trans HN16.out (by decide)) HAE.out.g).mono ?_
        rintro e w64 ⟨A58, c58, rfl, own64, b64⟩
        have hv64 : Below w6.heap.size w6 w64 := hv63.trans (b64.mono hv63.size)
        try have r8 := (r8.below b64).more b64.size
        try have r13 := (r13.below b64).more b64.size
        try have r22 := (r22.below b64).more b64.size
        try have r27 := (r27.below b64).more b64.size
        try have r43 := (r43.below b64).more b64.size
        try have r47 := (r47.below b64).more b64.size
        try have r51 := (r51.below b64).more b64.size
        try have r55 := (r55.below b64).more b64.size
        have r58 := Rd.of_own own64
        clear own64 b64
        refine hK.out _ _ (hv64) (fun hHeld => ?_)
        clear hK K
        try simp only [PT]
        refine rdyH [20] ?_
        refine AllReadyH.cons (o := oZ45) rfl (fun K hK => ?_) AllReadyH.nil
        unfold oZ45
        go_simp
        obtain ⟨w65, hw65⟩ : ∃ x, w64.alloc (.cells #[.slice A3' n3' c3', .slice A43 (Wire.enc ka.a.bill.media).length c43, .slice A47 (Wire.enc ka.a.bill.house).length c47, .slice A51 (Wire.encI ka.a.bill.charges).length c51, .slice A55 (Wire.encI ka.a.bill.credits).length c55, .slice A58 (Wire.encI ka.a.granted).length c58] 58) = x := ⟨_, rfl⟩
        have HCT := Lib.hid (catN [⟨A3', n3', c3', Bil.encH l ++ (l.kept.take k).flatMap Bil.encA⟩, ⟨A43, (Wire.enc ka.a.bill.media).length, c43, Wire.enc ka.a.bill.media⟩, ⟨A47, (Wire.enc ka.a.bill.house).length, c47, Wire.enc ka.a.bill.house⟩, ⟨A51, (Wire.encI ka.a.bill.charges).length, c51, Wire.encI ka.a.bill.charges⟩, ⟨A55, (Wire.encI ka.a.bill.credits).length, c55, Wire.encI ka.a.bill.credits⟩, ⟨A58, (Wire.encI ka.a.granted).length, c58, Wire.encI ka.a.granted⟩] 6 rfl (by decide) w64 w65 hw65 (fun y hy => by
          simp only [List.mem_cons, List.not_mem_nil, or_false] at hy
          rcases hy with rfl | rfl | rfl | rfl | rfl | rfl
          · exact ⟨HN4.out.symm, (HR4.out.below (HB6.out.trans (hv64.mono HB6.out.size))).more (Nat.le_trans HB6.out.size hv64.size)⟩
          · exact ⟨rfl, r43⟩
          · exact ⟨rfl, r47⟩
          · exact ⟨rfl, r51⟩
          · exact ⟨rfl, r55⟩
          · exact ⟨rfl, r58⟩) (by have h1 := HLN.out; have h2 := HLA.out; unfold Bil.encA at h2; simp only [List.length_append] at h1 h2; simp only [catL, List.flatMap_cons, List.flatMap_nil, List.append_nil, List.length_append]; omega))
        rw [hw65]
        have b65 : Below w64.heap.size w64 w65 := by rw [← hw65]; exact (Below.refl _ _).alloc (Nat.le_refl _) _
        have hv65 : Below w6.heap.size w6 w65 := hv64.trans (b65.mono hv64.size)
        have HVP := Lib.hid hv64
        clear hw65 b65 r43 r47 r51 r55 r58
        refine hK.out _ _ (hv65) (fun hHeld => ?_)
        clear hK K
        try simp only [PT]
        refine rdyH [21] ?_
        refine AllReadyH.cons (o := oZ46) rfl (fun K hK => ?_) AllReadyH.nil
        unfold oZ46
        go_simp
        refine HCT.out.mono ?_
        rintro e w66 ⟨A60, n60, c60, rfl, hn60, r60, b66⟩
        have HNX := Lib.hid hn60
        clear hn60
        have hv66 : Below w6.heap.size w6 w66 := HVP.out.trans (b66.mono HVP.out.size)
        clear b66
        refine hK.out _ _ (hv66) (fun hHeld => ?_)
        clear hK K
        try simp only [PT]
        refine tkH 22 oZ47 ?v22_516 (.inl ⟨by rfl, ?h22_516⟩) ?r22_516
        case h22_516 =>
          intro W hSW
          unfold oZ47
          try dsimp only at hSW
          go_simp
          try with_reducible rfl
        try simp only [oZ47, PT]
        refine wpAnyH_done (by kernel_rfl) ?_ _
        have hcat : catL [⟨A3', n3', c3', Bil.encH l ++ (l.kept.take k).flatMap Bil.encA⟩, ⟨A43, (Wire.enc ka.a.bill.media).length, c43, Wire.enc ka.a.bill.media⟩, ⟨A47, (Wire.enc ka.a.bill.house).length, c47, Wire.enc ka.a.bill.house⟩, ⟨A51, (Wire.encI ka.a.bill.charges).length, c51, Wire.encI ka.a.bill.charges⟩, ⟨A55, (Wire.encI ka.a.bill.credits).length, c55, Wire.encI ka.a.bill.credits⟩, ⟨A58, (Wire.encI ka.a.granted).length, c58, Wire.encI ka.a.granted⟩] = Bil.encH l ++ (l.kept.take (k + 1)).flatMap Bil.encA := by rw [HTK.out]; simp [catL, Bil.encA]
        have HN60 : Hid (n60 = (Bil.encH l ++ (l.kept.take (k + 1)).flatMap Bil.encA).length) := Lib.hid (by rw [HNX.out, hcat])
        rw [hcat] at r60
        have HR60 := Lib.hid r60
        have HB60 := Lib.hid (HB4.out.trans ((HB6.out.trans (hv66.mono HB6.out.size)).mono HB4.out.size))
        clear hcat r60 HNX
        go_wp2_with fail
        go_roundw
        case rel => exact ⟨k + 1, A60, n60, c60, by omega, by go_num, rfl, HN60, HR60, HB60⟩
        case measure => simp [intOf]; omega
      · obtain rfl : k = Lk := by omega
        have e : l.kept.take k = l.kept := List.take_of_length_le (by rw [HH.out.klen, HEQ.out.2.2]; exact Nat.le_refl _)
        rw [e] at HN4 HR4
        go_wp2_with fail
        go_ret
        exact ⟨A3', n3', c3', rfl, HN4.out, HR4.out, HB4.out⟩
end Go.Proofs.YtkjomnakolhdcaaDoor
