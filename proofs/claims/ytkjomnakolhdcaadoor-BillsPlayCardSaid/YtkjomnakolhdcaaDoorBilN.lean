/- Layer 35's ledgers in memory; walks of Tenants, Periods, at, Pending, Paid, Head, account. Conditions: the ledger has 1 to 16 tenants and at most 65536 periods. -/
import Derived.Test.YtkjomnakolhdcaaDoorBilM
import Derived.Deep.QuietTactic
import Derived.BigQuiet
import Derived.RegionTactic
import Derived.Outline
namespace Go.Proofs.YtkjomnakolhdcaaDoor
set_option linter.unusedVariables false
set_option linter.unusedSimpArgs false
open Go.RowKit
/-- an account of n tenants in memory: its blocks are coloured 5 (what never turns) and 6 and more (what is granted) -/
structure KAt (w : World) (col : Nat → Nat) (n : Nat) (k : KA) : Prop where
  c : FRow w k.bc n (fun t => k.a.bill.charges.getD t 0)
  r : FRow w k.br n (fun t => k.a.bill.credits.getD t 0)
  t : FRow w k.bt n (fun t => k.a.bill.nets.getD t 0)
  g : FRow w k.bg n (fun t => k.a.granted.getD t 0)
  lc : k.a.bill.charges.length = n
  lr : k.a.bill.credits.length = n
  lt : k.a.bill.nets.length = n
  lg : k.a.granted.length = n
  qc : col k.bc = 5
  qr : col k.br = 5
  qt : col k.bt = 5
  qg : col k.bg = 6 + k.a.bill.period.toNat
/-- where a ledger's rows lie -/
structure LM where
  A : Option Addr
  c : Nat
  ks : List KA
  bp : Nat
  cp : Nat
  bq : Nat
  cq : Nat
def LM.cells (m : LM) (l : Bil.Lg) : List Value := .int .i64 (l.periods : Int) :: .slice m.A m.ks.length m.c :: .slice (some ⟨m.bp, 0, none⟩) l.n m.cp :: .slice (some ⟨m.bq, 0, none⟩) l.n m.cq :: bvs l.head
/-- block bl is a ledger that reads as l; the blocks that it uses are those with a colour that is not 0, mutable ones with colours of their own -/
structure LAt (w : World) (bl : Nat) (col : Nat → Nat) (m : LM) (l : Bil.Lg) : Prop where
  row : IsRow w bl 71 (m.cells l)
  h16 : l.head.length = 16
  n1 : 1 ≤ l.n
  n2 : l.n ≤ 16
  per : l.periods ≤ 65536
  len : m.ks.length ≤ 16
  pend : FRow w m.bp l.n (fun t => l.pending.getD t 0)
  paid : FRow w m.bq l.n (fun t => l.paid.getD t 0)
  lp : l.pending.length = l.n
  lq : l.paid.length = l.n
  kept : l.kept = m.ks.map KA.a
  krow : KRow w l.n m.A m.c m.ks
  kat : ∀ k ∈ m.ks, KAt w col l.n k
  cbl : col bl = 1
  cbp : col m.bp = 2
  cbq : col m.bq = 3
  cka : ∀ a, m.A = some a → col a.block = 4
  lt : ∀ k, col k ≠ 0 → k < w.heap.size
  tab : col 2 = 0 ∧ col 0 = 0 ∧ col 1 = 0
section
variable {w w' : World} {S : Nat → Prop} {col : Nat → Nat} {n bl : Nat} {k : KA} {m : LM} {l : Bil.Lg}
theorem KAt.keeps (h : KAt w col n k) (hk : Keep S w w') (hs : ∀ b, S b → col b = 0) : KAt w' col n k := by
  have f : ∀ b q, col b = q → q ≠ 0 → ¬ S b := fun b q hq h0 hS => h0 (hq ▸ hs b hS)
  exact ⟨h.c.keeps hk (f _ _ h.qc (by omega)), h.r.keeps hk (f _ _ h.qr (by omega)), h.t.keeps hk (f _ _ h.qt (by omega)), h.g.keeps hk (f _ _ h.qg (by omega)), h.lc, h.lr, h.lt, h.lg, h.qc, h.qr, h.qt, h.qg⟩
theorem LAt.keeps (h : LAt w bl col m l) (hk : Keep S w w') (hs : ∀ b, S b → col b = 0) : LAt w' bl col m l := by
  have f : ∀ b q, col b = q → q ≠ 0 → ¬ S b := fun b q hq h0 hS => h0 (hq ▸ hs b hS)
  exact ⟨h.row.keep (hk.block bl h.row.lt (f _ _ h.cbl (by omega))), h.h16, h.n1, h.n2, h.per, h.len, h.pend.keeps hk (f _ _ h.cbp (by omega)), h.paid.keeps hk (f _ _ h.cbq (by omega)), h.lp, h.lq, h.kept,
    h.krow.keep fun a ha => hk.block a.block (h.krow.lt ha) (f _ _ (h.cka a ha) (by omega)), fun k hk' => (h.kat k hk').keeps hk hs, h.cbl, h.cbp, h.cbq, h.cka, fun k hc => Nat.lt_of_lt_of_le (h.lt k hc) hk.size, h.tab⟩
theorem LAt.below (h : LAt w bl col m l) (hb : Below w.heap.size w w') : LAt w' bl col m l := h.keeps (S := fun _ => False) (Keep.of_below hb) (fun _ h => h.elim)
theorem LAt.klen (h : LAt w bl col m l) : l.kept.length = m.ks.length := by rw [h.kept, List.length_map]
end
/-- a frame that leaves the tables alone -/
theorem Tabs.keeps {w w' : World} {S : Nat → Prop} (h : Tabs w) (hk : Keep S w w') (h1 : ¬ S 2) (h2 : ¬ S 0) : Tabs w' := ⟨h.k.keep (hk.block _ h.k.lt h1), h.s.keep (hk.block _ h.s.lt h2)⟩
theorem RTab.keeps {w w' : World} {S : Nat → Prop} (h : RTab w) (hk : Keep S w w') (h1 : ¬ S 1) : RTab w' := ⟨h.r.keep (hk.block _ h.r.lt h1)⟩
/-- the reference's table is a block of the program's own (its row is not asked) -/
structure RGl (w : World) : Prop where
  lt : 1 < w.heap.size
structure RG (w : World) : Prop where
  r : RGl w
theorem RG.below {w w' : World} {B : Nat} (h : RG w) (hb : Below B w w') : RG w' := ⟨⟨Nat.lt_of_lt_of_le h.r.lt hb.size⟩⟩
theorem RG.of {w : World} (h : Tabs w) : RG w := ⟨⟨by have := h.k.lt; omega⟩⟩
/-- an element of a list of tenants, or 0 -/
def Bil.atOf (l : List Int) (t : Int) : Int := if t < 0 ∨ (l.length : Int) ≤ t then 0 else l.getD t.toNat 0
set_option maxHeartbeats 800000 in
theorem tenants_any (bl : Nat) (col : Nat → Nat) (m : LM) (l : Bil.Lg) (w : World) (h : LAt w bl col m l) :
    Calls Tryd.prog 43 #[.pointer (some ⟨bl, 0, none⟩)] w fun e w' => e = .returned (.int .i64 l.n) ∧ w' = w := by
  have c2 : w.cell? ⟨bl, 2, none⟩ = some (.slice (some ⟨m.bp, 0, none⟩) l.n m.cp) := h.row.cell 2
  clear h
  go_enter Tryd.func43, Tryd.ntmps43
  go_wp2
  go_ret
  exact ⟨rfl, rfl⟩
set_option maxHeartbeats 800000 in
theorem periods_any (bl : Nat) (col : Nat → Nat) (m : LM) (l : Bil.Lg) (w : World) (h : LAt w bl col m l) :
    Calls Tryd.prog 14 #[.pointer (some ⟨bl, 0, none⟩)] w fun e w' => e = .returned (.int .i64 l.periods) ∧ w' = w := by
  have c0 : w.cell? ⟨bl, 0, none⟩ = some (.int .i64 l.periods) := h.row.cell 0
  clear h
  go_enter Tryd.func14, Tryd.ntmps14
  go_wp2
  go_ret
  exact ⟨rfl, rfl⟩
set_option maxHeartbeats 800000 in
theorem at_any (g n c : Nat) (l : List Int) (hl : l.length = n) (hn : n ≤ 16) (t : Int) (w : World) (h : FRow w g n (fun t => l.getD t 0)) :
    Calls Tryd.prog 33 #[.slice (some ⟨g, 0, none⟩) n c, .int .i64 t] w fun e w' => e = .returned (.int .i64 (Bil.atOf l t)) ∧ w' = w := by
  have HA : Hid (Bil.atOf l t = if t < 0 ∨ (n : Int) ≤ t then 0 else l.getD t.toNat 0) := Lib.hid (by unfold Bil.atOf; rw [hl])
  by_cases h1 : t < 0
  · rw [if_pos (.inl h1)] at HA
    clear h
    go_enter Tryd.func33, Tryd.ntmps33
    go_wp2
    go_ret
    exact ⟨ret_int HA.out.symm, rfl⟩
  · by_cases h2 : (n : Int) ≤ t
    · rw [if_pos (.inr h2)] at HA
      clear h
      go_enter Tryd.func33, Tryd.ntmps33
      go_wp2
      go_ret
      exact ⟨ret_int HA.out.symm, rfl⟩
    · obtain ⟨k, rfl⟩ : ∃ k : Nat, t = (k : Int) := ⟨t.toNat, by omega⟩
      rw [if_neg (by omega), Int.toNat_natCast] at HA
      have hk : k < n := by omega
      have c1 := h.cell k hk
      have i1 : (k : Int) < (n : Int) := by omega
      have i2 : ¬ ((n : Int) ≤ (k : Int)) := by omega
      obtain ⟨x, hx⟩ : ∃ x, l.getD k 0 = x := ⟨_, rfl⟩
      rw [hx] at HA c1
      clear h hx hl hk h2
      go_enter Tryd.func33, Tryd.ntmps33
      go_wp2
      go_ret
      exact ⟨ret_int HA.out.symm, rfl⟩
set_option maxHeartbeats 800000 in
theorem pending_any (bl : Nat) (col : Nat → Nat) (m : LM) (l : Bil.Lg) (w : World) (h : LAt w bl col m l) (t : Int) :
    Calls Tryd.prog 15 #[.pointer (some ⟨bl, 0, none⟩), .int .i64 t] w fun e w' => e = .returned (.int .i64 (Bil.atOf l.pending t)) ∧ w' = w := by
  have c2 : w.cell? ⟨bl, 2, none⟩ = some (.slice (some ⟨m.bp, 0, none⟩) l.n m.cp) := h.row.cell 2
  have HA := Lib.hid (at_any m.bp l.n m.cp l.pending h.lp h.n2 t w h.pend)
  clear h
  go_enter Tryd.func15, Tryd.ntmps15
  go_wp2_with (go_at_call 33; refine HA.out.mono ?_; rintro e w1 ⟨rfl, hw1⟩; rw [hw1]; clear hw1 w1)
  go_ret
  exact ⟨rfl, rfl⟩
set_option maxHeartbeats 800000 in
theorem paid_any (bl : Nat) (col : Nat → Nat) (m : LM) (l : Bil.Lg) (w : World) (h : LAt w bl col m l) (t : Int) :
    Calls Tryd.prog 13 #[.pointer (some ⟨bl, 0, none⟩), .int .i64 t] w fun e w' => e = .returned (.int .i64 (Bil.atOf l.paid t)) ∧ w' = w := by
  have c3 : w.cell? ⟨bl, 3, none⟩ = some (.slice (some ⟨m.bq, 0, none⟩) l.n m.cq) := h.row.cell 3
  have HA := Lib.hid (at_any m.bq l.n m.cq l.paid h.lq h.n2 t w h.paid)
  clear h
  go_enter Tryd.func13, Tryd.ntmps13
  go_wp2_with (go_at_call 33; refine HA.out.mono ?_; rintro e w1 ⟨rfl, hw1⟩; rw [hw1]; clear hw1 w1)
  go_ret
  exact ⟨rfl, rfl⟩
/-! account: the place of a kept period -/
set_option maxHeartbeats 1600000 in
theorem account_none (bl : Nat) (col : Nat → Nat) (m : LM) (l : Bil.Lg) (w : World) (h : LAt w bl col m l) (p : Int) (p1 : -9223372036854775808 ≤ p) (p2 : p ≤ 9223372036854775807) (hi : Bil.idx l p = none) :
    Calls Tryd.prog 70 #[.pointer (some ⟨bl, 0, none⟩), .int .i64 p] w fun e w' => e = .returned (.pointer none) ∧ Below w.heap.size w w' := by
  have c0 : w.cell? ⟨bl, 0, none⟩ = some (.int .i64 l.periods) := h.row.cell 0
  have c1 : w.cell? ⟨bl, 1, none⟩ = some (.slice m.A m.ks.length m.c) := h.row.cell 1
  have hper := h.per
  have hkl := h.klen
  have hl16 := h.len
  have hn : ¬ (0 ≤ p ∧ p < (l.periods : Int) ∧ 0 ≤ p - l.periods + m.ks.length) := by
    intro hc
    unfold Bil.idx at hi
    rw [hkl, if_pos hc] at hi
    cases hi
  generalize l.periods = P at *
  generalize hL : m.ks.length = L at *
  clear h hi hkl hL
  by_cases h1 : p < 0
  · obtain ⟨y, hy⟩ : ∃ y, IntKind.i64.wrap (IntKind.i64.wrap (p - (P : Int)) + (L : Int)) = y := ⟨_, rfl⟩
    clear p1 p2 hn hper hl16
    go_enter Tryd.func70, Tryd.ntmps70
    go_wp2_with fail
    go_quiet (fail)
    go_wp2
    go_ret
    exact ⟨rfl, below_of_drewN _ _ _⟩
  · by_cases h2 : (P : Int) ≤ p
    · obtain ⟨y, hy⟩ : ∃ y, p - (P : Int) = y := ⟨_, rfl⟩
      obtain ⟨z, hz⟩ : ∃ z, IntKind.i64.wrap (y + (L : Int)) = z := ⟨_, rfl⟩
      have w1 : IntKind.i64.wrap y = y := IntWalk.i64_in _ (by omega)
      clear p1 p2 hn hper hl16
      go_enter Tryd.func70, Tryd.ntmps70
      go_wp2_with fail
      go_quiet (fail)
      go_wp2
      go_ret
      exact ⟨rfl, below_of_drewN _ _ _⟩
    · obtain ⟨y, hy⟩ : ∃ y, p - (P : Int) = y := ⟨_, rfl⟩
      obtain ⟨z, hz⟩ : ∃ z, y + (L : Int) = z := ⟨_, rfl⟩
      have w1 : IntKind.i64.wrap y = y := IntWalk.i64_in _ (by omega)
      have w2 : IntKind.i64.wrap z = z := IntWalk.i64_in _ (by omega)
      have h3 : z < 0 := by omega
      clear p1 p2 hn hper hl16
      go_enter Tryd.func70, Tryd.ntmps70
      go_wp2_with fail
      go_quiet (fail)
      go_wp2
      go_ret
      exact ⟨rfl, below_of_drewN _ _ _⟩
set_option maxHeartbeats 1600000 in
theorem account_some (bl : Nat) (col : Nat → Nat) (m : LM) (l : Bil.Lg) (w : World) (h : LAt w bl col m l) (p : Int) (i g off : Nat) (hi : Bil.idx l p = some i) (hA : m.A = some ⟨g, off, none⟩) :
    Calls Tryd.prog 70 #[.pointer (some ⟨bl, 0, none⟩), .int .i64 p] w fun e w' => e = .returned (.pointer (some ⟨g, off + i * 7, none⟩)) ∧ Below w.heap.size w w' := by
  have c0 : w.cell? ⟨bl, 0, none⟩ = some (.int .i64 l.periods) := h.row.cell 0
  have c1 : w.cell? ⟨bl, 1, none⟩ = some (.slice m.A m.ks.length m.c) := h.row.cell 1
  have hper := h.per
  have hkl := h.klen
  have hl16 := h.len
  obtain ⟨i1, i2, i3, i4⟩ := Bil.idx_some hi
  rw [hkl] at i3 i4
  rw [hA] at c1
  generalize l.periods = P at *
  generalize hL : m.ks.length = L at *
  clear h hi hkl hL hA
  obtain ⟨y, hy⟩ : ∃ y, p - (P : Int) = y := ⟨_, rfl⟩
  have hz : y + (L : Int) = (i : Int) := by omega
  have w1 : IntKind.i64.wrap y = y := IntWalk.i64_in _ (by omega)
  have w2 : IntKind.i64.wrap (i : Int) = (i : Int) := IntWalk.i64_in _ (by omega)
  have n1 : ¬ p < 0 := by omega
  have n2 : ¬ ((P : Int) ≤ p) := by omega
  have n3 : ¬ ((i : Int) < 0) := by omega
  have n4 : (i : Int) < (L : Int) := by omega
  clear hper hl16 i1 i2 i3 i4
  go_enter Tryd.func70, Tryd.ntmps70
  go_wp2_with fail
  go_quiet (fail)
  go_wp2
  go_ret
  exact ⟨rfl, below_of_drewN _ _ _⟩
end Go.Proofs.YtkjomnakolhdcaaDoor
