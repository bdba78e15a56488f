/- Joined texts: BilR, BilR2, BilR3, BilR4, BilR5, BilR6. Conditions: as each part says. -/
import Derived.Test.YtkjomnakolhdcaaDoorBilM
import Derived.Test.YtkjomnakolhdcaaDoorBilQT
import Derived.Test.YtkjomnakolhdcaaDoorBilF
import Derived.Laws.Cover3
import Derived.Test.YtkjomnakolhdcaaDoorRefInt
namespace Go.Proofs.YtkjomnakolhdcaaDoor
set_option linter.unusedVariables false
set_option linter.unusedSimpArgs false
/-! The reference's ledgers of layer 35 in memory; what a store into one of their rows leaves. Conditions: 1 to 16 tenants. -/
section
open Go.RowKit
/-- a kept bill of the reference and its credits: where their lists lie -/
structure RA where
  a : Bil.Acc
  (bc cc br cr bt ct bg cg : Nat)
def RA.bill (n : Nat) (k : RA) : List Value := [.int .i64 k.a.bill.period, .int .i64 k.a.bill.media, .int .i64 k.a.bill.house, .slice (some ⟨k.bc, 0, none⟩) n k.cc, .slice (some ⟨k.br, 0, none⟩) n k.cr, .slice (some ⟨k.bt, 0, none⟩) n k.ct]
def RA.gr (n : Nat) (k : RA) : List Value := [.slice (some ⟨k.bg, 0, none⟩) n k.cg]
/-- its blocks are coloured 6 (what never turns; two ledgers may share it) and 7 and more (what is granted) -/
structure RKat (w : World) (col : Nat → Nat) (n : Nat) (k : RA) : Prop where
  c : FRow w k.bc n (fun t => k.a.bill.charges.getD t 0)
  r : FRow w k.br n (fun t => k.a.bill.credits.getD t 0)
  t : FRow w k.bt n (fun t => k.a.bill.nets.getD t 0)
  g : FRow w k.bg n (fun t => k.a.granted.getD t 0)
  lc : k.a.bill.charges.length = n
  lr : k.a.bill.credits.length = n
  lt : k.a.bill.nets.length = n
  lg : k.a.granted.length = n
  qc : col k.bc = 6
  qr : col k.br = 6
  qt : col k.bt = 6
  qg : col k.bg = 7 + k.a.bill.period.toNat
/-- where a ledger's rows lie -/
structure RM where
  A : Option Addr
  c : Nat
  G : Option Addr
  d : Nat
  ks : List RA
  bp : Nat
  cp : Nat
  bq : Nat
  cq : Nat
def RM.cells (m : RM) (l : Bil.Lg) : List Value := [.int .i64 (l.n : Int), .int .i64 (l.periods : Int)] ++ bvs l.head ++ [.slice (some ⟨m.bp, 0, none⟩) l.n m.cp, .slice (some ⟨m.bq, 0, none⟩) l.n m.cq, .slice m.A m.ks.length m.c, .slice m.G m.ks.length m.d]
structure RAt (w : World) (bl : Nat) (col : Nat → Nat) (m : RM) (l : Bil.Lg) : Prop where
  row : IsRow w bl 76 (m.cells l)
  h16 : l.head.length = 16
  n1 : 1 ≤ l.n
  n2 : l.n ≤ 16
  per : l.periods ≤ 65536
  len : m.ks.length ≤ 16
  pend : FRow w m.bp l.n (fun t => l.pending.getD t 0)
  paid : FRow w m.bq l.n (fun t => l.paid.getD t 0)
  lp : l.pending.length = l.n
  lq : l.paid.length = l.n
  kept : l.kept = m.ks.map RA.a
  krow : ORow w 31 6 m.A m.c (m.ks.map (RA.bill l.n))
  grow : ORow w 29 1 m.G m.d (m.ks.map (RA.gr l.n))
  kat : ∀ k ∈ m.ks, RKat w col l.n k
  cbl : col bl = 1
  cbp : col m.bp = 2
  cbq : col m.bq = 3
  cka : ∀ a, m.A = some a → col a.block = 4
  cga : ∀ a, m.G = some a → col a.block = 5
  lt : ∀ k, col k ≠ 0 → k < w.heap.size
  tab : col 2 = 0 ∧ col 0 = 0 ∧ col 1 = 0
section
variable {w w' : World} {S : Nat → Prop} {col : Nat → Nat} {n bl : Nat} {k : RA} {m : RM} {l : Bil.Lg}
theorem RKat.keeps (h : RKat w col n k) (hk : Keep S w w') (hs : ∀ b, S b → col b = 0) : RKat w' col n k := by
  have f : ∀ b q, col b = q → q ≠ 0 → ¬ S b := fun b q hq h0 hS => h0 (hq ▸ hs b hS)
  exact ⟨h.c.keeps hk (f _ _ h.qc (by omega)), h.r.keeps hk (f _ _ h.qr (by omega)), h.t.keeps hk (f _ _ h.qt (by omega)), h.g.keeps hk (f _ _ h.qg (by omega)), h.lc, h.lr, h.lt, h.lg, h.qc, h.qr, h.qt, h.qg⟩
theorem RAt.keeps (h : RAt w bl col m l) (hk : Keep S w w') (hs : ∀ b, S b → col b = 0) : RAt w' bl col m l := by
  have f : ∀ b q, col b = q → q ≠ 0 → ¬ S b := fun b q hq h0 hS => h0 (hq ▸ hs b hS)
  exact ⟨h.row.keep (hk.block bl h.row.lt (f _ _ h.cbl (by omega))), h.h16, h.n1, h.n2, h.per, h.len, h.pend.keeps hk (f _ _ h.cbp (by omega)), h.paid.keeps hk (f _ _ h.cbq (by omega)), h.lp, h.lq, h.kept,
    h.krow.keep fun a ha => hk.block a.block (h.krow.lt ha) (f _ _ (h.cka a ha) (by omega)), h.grow.keep fun a ha => hk.block a.block (h.grow.lt ha) (f _ _ (h.cga a ha) (by omega)), fun k hk' => (h.kat k hk').keeps hk hs, h.cbl, h.cbp, h.cbq, h.cka, h.cga, fun k hc => Nat.lt_of_lt_of_le (h.lt k hc) hk.size, h.tab⟩
theorem RAt.below (h : RAt w bl col m l) (hb : Below w.heap.size w w') : RAt w' bl col m l := h.keeps (S := fun _ => False) (Keep.of_below hb) (fun _ h => h.elim)
theorem RAt.klen (h : RAt w bl col m l) : l.kept.length = m.ks.length := by rw [h.kept, List.length_map]
theorem RAt.acc (h : RAt w bl col m l) {i : Nat} (hi : i < m.ks.length) : Bil.accAt l i = m.ks[i].a := by
  unfold Bil.accAt
  rw [h.kept]
  simp [List.getD, hi]
theorem RAt.rehead (h : RAt w bl col m l) (hg : w.grownBy w' (some bl)) (hd : List UInt8) (h16 : hd.length = 16) (hr : IsRow w' bl 76 (m.cells { l with head := hd })) : RAt w' bl col m { l with head := hd } := by
  have hk : Keep (fun k => k = bl) w w' := Keep.of_grown hg (fun k e => (Option.some.inj e).symm)
  have f : ∀ b q, col b = q → q ≠ 1 → ¬ b = bl := fun b q hq h0 hS => by subst hS; rw [h.cbl] at hq; omega
  have kat : ∀ k ∈ m.ks, RKat w' col l.n k := fun k hk' => by
    have x := h.kat k hk'
    exact ⟨x.c.keeps hk (f _ _ x.qc (by omega)), x.r.keeps hk (f _ _ x.qr (by omega)), x.t.keeps hk (f _ _ x.qt (by omega)), x.g.keeps hk (f _ _ x.qg (by omega)), x.lc, x.lr, x.lt, x.lg, x.qc, x.qr, x.qt, x.qg⟩
  exact ⟨hr, h16, h.n1, h.n2, h.per, h.len, h.pend.keeps hk (f _ _ h.cbp (by omega)), h.paid.keeps hk (f _ _ h.cbq (by omega)), h.lp, h.lq, h.kept,
    h.krow.keep fun a ha => hk.block a.block (h.krow.lt ha) (f _ _ (h.cka a ha) (by omega)), h.grow.keep fun a ha => hk.block a.block (h.grow.lt ha) (f _ _ (h.cga a ha) (by omega)), kat, h.cbl, h.cbp, h.cbq, h.cka, h.cga, fun k hc => Nat.lt_of_lt_of_le (h.lt k hc) hk.size, h.tab⟩
/-- the memory of a ledger one of whose kept bills is credited more -/
def RM.grant (m : RM) (i t : Nat) (v : Int) : RM := { m with ks := m.ks.modify i fun k => { k with a := ⟨k.a.bill, k.a.granted.set t v⟩ } }
theorem RAt.setGrant (h : RAt w bl col m l) (hO : Bil.Ok l) {i t : Nat} (hi : i < m.ks.length) (ht : t < l.n) (v : Int) :
    RAt (w.setCell ⟨(m.ks[i]'hi).bg, t, none⟩ (.int .i64 v)) bl col (m.grant i t v) { l with kept := l.kept.set i ⟨(Bil.accAt l i).bill, (Bil.accAt l i).granted.set t v⟩ } := by
  have hme : m.ks[i]'hi ∈ m.ks := List.getElem_mem hi
  have xi := h.kat _ hme
  have hki : i < l.kept.length := by rw [h.klen]; exact hi
  have hpi := (hO.a i hki).2
  rw [h.acc hi] at hpi
  have hmin := hO.k
  have hk : Keep (fun k => k = (m.ks[i]'hi).bg) w (w.setCell ⟨(m.ks[i]'hi).bg, t, none⟩ (.int .i64 v)) := Keep.of_grown (grown_setCell _ _ _ _) (fun k e => (Option.some.inj e).symm)
  have f : ∀ b q, col b = q → q < 7 → ¬ b = (m.ks[i]'hi).bg := fun b q hq h0 hS => by subst hS; rw [xi.qg] at hq; omega
  have hms := modify_set (fun k : RA => { k with a := ⟨k.a.bill, k.a.granted.set t v⟩ }) m.ks i hi
  have hlen : (m.grant i t v).ks.length = m.ks.length := by show (m.ks.modify i _).length = _; rw [hms, List.length_set]
  have hmap : ∀ F : RA → List Value, F { m.ks[i]'hi with a := ⟨(m.ks[i]'hi).a.bill, (m.ks[i]'hi).a.granted.set t v⟩ } = F (m.ks[i]'hi) → (m.grant i t v).ks.map F = m.ks.map F := fun F hF => by
    show (m.ks.modify i _).map F = _
    rw [hms, List.map_set, hF]
    have : F (m.ks[i]'hi) = (m.ks.map F)[i]'(by simpa using hi) := by rw [List.getElem_map]
    rw [this, List.set_getElem_self]
  have kat : ∀ k ∈ (m.grant i t v).ks, RKat (w.setCell ⟨(m.ks[i]'hi).bg, t, none⟩ (.int .i64 v)) col l.n k := fun k hk' => by
    have hk2 : k ∈ m.ks.set i { m.ks[i]'hi with a := ⟨(m.ks[i]'hi).a.bill, (m.ks[i]'hi).a.granted.set t v⟩ } := by rw [← hms]; exact hk'
    obtain ⟨j, hj, e⟩ := List.mem_iff_getElem.1 hk2
    rw [List.length_set] at hj
    by_cases eij : i = j
    · subst eij
      rw [List.getElem_set_self] at e
      subst e
      exact ⟨xi.c.keeps hk (f _ _ xi.qc (by omega)), xi.r.keeps hk (f _ _ xi.qr (by omega)), xi.t.keeps hk (f _ _ xi.qt (by omega)), (xi.g.set ht v).congr fun s hs => set_getD _ _ _ (by rw [xi.lg]; exact ht) s, xi.lc, xi.lr, xi.lt, (by show (List.set _ _ _).length = _; rw [List.length_set]; exact xi.lg), xi.qc, xi.qr, xi.qt, xi.qg⟩
    · rw [List.getElem_set_ne eij] at e
      subst e
      have x := h.kat _ (List.getElem_mem hj)
      have hpj := (hO.a j (by rw [h.klen]; exact hj)).2
      rw [h.acc hj] at hpj
      have hne : ¬ (m.ks[j]'hj).bg = (m.ks[i]'hi).bg := fun e => by
        have := x.qg
        rw [e, xi.qg, hpi, hpj] at this
        omega
      exact ⟨x.c.keeps hk (f _ _ x.qc (by omega)), x.r.keeps hk (f _ _ x.qr (by omega)), x.t.keeps hk (f _ _ x.qt (by omega)), x.g.keeps hk hne, x.lc, x.lr, x.lt, x.lg, x.qc, x.qr, x.qt, x.qg⟩
  have hrow : IsRow (w.setCell ⟨(m.ks[i]'hi).bg, t, none⟩ (.int .i64 v)) bl 76 ((m.grant i t v).cells { l with kept := l.kept.set i ⟨(Bil.accAt l i).bill, (Bil.accAt l i).granted.set t v⟩ }) := by
    have e : (m.grant i t v).cells { l with kept := l.kept.set i ⟨(Bil.accAt l i).bill, (Bil.accAt l i).granted.set t v⟩ } = m.cells l := by
      unfold RM.cells
      rw [hlen]; rfl
    rw [e]
    exact h.row.keep (hk.block bl h.row.lt (f _ _ h.cbl (by omega)))
  refine ⟨hrow, h.h16, h.n1, h.n2, h.per, by rw [hlen]; exact h.len, h.pend.keeps hk (f _ _ h.cbp (by omega)), h.paid.keeps hk (f _ _ h.cbq (by omega)), h.lp, h.lq, ?_, ?_, ?_, kat, h.cbl, h.cbp, h.cbq, h.cka, h.cga, fun k hc => Nat.lt_of_lt_of_le (h.lt k hc) hk.size, h.tab⟩
  · show l.kept.set i _ = (m.ks.modify i _).map RA.a
    rw [hms, List.map_set, h.kept, h.acc hi]
  · have := h.krow.keep (w' := w.setCell ⟨(m.ks[i]'hi).bg, t, none⟩ (.int .i64 v)) fun a ha => hk.block a.block (h.krow.lt ha) (f _ _ (h.cka a ha) (by omega))
    rw [show (m.grant i t v).ks.map (RA.bill l.n) = m.ks.map (RA.bill l.n) from hmap _ rfl]; exact this
  · have := h.grow.keep (w' := w.setCell ⟨(m.ks[i]'hi).bg, t, none⟩ (.int .i64 v)) fun a ha => hk.block a.block (h.grow.lt ha) (f _ _ (h.cga a ha) (by omega))
    rw [show (m.grant i t v).ks.map (RA.gr l.n) = m.ks.map (RA.gr l.n) from hmap _ rfl]; exact this
end
end
/-! The reference of layer 35: Text, Ints, book, Pending, Paid, Head. Conditions: the ledger reads as told; the reference's table is in memory. -/
section
open Go.RowKit
set_option maxRecDepth 100000 in
set_option maxHeartbeats 1000000 in
theorem refText_any (d : List UInt8) (hd : d.length = 16) (w : World) :
    Calls Tryd.prog 75 #[dv d] w fun e w' => e = .returned (.string (Mk.str d)) ∧ Below w.heap.size w w' := by
  have r0 := IsRow.new w 66 (bvs d)
  have hb0 : Below w.heap.size w (w.alloc (.cells (bvs d).toArray 66)) := (Below.refl _ w).alloc (Nat.le_refl _) _
  have HZ := Lib.hid (alloc_size1 w (.cells (bvs d).toArray 66))
  have HD := Lib.hid hd
  clear hd
  go_enter Tryd.func75, Tryd.ntmps75
  go_wp2
  go_loopw [3, 4] (fun u3 u4 wr => ∃ (k : Nat) (A' : Option Addr) (c' : Nat), k ≤ 16 ∧ u4 = .int .i64 k ∧ u3 = .slice A' k c' ∧ wr.ownsRow (w.heap.size + 1) 5 1 (.slice A' k c') k (bvs (d.take k)) ∧ Hid (Below w.heap.size w wr) ∧ Hid (IsRow wr w.heap.size 66 (bvs d)))
    (fun _ u4 _ => 16 - (intOf u4).toNat)
  case atStart => exact ⟨0, none, 0, by omega, rfl, rfl, World.ownsRow_nil _ _ _ _, Lib.hid hb0, Lib.hid r0⟩
  case round =>
    obtain ⟨k, A', c', hk, rfl, rfl, own, HB, HR⟩ := hrel
    have hBw := HB.out.size
    have hrl := HR.out.lt
    by_cases hkl : k < 16
    · have hkd : k < d.length := by rw [HD.out]; exact hkl
      have hcell : wr.cell? ⟨w.heap.size, k, none⟩ = some (.int .u8 ((d[k]).toNat : Int)) := by rw [HR.out.cell]; simp [bvs, hkd]
      have HT : Hid (bvs (d.take (k + 1)) = bvs (d.take k) ++ [.int .u8 ((d[k]).toNat : Int)]) := Lib.hid (by show (d.take (k + 1)).map _ = (d.take k).map _ ++ [_]; rw [List.take_succ_eq_append_getElem hkd, List.map_append]; rfl)
      generalize ((d[k]).toNat : Int) = x at *
      clear hkd
      go_wp2_with (at_builtin; refine wpList_app1 rfl (.tmp 9) (.tmp 13) 58 rfl (w.heap.size + 1) 5 _ 1 bytesE A' k c' _ _ rfl rfl own HB.out rfl (by omega) (by omega) (by omega) ?_; intro g4 c4 w4 own4 hb4 hg4)
      go_roundw
      case rel => exact ⟨k + 1, _, c4, by omega, by go_num, rfl, by rw [HT.out]; exact own4, Lib.hid hb4, Lib.hid (HR.out.grown hg4.1 (fun e => by have := (own.lt _ e).1; omega))⟩
      case measure => simp [intOf]; omega
    · have hk16 : k = 16 := by omega
      subst hk16
      have hdt : d.take 16 = d := List.take_of_length_le (by rw [HD.out]; exact Nat.le_refl _)
      rw [hdt] at own
      have rd := Rd.of_own own
      go_wp2_with (with_reducible refine wpList_toS rfl (.tmp 15) 58 9 5 rfl Tryd.underlying58 Tryd.underlying5 Tryd.underlying9 A' 16 c' rfl d rd ?_)
      go_ret
      exact ⟨rfl, HB.out⟩
set_option maxHeartbeats 800000 in
theorem refInts_any (A : Option Addr) (c : Nat) (l : List Int) (hl : l.length ≤ 1099511627776) (hr : I64s l) (w : World) (ha : Rd w w.heap.size 1 A l.length (ivs l)) :
    Calls Tryd.prog 76 #[.slice A l.length c] w fun e w' => ∃ A c, e = .returned (.slice A (Wire.encI l).length c) ∧
      w'.ownsRow w.heap.size 5 1 (.slice A (Wire.encI l).length c) (Wire.encI l).length (bvs (Wire.encI l)) ∧ Below w.heap.size w w' := by
  have h9 := Wire.enc_length_le l.length
  have HR := Lib.hid hr; clear hr
  go_enter Tryd.func76, Tryd.ntmps76
  go_wp2_with (go_at_call 35; refine (refInt_any _ (by omega) (by omega) _).mono ?_; rintro e w1 ⟨A1, c1, rfl, hown1, hb1⟩)
  go_loopw [3, 4] (fun u3 u4 wr => ∃ (k n : Nat) (A : Option Addr) (c : Nat), k ≤ l.length ∧ u4 = .int .i64 k ∧ u3 = .slice A n c ∧ Hid (n = (Wire.enc l.length ++ (l.take k).flatMap Wire.enc).length) ∧ n ≤ 9 + 9 * l.length ∧
     wr.ownsRow w.heap.size 5 1 (.slice A n c) n (bvs (Wire.enc l.length ++ (l.take k).flatMap Wire.enc)) ∧ Below w.heap.size w wr) (fun _ u _ => l.length - (intOf u).toNat)
  case atStart => exact ⟨0, _, A1, c1, by omega, rfl, rfl, by simp [Hid], by omega, by simpa using hown1, hb1⟩
  case round =>
    obtain ⟨k, n, A2, c2, hk, rfl, rfl, HN, hn9, hown2, hb2⟩ := hrel
    by_cases hlt : k < l.length
    · obtain ⟨bb, ob, rfl, _, hc⟩ := (ha.below hb2).get hlt
      obtain ⟨x, hx⟩ : ∃ x, x = l[k] := ⟨_, rfl⟩
      have hx1 := HR.out.get hlt
      have HS : Hid ((l.take (k + 1)).flatMap Wire.enc = (l.take k).flatMap Wire.enc ++ Wire.enc x) := by rw [hx]; exact Wire.flat_snoc hlt
      rw [← hx] at hc hx1
      clear hx
      have h9x := Wire.enc_length_le x
      have h9k := Wire.flat_take_len l (k + 1)
      go_wp2_with (first
        | (go_at_call 35; refine (refInt_any x hx1.1 hx1.2 _).mono ?_; rintro e w3 ⟨A3, c3, rfl, hown3, hb3⟩)
        | (at_builtin; refine wpList_appR rfl (.tmp 14) (.tmp 19) 58 rfl w.heap.size 5 _ 1 1 bytesE A2 n c2 _ A3 _ c3 _ rfl rfl (own_below hown2 hb3) (Rd.of_own hown3) (bvs_one _) (hb2.trans (hb3.mono hb2.size)) (by omega) (Nat.le_refl _) (Nat.le_trans hb2.size hb3.size) ?_; intro A4 c4 w4 hown4 hb4))
      go_roundw
      case rel =>
        refine ⟨k + 1, n + (Wire.enc x).length, A4, c4, by omega, by go_num, rfl, ?_, ?_, ?_, hb4⟩
        · show _ = _
          rw [HS.out, HN.out, ← List.append_assoc, List.length_append (bs := Wire.enc x)]
        · have h1 := HN.out
          have h2 := congrArg List.length HS.out
          simp only [List.length_append] at h1 h2
          omega
        · rw [HS.out, ← List.append_assoc, ← bvs_append]
          exact hown4
      case measure => simp [intOf] <;> omega
    · have HK : Hid (l.take k = l) := List.take_of_length_le (by omega)
      go_wp2
      go_ret
      have e1 : Wire.enc l.length ++ (l.take k).flatMap Wire.enc = Wire.encI l := by rw [HK.out]; rfl
      have e2 := HN.out
      rw [e1] at hown2 e2
      subst e2
      exact ⟨A2, c2, rfl, hown2, hb2⟩


section
variable (bl : Nat) (col : Nat → Nat) (m : RM) (l : Bil.Lg) (w : World)
theorem RM.cells_head {m : RM} {l : Bil.Lg} (h : l.head.length = 16) : ∀ j u, (bvs l.head)[j]? = some u → (m.cells l)[2 + j]? = some u := fun j u hu => by
  have hj : j < 16 := by have := (List.getElem?_eq_some_iff.1 hu).1; rwa [bvs_len, h] at this
  unfold RM.cells
  rw [List.append_assoc, List.getElem?_append_right (by simp)]
  simp only [List.length_cons, List.length_nil]
  rw [show 2 + j - (0 + 1 + 1) = j by omega, List.getElem?_append_left (by rw [bvs_len, h]; exact hj)]
  exact hu
theorem RM.cells_tail {m : RM} {l : Bil.Lg} (h : l.head.length = 16) (j : Nat) : (m.cells l)[18 + j]? = ([.slice (some ⟨m.bp, 0, none⟩) l.n m.cp, .slice (some ⟨m.bq, 0, none⟩) l.n m.cq, .slice m.A m.ks.length m.c, .slice m.G m.ks.length m.d] : List Value)[j]? := by
  unfold RM.cells
  rw [List.getElem?_append_right (by simp [h])]
  simp [h]
set_option maxHeartbeats 1600000 in
theorem rPending_any (h : RAt w bl col m l) (t : Int) :
    Calls Tryd.prog 47 #[.pointer (some ⟨bl, 0, none⟩), .int .i64 t] w fun e w' => e = .returned (.int .i64 (Bil.atOf l.pending t)) ∧ w' = w := by
  have c0 : w.cell? ⟨bl, 0, none⟩ = some (.int .i64 (l.n : Int)) := h.row.cell 0
  have c3 : w.cell? ⟨bl, 18, none⟩ = some (.slice (some ⟨m.bp, 0, none⟩) l.n m.cp) := (h.row.cell 18).trans (RM.cells_tail h.h16 0)
  have HA : Hid (Bil.atOf l.pending t = if t < 0 ∨ (l.n : Int) ≤ t then 0 else l.pending.getD t.toNat 0) := Lib.hid (by unfold Bil.atOf; rw [h.lp])
  have hp := h.pend
  have hn2 := h.n2
  obtain ⟨n, hn⟩ : ∃ x, l.n = x := ⟨_, rfl⟩
  rw [hn] at c0 c3 HA hp hn2
  clear h hn
  by_cases h1 : t < 0
  · rw [if_pos (.inl h1)] at HA
    clear hp
    go_enter Tryd.func47, Tryd.ntmps47
    go_wp2
    go_ret
    exact ⟨ret_int HA.out.symm, rfl⟩
  · by_cases h2 : (n : Int) ≤ t
    · rw [if_pos (.inr h2)] at HA
      clear hp
      go_enter Tryd.func47, Tryd.ntmps47
      go_wp2
      go_ret
      exact ⟨ret_int HA.out.symm, rfl⟩
    · obtain ⟨k, rfl⟩ : ∃ k : Nat, t = (k : Int) := ⟨t.toNat, by omega⟩
      rw [if_neg (by omega), Int.toNat_natCast] at HA
      have hk : k < n := by omega
      have c1 := hp.cell k hk
      have i1 : (k : Int) < (n : Int) := by omega
      have i2 : ¬ ((n : Int) ≤ (k : Int)) := by omega
      obtain ⟨x, hx⟩ : ∃ x, l.pending.getD k 0 = x := ⟨_, rfl⟩
      rw [hx] at HA c1
      clear hp hx hk h2
      go_enter Tryd.func47, Tryd.ntmps47
      go_wp2
      go_ret
      exact ⟨ret_int HA.out.symm, rfl⟩
set_option maxHeartbeats 1600000 in
theorem rPaid_any (h : RAt w bl col m l) (t : Int) :
    Calls Tryd.prog 48 #[.pointer (some ⟨bl, 0, none⟩), .int .i64 t] w fun e w' => e = .returned (.int .i64 (Bil.atOf l.paid t)) ∧ w' = w := by
  have c0 : w.cell? ⟨bl, 0, none⟩ = some (.int .i64 (l.n : Int)) := h.row.cell 0
  have c3 : w.cell? ⟨bl, 19, none⟩ = some (.slice (some ⟨m.bq, 0, none⟩) l.n m.cq) := (h.row.cell 19).trans (RM.cells_tail h.h16 1)
  have HA : Hid (Bil.atOf l.paid t = if t < 0 ∨ (l.n : Int) ≤ t then 0 else l.paid.getD t.toNat 0) := Lib.hid (by unfold Bil.atOf; rw [h.lq])
  have hp := h.paid
  have hn2 := h.n2
  obtain ⟨n, hn⟩ : ∃ x, l.n = x := ⟨_, rfl⟩
  rw [hn] at c0 c3 HA hp hn2
  clear h hn
  by_cases h1 : t < 0
  · rw [if_pos (.inl h1)] at HA
    clear hp
    go_enter Tryd.func48, Tryd.ntmps48
    go_wp2
    go_ret
    exact ⟨ret_int HA.out.symm, rfl⟩
  · by_cases h2 : (n : Int) ≤ t
    · rw [if_pos (.inr h2)] at HA
      clear hp
      go_enter Tryd.func48, Tryd.ntmps48
      go_wp2
      go_ret
      exact ⟨ret_int HA.out.symm, rfl⟩
    · obtain ⟨k, rfl⟩ : ∃ k : Nat, t = (k : Int) := ⟨t.toNat, by omega⟩
      rw [if_neg (by omega), Int.toNat_natCast] at HA
      have hk : k < n := by omega
      have c1 := hp.cell k hk
      have i1 : (k : Int) < (n : Int) := by omega
      have i2 : ¬ ((n : Int) ≤ (k : Int)) := by omega
      obtain ⟨x, hx⟩ : ∃ x, l.paid.getD k 0 = x := ⟨_, rfl⟩
      rw [hx] at HA c1
      clear hp hx hk h2
      go_enter Tryd.func48, Tryd.ntmps48
      go_wp2
      go_ret
      exact ⟨ret_int HA.out.symm, rfl⟩
end
end
/-! The reference of layer 35: book, New. Conditions: the reference's table is in memory; strings of at most 1000000 bytes. -/
section
open Go.RowKit
end
/-! The reference of layer 35: Bill. Conditions: the ledger reads as told and keeps what it keeps (Ok). -/
section
open Go.RowKit
theorem idx_of_period {l : Bil.Lg} (hO : Bil.Ok l) {k : Nat} (hk : k < l.kept.length) {p : Int} (hp : (Bil.accAt l k).bill.period = p) : Bil.idx l p = some k := by
  have h1 := (hO.a k hk).2
  have h2 := hO.k
  unfold Bil.idx
  rw [if_pos (by omega)]
  congr 1
  omega
theorem idx_none_of {l : Bil.Lg} (hO : Bil.Ok l) {p : Int} (h : ∀ k, k < l.kept.length → (Bil.accAt l k).bill.period ≠ p) : Bil.idx l p = none := by
  cases hi : Bil.idx l p with
  | none => rfl
  | some i =>
    obtain ⟨_, _, h3, h4⟩ := Bil.idx_some hi
    exact absurd ((hO.a i h3).2.trans h4.symm) (h i h3)
/-- what the reference's Bill returns: the kept bill itself -/
def RBillRes (w : World) (m : RM) (l : Bil.Lg) (p : Int) (e : Ending) (w' : World) : Prop :=
  (Bil.idx l p = none ∧ e = .returned (.tuple #[zBill, .bool false]) ∧ Below w.heap.size w w') ∨ ∃ (i : Nat) (hi : i < m.ks.length), Bil.idx l p = some i ∧ e = .returned (.tuple #[.agg (RA.bill l.n (m.ks[i]'hi)).toArray, .bool true]) ∧ Below w.heap.size w w'
set_option maxRecDepth 100000 in
set_option maxHeartbeats 3200000 in
theorem rBill_any (bl : Nat) (col : Nat → Nat) (m : RM) (l : Bil.Lg) (p : Int) (w : World) (h : RAt w bl col m l) (hO : Bil.Ok l) :
    Calls Tryd.prog 50 #[.pointer (some ⟨bl, 0, none⟩), .int .i64 p] w (RBillRes w m l p) := by
  have q4 := IsRow.new w 31 Z6
  have hb4 : Below w.heap.size w (w.alloc (.cells Z6.toArray 31)) := (Below.refl _ _).alloc (Nat.le_refl _) _
  obtain ⟨w4, hw4⟩ : ∃ x, w.alloc (.cells Z6.toArray 31) = x := ⟨_, rfl⟩
  rw [hw4] at q4 hb4
  have HW4 := Lib.hid (show w.alloc (.cells #[.int .i64 0, .int .i64 0, .int .i64 0, .slice none 0 0, .slice none 0 0, .slice none 0 0] 31) = w4 from hw4)
  have hl4 := h.below hb4
  obtain ⟨b4, hb4'⟩ : ∃ x, w.heap.size = x := ⟨_, rfl⟩
  have HBE := Lib.hid hb4'
  rw [hb4'] at q4
  have HQ4 := Lib.hid q4
  have HB4 := Lib.hid hb4
  have c5 : w4.cell? ⟨bl, 20, none⟩ = some (.slice m.A m.ks.length m.c) := (hl4.row.cell 20).trans (RM.cells_tail h.h16 2)
  have HL := Lib.hid hl4
  have HO := Lib.hid hO
  have HK := Lib.hid h.klen
  have hlen := h.len
  obtain ⟨Lk, hLk⟩ : ∃ x, m.ks.length = x := ⟨_, rfl⟩
  rw [hLk] at c5 hlen
  have HLK := Lib.hid hLk
  clear h hO hw4 q4 hb4 hb4' hl4 hLk
  go_enter Tryd.func50, Tryd.ntmps50
  go_upto_region 1 with fail
  rw [show _ = w4 from HW4.out, show w.heap.size = b4 from HBE.out]
  go_wp2_with fail
  go_loopw [6] (fun u6 wr => ∃ k : Nat, k ≤ Lk ∧ u6 = .int .i64 k ∧ Hid (∀ j, j < k → (Bil.accAt l j).bill.period ≠ p) ∧ wr = w4) (fun u6 _ => Lk - (intOf u6).toNat)
  case atStart => exact ⟨0, Nat.zero_le _, rfl, Lib.hid (fun j hj => by omega), rfl⟩
  case round =>
    obtain ⟨k, hk, rfl, HN, hwr⟩ := hrel
    rw [hwr]
    clear hwr
    by_cases hlt : k < Lk
    · have hkm : k < m.ks.length := by rw [HLK.out]; exact hlt
      obtain ⟨g, off, hA, _, hform⟩ := HL.out.krow.form (by rw [List.length_map]; omega)
      have hcells := hform k (by rw [List.length_map]; exact hkm)
      rw [List.getElem_map] at hcells
      rw [hA] at c5
      have hrg : w4.rangeAt g (off + k * 6) (RA.bill l.n (m.ks[k]'hkm)) := fun j v hv => hcells j v hv
      have e0 : w4.cell? ⟨g, off + k * 6, none⟩ = some (.int .i64 (m.ks[k]'hkm).a.bill.period) := hcells 0 _ rfl
      have hacc := HL.out.acc hkm
      obtain ⟨pk, hpk⟩ : ∃ x, (m.ks[k]'hkm).a.bill.period = x := ⟨_, rfl⟩
      rw [hpk] at e0
      have hap : (Bil.accAt l k).bill.period = pk := by rw [hacc]; exact hpk
      have HAP := Lib.hid hap
      have i0 : (0 : Int) ≤ (k : Int) := by omega
      have i1 : (k : Int) < (Lk : Int) := by omega
      have HKM := Lib.hid hkm
      clear hA hform hcells hacc hpk hap
      by_cases hp : pk = p
      · have HP := Lib.hid hp
        have hp2 : (pk == p) = true := by rw [beq_iff_eq]; exact hp
        clear hp
        obtain ⟨LB, hLB⟩ : ∃ x, RA.bill l.n (m.ks[k]'hkm) = x := ⟨_, rfl⟩
        have hlb : LB.length = 6 ∧ LB.all (·.oneCell') = true := by rw [← hLB]; exact ⟨rfl, rfl⟩
        rw [hLB] at hrg
        have HLB := Lib.hid hLB
        clear hLB
        go_wp2_with (first
          | (refine wpList_load_mid rfl _ (.tmp 31) rfl g (off + k * 6) rfl LB _ hrg Tryd.underlying31 rfl (by rw [hlb.1]; exact size6) ?_)
          | (refine wpList_storeRow rfl _ (.tmp 4) (.tmp 32) rfl (l' := LB) HQ4.out rfl rfl (by rw [hlb.1]; exact size6) (by rw [hlb.1]; rfl) hlb.2 ?_; intro w9 r9 g9 z9))
        exact bodyPost_ret (resultRowST rfl _ _ r9 rfl Tryd.underlying31 (by rw [hlb.1]; exact size6)) rfl (.inr ⟨k, hkm, idx_of_period HO.out (by rw [HK.out]; exact hkm) (HAP.out.trans HP.out), by rw [HLB.out]; rfl, HB4.out.grown g9 HB4.out.size (by intro j hj; have hj := Option.some.inj hj; have := HBE.out; omega)⟩)
      · have HP := Lib.hid hp
        have hp2 : (pk == p) = false := by rw [beq_eq_false_iff_ne]; exact hp
        clear hrg
        go_wp2_with fail
        go_roundw
        case rel =>
          refine ⟨k + 1, by omega, by go_num, Lib.hid (fun j hj => ?_), trivial⟩
          by_cases e : j = k
          · subst e; rw [HAP.out]; exact HP.out
          · exact HN.out j (by omega)
        case measure => simp [intOf]; omega
    · obtain rfl : k = Lk := by omega
      go_wp2_with (refine wpList_storeRow rfl _ (.tmp 4) (.tmp 33) rfl (l' := Z6) HQ4.out rfl rfl size6 rfl rfl ?_; intro w9 r9 g9 z9)
      exact bodyPost_ret (resultRowST rfl _ _ r9 rfl Tryd.underlying31 size6) rfl (.inl ⟨idx_none_of HO.out (fun j hj => HN.out j (by have := HK.out; have := HLK.out; omega)), rfl, HB4.out.grown g9 HB4.out.size (by intro j hj; have hj := Option.some.inj hj; have := HBE.out; omega)⟩)
end
/-! The reference of layer 35: EncodeCredit, EncodeClose. Conditions: numbers of 64 bits, at most 1000 charges. -/
section
open Go.RowKit
theorem bvs_app (a b : List UInt8) : bvs (a ++ b) = bvs a ++ bvs b := by simp [bvs]
end
/-! The reference of layer 35: Head. Conditions: the ledger reads as told. -/
section
open Go.RowKit
set_option maxRecDepth 100000 in
set_option maxHeartbeats 800000 in
theorem rHead_any (bl : Nat) (col : Nat → Nat) (m : RM) (l : Bil.Lg) (w : World) (h : RAt w bl col m l) :
    Calls Tryd.prog 45 #[.pointer (some ⟨bl, 0, none⟩)] w fun e w' => e = .returned (dv l.head) ∧ Below w.heap.size w w' := by
  have hrow := h.row
  have hrg : w.rangeAt bl 2 (bvs l.head) := fun j v hv => by rw [hrow.cell]; exact RM.cells_head h.h16 j v hv
  have HRG := Lib.hid hrg
  have HBL := Lib.hid hrow.lt
  have H16 := Lib.hid h.h16
  clear h hrow hrg
  go_enter Tryd.func45, Tryd.ntmps45
  go_wp2_with (first
    | (refine wpList_allocRow rfl _ rfl _ info16 ?_; intro w1 r1 b1 z1; have HZ1 := Lib.hid z1; have hrg1 := rangeAt_below HRG.out b1 HBL.out; clear z1)
    | (refine wpList_load_mid rfl _ (.tmp 5) rfl bl 2 rfl (bvs l.head) _ hrg1 Tryd.underlying66 rfl (by rw [bvs_len, H16.out]; exact size16) ?_)
    | (refine wpList_storeRow rfl _ (.tmp 2) (.tmp 6) rfl r1 rfl rfl (by rw [bvs_len, H16.out]; exact size16) (by rw [bvs_len, H16.out, List.length_replicate]) (bvs_all _) ?_; intro w2 r2 g2 z2; have HZ2 := Lib.hid z2; clear z2))
  exact bodyPost_ret (resultRow rfl _ _ r2 rfl Tryd.underlying66 (by rw [bvs_len, H16.out]; exact size16)) rfl ⟨rfl, b1.grown g2 (by have := b1.size; omega) (by intro k hk; have hk := Option.some.inj hk; omega)⟩
end
end Go.Proofs.YtkjomnakolhdcaaDoor
