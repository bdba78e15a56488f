/- Joined texts: BilL, BilC, BilK, BilX. Conditions: as each part says. -/
import Derived.Test.YtkjomnakolhdcaaDoorBilW2
namespace Go.Proofs.YtkjomnakolhdcaaDoor
set_option linter.unusedVariables false
set_option linter.unusedSimpArgs false
/-! Layer 35's ledgers in memory: what a store into one of their rows leaves. Conditions: the ledger reads as told. -/
section
open Go.RowKit
namespace Bil
/-- what is pending and paid is not negative and at most K -/
def Sm (l : Lg) (K : Int) : Prop := ∀ t : Nat, 0 ≤ l.pending.getD t 0 ∧ l.pending.getD t 0 ≤ K ∧ 0 ≤ l.paid.getD t 0 ∧ l.paid.getD t 0 ≤ K
end Bil
section
variable {w w' : World} {S : Nat → Prop} {col : Nat → Nat} {n bl : Nat} {k : KA} {m : LM} {l : Bil.Lg}
theorem LAt.drew (h : LAt w bl col m l) : LAt w.drew bl col m l := h.keeps (S := fun _ => False) (Keep.refl _ _).drew (fun _ h => h.elim)
theorem LAt.drewN (h : LAt w bl col m l) (j : Nat) : LAt (w.drewN j) bl col m l := h.keeps (S := fun _ => False) ((Keep.refl _ _).drewN j) (fun _ h => h.elim)
theorem LAt.acc (h : LAt w bl col m l) {i : Nat} (hi : i < m.ks.length) : Bil.accAt l i = m.ks[i].a := by
  unfold Bil.accAt
  rw [h.kept]
  simp [List.getD, hi]
theorem set_getD (l : List Int) (t : Nat) (v : Int) (ht : t < l.length) (s : Nat) : (l.set t v).getD s 0 = if s = t then v else l.getD s 0 := by
  by_cases e : t = s
  · subst e; rw [if_pos rfl]; simp only [List.getD, List.getElem?_set_self ht, Option.getD_some]
  · rw [if_neg (fun h => e h.symm)]; simp only [List.getD, List.getElem?_set_ne e]
theorem LAt.setPend (h : LAt w bl col m l) {t : Nat} (ht : t < l.n) (v : Int) : LAt (w.setCell ⟨m.bp, t, none⟩ (.int .i64 v)) bl col m { l with pending := l.pending.set t v } := by
  have hk : Keep (fun k => k = m.bp) w (w.setCell ⟨m.bp, t, none⟩ (.int .i64 v)) := Keep.of_grown (grown_setCell _ _ _ _) (fun k e => (Option.some.inj e).symm)
  have f : ∀ b q, col b = q → q ≠ 2 → ¬ b = m.bp := fun b q hq h0 hS => by subst hS; rw [h.cbp] at hq; omega
  have kat : ∀ k ∈ m.ks, KAt _ col l.n k := fun k hk' => by
    have x := h.kat k hk'
    exact ⟨x.c.keeps hk (f _ _ x.qc (by omega)), x.r.keeps hk (f _ _ x.qr (by omega)), x.t.keeps hk (f _ _ x.qt (by omega)), x.g.keeps hk (f _ _ x.qg (by omega)), x.lc, x.lr, x.lt, x.lg, x.qc, x.qr, x.qt, x.qg⟩
  exact ⟨h.row.keep (hk.block bl h.row.lt (f _ _ h.cbl (by omega))), h.h16, h.n1, h.n2, h.per, h.len, (h.pend.set ht v).congr fun s hs => set_getD _ _ _ (by rw [h.lp]; exact ht) s, h.paid.keeps hk (f _ _ h.cbq (by omega)), by rw [List.length_set]; exact h.lp, h.lq, h.kept,
    h.krow.keep fun a ha => hk.block a.block (h.krow.lt ha) (f _ _ (h.cka a ha) (by omega)), kat, h.cbl, h.cbp, h.cbq, h.cka, fun k hc => Nat.lt_of_lt_of_le (h.lt k hc) hk.size, h.tab⟩
theorem LAt.setPaid (h : LAt w bl col m l) {t : Nat} (ht : t < l.n) (v : Int) : LAt (w.setCell ⟨m.bq, t, none⟩ (.int .i64 v)) bl col m { l with paid := l.paid.set t v } := by
  have hk : Keep (fun k => k = m.bq) w (w.setCell ⟨m.bq, t, none⟩ (.int .i64 v)) := Keep.of_grown (grown_setCell _ _ _ _) (fun k e => (Option.some.inj e).symm)
  have f : ∀ b q, col b = q → q ≠ 3 → ¬ b = m.bq := fun b q hq h0 hS => by subst hS; rw [h.cbq] at hq; omega
  have kat : ∀ k ∈ m.ks, KAt _ col l.n k := fun k hk' => by
    have x := h.kat k hk'
    exact ⟨x.c.keeps hk (f _ _ x.qc (by omega)), x.r.keeps hk (f _ _ x.qr (by omega)), x.t.keeps hk (f _ _ x.qt (by omega)), x.g.keeps hk (f _ _ x.qg (by omega)), x.lc, x.lr, x.lt, x.lg, x.qc, x.qr, x.qt, x.qg⟩
  exact ⟨h.row.keep (hk.block bl h.row.lt (f _ _ h.cbl (by omega))), h.h16, h.n1, h.n2, h.per, h.len, h.pend.keeps hk (f _ _ h.cbp (by omega)), (h.paid.set ht v).congr fun s hs => set_getD _ _ _ (by rw [h.lq]; exact ht) s, h.lp, by rw [List.length_set]; exact h.lq, h.kept,
    h.krow.keep fun a ha => hk.block a.block (h.krow.lt ha) (f _ _ (h.cka a ha) (by omega)), kat, h.cbl, h.cbp, h.cbq, h.cka, fun k hc => Nat.lt_of_lt_of_le (h.lt k hc) hk.size, h.tab⟩
theorem kcs_set (n : Nat) : ∀ (ks : List KA) (i : Nat) (k' : KA) (hi : i < ks.length), k'.cells n = ks[i].cells n → kcs n (ks.set i k') = kcs n ks
  | [], _, _, hi, _ => by simp at hi
  | k :: ks, 0, k', _, h => by
    show (k'.cells n) ++ _ = (k.cells n) ++ _
    have h' : k'.cells n = k.cells n := h
    rw [h']
  | k :: ks, i + 1, k', hi, h => by
    show (k.cells n) ++ kcs n (ks.set i k') = (k.cells n) ++ kcs n ks
    rw [kcs_set n ks i k' (by simpa using hi) (by simpa using h)]
theorem KRow.congr {c : Nat} {A : Option Addr} {ks ks' : List KA} (h : KRow w n A c ks) (hl : ks'.length = ks.length) (he : kcs n ks' = kcs n ks) : KRow w n A c ks' := by
  rcases h with ⟨h1, h2, h3⟩ | ⟨g, off, cur, h1, h2, h3, h4, h5, h6⟩
  · subst h3; exact .inl ⟨h1, h2, List.eq_nil_of_length_eq_zero hl⟩
  · exact .inr ⟨g, off, cur, h1, h2, by rw [hl]; exact h3, h4, h5, by rw [he]; exact h6⟩
/-- the memory of a ledger one of whose kept accounts grants more -/
def LM.grant (m : LM) (i t : Nat) (v : Int) : LM := { m with ks := m.ks.modify i fun k => { k with a := ⟨k.a.bill, k.a.granted.set t v⟩ } }
theorem modify_set {α : Type} (f : α → α) : ∀ (ks : List α) (i : Nat) (hi : i < ks.length), ks.modify i f = ks.set i (f ks[i])
  | [], _, hi => by simp at hi
  | k :: ks, 0, _ => rfl
  | k :: ks, i + 1, hi => by
    have hi' : i < ks.length := by simpa using hi
    show k :: ks.modify i f = k :: ks.set i (f (ks[i]'hi'))
    rw [modify_set f ks i (by simpa using hi)]
theorem LAt.setGrant (h : LAt w bl col m l) (hO : Bil.Ok l) {i t : Nat} (hi : i < m.ks.length) (ht : t < l.n) (v : Int) :
    LAt (w.setCell ⟨(m.ks[i]'hi).bg, t, none⟩ (.int .i64 v)) bl col (m.grant i t v) { l with kept := l.kept.set i ⟨(Bil.accAt l i).bill, (Bil.accAt l i).granted.set t v⟩ } := by
  have hme : m.ks[i]'hi ∈ m.ks := List.getElem_mem hi
  have xi := h.kat _ hme
  have hki : i < l.kept.length := by rw [h.klen]; exact hi
  have hpi := (hO.a i hki).2
  rw [h.acc hi] at hpi
  have hmin := hO.k
  have hk : Keep (fun k => k = (m.ks[i]'hi).bg) w (w.setCell ⟨(m.ks[i]'hi).bg, t, none⟩ (.int .i64 v)) := Keep.of_grown (grown_setCell _ _ _ _) (fun k e => (Option.some.inj e).symm)
  have f : ∀ b q, col b = q → q < 6 → ¬ b = (m.ks[i]'hi).bg := fun b q hq h0 hS => by subst hS; rw [xi.qg] at hq; omega
  have hms := modify_set (fun k : KA => { k with a := ⟨k.a.bill, k.a.granted.set t v⟩ }) m.ks i hi
  have hlen : (m.grant i t v).ks.length = m.ks.length := by show (m.ks.modify i _).length = _; rw [hms, List.length_set]
  have kat : ∀ k ∈ (m.grant i t v).ks, KAt (w.setCell ⟨(m.ks[i]'hi).bg, t, none⟩ (.int .i64 v)) col l.n k := fun k hk' => by
    have hk2 : k ∈ m.ks.set i { m.ks[i]'hi with a := ⟨(m.ks[i]'hi).a.bill, (m.ks[i]'hi).a.granted.set t v⟩ } := by rw [← hms]; exact hk'
    obtain ⟨j, hj, e⟩ := List.mem_iff_getElem.1 hk2
    rw [List.length_set] at hj
    by_cases eij : i = j
    · subst eij
      rw [List.getElem_set_self] at e
      subst e
      exact ⟨xi.c.keeps hk (f _ _ xi.qc (by omega)), xi.r.keeps hk (f _ _ xi.qr (by omega)), xi.t.keeps hk (f _ _ xi.qt (by omega)), (xi.g.set ht v).congr fun s hs => set_getD _ _ _ (by rw [xi.lg]; exact ht) s, xi.lc, xi.lr, xi.lt, (by show (List.set _ _ _).length = _; rw [List.length_set]; exact xi.lg), xi.qc, xi.qr, xi.qt, xi.qg⟩
    · rw [List.getElem_set_ne eij] at e
      subst e
      have x := h.kat _ (List.getElem_mem hj)
      have hpj := (hO.a j (by rw [h.klen]; exact hj)).2
      rw [h.acc hj] at hpj
      have hne : ¬ (m.ks[j]'hj).bg = (m.ks[i]'hi).bg := fun e => by
        have := x.qg
        rw [e, xi.qg, hpi, hpj] at this
        omega
      exact ⟨x.c.keeps hk (f _ _ x.qc (by omega)), x.r.keeps hk (f _ _ x.qr (by omega)), x.t.keeps hk (f _ _ x.qt (by omega)), x.g.keeps hk hne, x.lc, x.lr, x.lt, x.lg, x.qc, x.qr, x.qt, x.qg⟩
  have hrow : IsRow (w.setCell ⟨(m.ks[i]'hi).bg, t, none⟩ (.int .i64 v)) bl 71 ((m.grant i t v).cells { l with kept := l.kept.set i ⟨(Bil.accAt l i).bill, (Bil.accAt l i).granted.set t v⟩ }) := by
    have e : (m.grant i t v).cells { l with kept := l.kept.set i ⟨(Bil.accAt l i).bill, (Bil.accAt l i).granted.set t v⟩ } = m.cells l := by
      unfold LM.cells
      rw [hlen]; rfl
    rw [e]
    exact h.row.keep (hk.block bl h.row.lt (f _ _ h.cbl (by omega)))
  refine ⟨hrow, h.h16, h.n1, h.n2, h.per, by rw [hlen]; exact h.len, h.pend.keeps hk (f _ _ h.cbp (by omega)), h.paid.keeps hk (f _ _ h.cbq (by omega)), h.lp, h.lq, ?_, ?_, kat, h.cbl, h.cbp, h.cbq, h.cka, fun k hc => Nat.lt_of_lt_of_le (h.lt k hc) hk.size, h.tab⟩
  · show l.kept.set i _ = (m.ks.modify i _).map KA.a
    rw [hms, List.map_set, h.kept, h.acc hi]
  · have := h.krow.keep (w' := w.setCell ⟨(m.ks[i]'hi).bg, t, none⟩ (.int .i64 v)) fun a ha => hk.block a.block (h.krow.lt ha) (f _ _ (h.cka a ha) (by omega))
    refine this.congr hlen ?_
    show kcs l.n (m.ks.modify i _) = _
    rw [hms]
    exact kcs_set _ _ _ _ hi rfl
end
end
/-! Layer 35's Credit. Conditions: the ledger keeps what it keeps (Ok), its numbers are at most 2^60; the tables of the digest are in memory. -/
section
open Go.RowKit
/-- the ledger behind a credit -/
def Bil.creditSt (l : Bil.Lg) (p t u : Int) : Bil.Lg := if Bil.creditErr l p t u = 0 then Bil.creditOf (bookHead l.head ⟨(encCredit p t u).toArray⟩) l ((Bil.idx l p).getD 0) t.toNat u else l
/-- what Credit does -/
def CreditRes (w : World) (bl : Nat) (col : Nat → Nat) (l : Bil.Lg) (p t u : Int) (e : Ending) (w' : World) : Prop := e = .returned (.int .i64 (Bil.creditErr l p t u)) ∧ Keep (fun b => col b ≠ 0) w w' ∧ ∃ m', LAt w' bl col m' (Bil.creditSt l p t u)
theorem CreditRes.err {w w' : World} {bl : Nat} {col : Nat → Nat} {m : LM} {l : Bil.Lg} {p t u x : Int} (h : LAt w bl col m l) (hx : Bil.creditErr l p t u = x) (h0 : x ≠ 0) (hb : Below w.heap.size w w') : CreditRes w bl col l p t u (.returned (.int .i64 x)) w' :=
  ⟨by rw [hx], Keep.of_below hb, m, by unfold Bil.creditSt; rw [hx, if_neg h0]; exact h.below hb⟩
theorem encCredit_le (p t u : Int) : (encCredit p t u).length ≤ 36 := by
  have h1 := Wire.enc_length_le 2
  have h2 := Wire.enc_length_le p
  have h3 := Wire.enc_length_le t
  have h4 := Wire.enc_length_le u
  unfold encCredit
  simp only [List.length_append]
  omega
section
variable (bl : Nat) (col : Nat → Nat) (m : LM) (l : Bil.Lg) (p t u : Int) (w : World)
set_option maxHeartbeats 1600000 in
theorem credit_none (h : LAt w bl col m l) (p1 : -9223372036854775808 ≤ p) (p2 : p ≤ 9223372036854775807) (hi : Bil.idx l p = none) :
    Calls Tryd.prog 30 #[.pointer (some ⟨bl, 0, none⟩), .int .i64 p, .int .i64 t, .int .i64 u] w (CreditRes w bl col l p t u) := by
  have HA := Lib.hid (account_none bl col m l w h p p1 p2 hi)
  have hx : Bil.creditErr l p t u = 12 := by unfold Bil.creditErr; rw [hi]
  have HH := Lib.hid (And.intro h hx)
  clear h hi hx p1 p2
  go_enter Tryd.func30, Tryd.ntmps30
  go_wp2_with (go_at_call 70; refine HA.out.mono ?_; rintro e w1 ⟨rfl, b1⟩)
  go_ret
  exact CreditRes.err HH.out.1 HH.out.2 (by decide) b1
set_option maxHeartbeats 1600000 in
theorem credit_arg (h : LAt w bl col m l) (i : Nat) (hi : Bil.idx l p = some i) (hbad : t < 0 ∨ (l.n : Int) ≤ t ∨ u < 1) :
    Calls Tryd.prog 30 #[.pointer (some ⟨bl, 0, none⟩), .int .i64 p, .int .i64 t, .int .i64 u] w (CreditRes w bl col l p t u) := by
  have hx : Bil.creditErr l p t u = 1 := by unfold Bil.creditErr; rw [hi]; simp only; rw [if_pos hbad]
  have hk : i < m.ks.length := by have := Bil.idx_some hi; rw [h.klen] at this; exact this.2.2.1
  obtain ⟨g, off, hA, _⟩ := h.krow.form (by omega)
  have HA := Lib.hid (account_some bl col m l w h p i g off hi hA)
  obtain ⟨o, ho⟩ : ∃ x, off + i * 7 = x := ⟨_, rfl⟩
  rw [ho] at HA
  have HT := Lib.hid (fun W (hW : Below w.heap.size w W) => tenants_any bl col m l W (h.below hW))
  have HH := Lib.hid (And.intro h hx)
  generalize l.n = N at *
  clear h hi hx hA hk ho
  by_cases h1 : t < 0
  · clear hbad
    go_enter Tryd.func30, Tryd.ntmps30
    go_wp2_with (go_at_call 70; refine HA.out.mono ?_; rintro e w1 ⟨rfl, b1⟩)
    go_ret
    exact CreditRes.err HH.out.1 HH.out.2 (by decide) b1
  · by_cases h2 : (N : Int) ≤ t
    · clear hbad
      go_enter Tryd.func30, Tryd.ntmps30
      go_wp2_with (first
        | (go_at_call 70; refine HA.out.mono ?_; rintro e w1 ⟨rfl, b1⟩)
        | (go_at_call 43; refine (HT.out _ b1).mono ?_; rintro e w2 ⟨rfl, hw2⟩; rw [hw2]; clear hw2 w2))
      go_ret
      exact CreditRes.err HH.out.1 HH.out.2 (by decide) b1
    · have h3 : u < 1 := by omega
      clear hbad
      go_enter Tryd.func30, Tryd.ntmps30
      go_wp2_with (first
        | (go_at_call 70; refine HA.out.mono ?_; rintro e w1 ⟨rfl, b1⟩)
        | (go_at_call 43; refine (HT.out _ b1).mono ?_; rintro e w2 ⟨rfl, hw2⟩; rw [hw2]; clear hw2 w2))
      go_ret
      exact CreditRes.err HH.out.1 HH.out.2 (by decide) b1
set_option maxRecDepth 100000 in
set_option maxHeartbeats 3200000 in
theorem credit_in (h : LAt w bl col m l) (hO : Bil.Ok l) (hS : Bil.Sm l 1152921504606846976) (hT : Tabs w) (p1 : -9223372036854775808 ≤ p) (p2 : p ≤ 9223372036854775807) (u2 : u ≤ 9223372036854775807) (i tt : Nat) (ht : t = (tt : Int)) (htl : tt < l.n) (hu : 1 ≤ u) (hi : Bil.idx l p = some i) :
    Calls Tryd.prog 30 #[.pointer (some ⟨bl, 0, none⟩), .int .i64 p, .int .i64 t, .int .i64 u] w (CreditRes w bl col l p t u) := by
  subst ht
  have hk : i < m.ks.length := by have := Bil.idx_some hi; rw [h.klen] at this; exact this.2.2.1
  have hx : Bil.creditErr l p tt u = if (Bil.accAt l i).bill.charges.getD tt 0 - (Bil.accAt l i).granted.getD tt 0 < u then 2 else 0 := by
    unfold Bil.creditErr; rw [hi]; simp only; rw [if_neg (by omega), Int.toNat_natCast]
  have hok := (hO.a i (by rw [h.klen]; exact hk)).1
  have hb1 := Bil.charges_nonneg hok.f tt
  have hb2 := hok.d tt
  have hsm := hS tt
  rw [h.acc hk] at hx hb1 hb2
  obtain ⟨g, off, hA, _, hform⟩ := h.krow.form (by omega)
  have HA := Lib.hid (account_some bl col m l w h p i g off hi hA)
  obtain ⟨o, ho⟩ : ∃ x, off + i * 7 = x := ⟨_, rfl⟩
  rw [ho] at HA
  have k4 : w.cell? ⟨g, o + 3, none⟩ = some (.slice (some ⟨(m.ks[i]'hk).bc, 0, none⟩) l.n (m.ks[i]'hk).cc) := by have := hform i hk 3 _ rfl; rwa [ho] at this
  have k7 : w.cell? ⟨g, o + 6, none⟩ = some (.slice (some ⟨(m.ks[i]'hk).bg, 0, none⟩) l.n (m.ks[i]'hk).cg) := by have := hform i hk 6 _ rfl; rwa [ho] at this
  have hkat := h.kat _ (List.getElem_mem hk)
  have kc := hkat.c.cell tt htl
  have kg := hkat.g.cell tt htl
  have fg := hkat.g.free tt htl
  have lc := hkat.c.lt
  have lg := hkat.g.lt
  have gl : g < w.heap.size := h.krow.lt hA
  have HT := Lib.hid (fun W (hW : Below w.heap.size w W) => tenants_any bl col m l W (h.below hW))
  have HSG := Lib.hid (fun (W : World) (hW : LAt W bl col m l) (v : Int) => hW.setGrant hO hk htl v)
  have HGR := Lib.hid (show (m.grant i tt 0).bp = m.bp from rfl)
  have HQG := Lib.hid hkat.qg
  have hsx : (⟨(encCredit p tt u).toArray⟩ : ByteArray).size ≤ 1000000 := by have := encCredit_le p tt u; show (encCredit p tt u).toArray.size ≤ _; simp; omega
  have HSX := Lib.hid hsx
  have HSI := Lib.hid hi
  obtain ⟨bc, hbc⟩ : ∃ x, (m.ks[i]'hk).bc = x := ⟨_, rfl⟩
  obtain ⟨bg, hbg⟩ : ∃ x, (m.ks[i]'hk).bg = x := ⟨_, rfl⟩
  obtain ⟨cc, hcc⟩ : ∃ x, (m.ks[i]'hk).cc = x := ⟨_, rfl⟩
  obtain ⟨cg, hcg⟩ : ∃ x, (m.ks[i]'hk).cg = x := ⟨_, rfl⟩
  obtain ⟨x, hxx⟩ : ∃ x, (m.ks[i]'hk).a.bill.charges.getD tt 0 = x := ⟨_, rfl⟩
  obtain ⟨y, hyy⟩ : ∃ x, (m.ks[i]'hk).a.granted.getD tt 0 = x := ⟨_, rfl⟩
  rw [hbc, hcc] at k4
  rw [hbg, hcg] at k7
  rw [hbc] at kc lc
  rw [hbg] at kg fg lg HSG HQG
  rw [hxx] at kc hx hb1 hb2
  rw [hyy] at kg hx hb2
  have HACC := Lib.hid (show (Bil.accAt l i).granted.getD tt 0 = y from by rw [h.acc hk]; exact hyy)
  obtain ⟨z, hz⟩ : ∃ z, l.pending.getD tt 0 = z := ⟨_, rfl⟩
  rw [hz] at hsm
  have HZ := Lib.hid hz
  have hc1 := h.row.cell 2
  have kp := h.pend.cell tt htl
  have fp := h.pend.free tt htl
  rw [hz] at kp
  have HH := Lib.hid h
  have HTT := Lib.hid hT
  have hn16 := h.n2
  obtain ⟨d, hd⟩ : ∃ d, x - y = d := ⟨_, rfl⟩
  have m1 : IntKind.i64.wrap (x - y) = d := by rw [hd]; exact IntWalk.i64_in _ (by omega)
  rw [hd] at hx
  have n1 : ¬ ((tt : Int) < 0) := by omega
  have n2 : (tt : Int) < (l.n : Int) := by omega
  have n3 : ¬ ((l.n : Int) ≤ (tt : Int)) := by omega
  have n4 : ¬ (u < 1) := by omega
  have HN : Hid (tt < l.n) := Lib.hid htl
  have HP := Lib.hid (And.intro p1 (And.intro p2 (And.intro hu u2)))
  have HX := Lib.hid hx
  by_cases hlt : d < u
  · rw [if_pos hlt] at HX
    generalize l.n = N at *
    clear h hO hS hT hform hkat hA hi hx hbc hbg hcc hcg hxx hyy hz hd hb1 hb2 hsm p1 p2 hu u2 ho hok hsx htl hn16
    go_enter Tryd.func30, Tryd.ntmps30
    go_wp2_with (first
      | (go_at_call 70; refine HA.out.mono ?_; rintro e w1 ⟨rfl, b1⟩; have HB1 := Lib.hid b1; have k4' := (b1.cell (p := ⟨g, o + 3, none⟩) gl).trans k4; have k7' := (b1.cell (p := ⟨g, o + 6, none⟩) gl).trans k7; have kc' := (b1.cell (p := ⟨bc, tt, none⟩) lc).trans kc; have kg' := (b1.cell (p := ⟨bg, tt, none⟩) lg).trans kg; clear k4 k7 kc kg)
      | (go_at_call 43; refine (HT.out _ b1).mono ?_; rintro e w2 ⟨rfl, hw2⟩; rw [hw2]; clear hw2 w2 b1))
    go_quiet (fail)
    go_wp2
    go_ret
    exact CreditRes.err HH.out HX.out (by decide) (below_drewN HB1.out _)
  · rw [if_neg hlt] at HX
    obtain ⟨yu, hyu⟩ : ∃ d, y + u = d := ⟨_, rfl⟩
    obtain ⟨zu, hzu⟩ : ∃ d, z + u = d := ⟨_, rfl⟩
    have m2 : IntKind.i64.wrap (y + u) = yu := by rw [hyu]; exact IntWalk.i64_in _ (by omega)
    have m3 : IntKind.i64.wrap (z + u) = zu := by rw [hzu]; exact IntWalk.i64_in _ (by omega)
    have HYU := Lib.hid (And.intro hyu hzu)
    obtain ⟨N, hNN⟩ : ∃ x, l.n = x := ⟨_, rfl⟩
    rw [hNN] at n2 n3 k4 k7 HT
    have HNN := Lib.hid hNN
    clear h hO hS hT hform hkat hA hi hx hbc hbg hcc hcg hxx hyy hz hd hb1 hb2 hsm p1 p2 hu u2 ho hok hsx htl hn16 hyu hzu kp fp hc1 hNN
    go_enter Tryd.func30, Tryd.ntmps30
    go_wp2_with (first
      | (go_at_call 70; refine HA.out.mono ?_; rintro e w1 ⟨rfl, b1⟩; have HB1 := Lib.hid b1; have k4' := (b1.cell (p := ⟨g, o + 3, none⟩) gl).trans k4; have k7' := (b1.cell (p := ⟨g, o + 6, none⟩) gl).trans k7; have kc' := (b1.cell (p := ⟨bc, tt, none⟩) lc).trans kc; have kg' := (b1.cell (p := ⟨bg, tt, none⟩) lg).trans kg; have fg' := (b1.frozen (p := ⟨bg, tt, none⟩) lg).trans fg; clear k4 k7 kc kg fg)
      | (go_at_call 43; refine (HT.out _ b1).mono ?_; rintro e w2 ⟨rfl, hw2⟩; rw [hw2]; clear hw2 w2 b1))
    go_quiet (fail)
    go_upto_region 8 with fail
    go_cut [] (fun wx => LAt wx bl col (m.grant i tt yu) { l with kept := l.kept.set i ⟨(Bil.accAt l i).bill, (Bil.accAt l i).granted.set tt yu⟩ } ∧ Keep (fun b => col b ≠ 0) w wx)
    case first =>
      go_wp2_with fail
      go_meet
      exact ⟨HSG.out _ ((HH.out.below HB1.out).drewN _) _, (Keep.of_below (below_drewN HB1.out _)).setCell (.inl (by show col bg ≠ 0; rw [HQG.out]; omega)) _⟩
    case rest =>
      obtain ⟨hl2, hkp2⟩ := hcut
      obtain ⟨w2, hw2⟩ : ∃ x, wc = x := ⟨_, rfl⟩
      try rw [hw2] at hl2 hkp2 ⊢
      clear hw2 k4' k7' kc' kg' fg' HA HB1
      have c2 := hl2.row.cell 2
      have kp := hl2.pend.cell tt HN.out
      have fp := hl2.pend.free tt HN.out
      rw [show ({ l with kept := l.kept.set i ⟨(Bil.accAt l i).bill, (Bil.accAt l i).granted.set tt yu⟩ } : Bil.Lg).pending.getD tt 0 = z from HZ.out] at kp
      replace c2 : w2.cell? ⟨bl, 2, none⟩ = some (.slice (some ⟨m.bp, 0, none⟩) N m.cp) := by rw [c2, ← HNN.out]; rfl
      replace kp : w2.cell? ⟨m.bp, tt, none⟩ = some (.int .i64 z) := kp
      replace fp : w2.frozen? ⟨m.bp, tt, none⟩ = false := fp
      have HL2 := Lib.hid hl2
      have HK2 := Lib.hid hkp2
      clear hl2 hkp2
      go_upto_region 9 with fail
      go_cut [] (fun wx => LAt wx bl col (m.grant i tt yu) { l with kept := l.kept.set i ⟨(Bil.accAt l i).bill, (Bil.accAt l i).granted.set tt yu⟩, pending := l.pending.set tt zu } ∧ Keep (fun b => col b ≠ 0) w wx)
      case first =>
        go_wp2_with fail
        go_meet
        exact ⟨HL2.out.setPend HN.out zu, HK2.out.setCell (.inl (by show col m.bp ≠ 0; have := HH.out.cbp; omega)) _⟩
      case rest =>
        obtain ⟨hl3, hkp3⟩ := hcut
        obtain ⟨w3, hw3⟩ : ∃ x, wc = x := ⟨_, rfl⟩
        try rw [hw3] at hl3 hkp3 ⊢
        have HL3 := Lib.hid hl3
        have HK3 := Lib.hid hkp3
        have HE := Lib.hid (encodeCredit_any p tt u HP.out.1 HP.out.2.1 (by omega) (by have := HH.out.n2; have := HN.out; omega) (by have := HP.out.2.2.1; omega) HP.out.2.2.2 w3)
        clear hl3 hkp3 c2 kp fp hw3
        go_wp2_with (first
          | (go_at_call 51; refine HE.out.mono ?_; rintro e w4 ⟨rfl, b4⟩; have HB4 := Lib.hid b4; clear b4)
          | (go_at_call 69; refine (book_any bl col _ _ _ HSX.out w4 (HL3.out.below HB4.out) (HTT.out.keeps (HK3.out.then_below HB4.out) (by have := HH.out.tab.1; omega) (by have := HH.out.tab.2.1; omega))).mono ?_; rintro e w5 ⟨rfl, hl5, hk5⟩; have HL5 := Lib.hid hl5; have HK5 := Lib.hid hk5; clear hl5 hk5))
        go_ret
        refine ⟨by rw [HX.out]; rfl, (HK3.out.then_below HB4.out).trans (HK5.out.mono fun b hb e => by subst e; show col b ≠ 0; have := HH.out.cbl; omega), m.grant i tt yu, ?_⟩
        have e : Bil.creditSt l p tt u = { l with kept := l.kept.set i ⟨(Bil.accAt l i).bill, (Bil.accAt l i).granted.set tt yu⟩, pending := l.pending.set tt zu, head := bookHead l.head ⟨(encCredit p tt u).toArray⟩ } := by
          unfold Bil.creditSt
          rw [if_pos HX.out, HSI.out, Int.toNat_natCast, ← HYU.out.1, ← HYU.out.2, ← HACC.out, ← HZ.out]
          rfl
        rw [e]
        exact HL5.out
/-- Credit, at whatever arguments -/
theorem credit_any (h : LAt w bl col m l) (hO : Bil.Ok l) (hS : Bil.Sm l 1152921504606846976) (hT : Tabs w) (p1 : -9223372036854775808 ≤ p) (p2 : p ≤ 9223372036854775807) (u2 : u ≤ 9223372036854775807) :
    Calls Tryd.prog 30 #[.pointer (some ⟨bl, 0, none⟩), .int .i64 p, .int .i64 t, .int .i64 u] w (CreditRes w bl col l p t u) := by
  cases hi : Bil.idx l p with
  | none => exact credit_none bl col m l p t u w h p1 p2 hi
  | some i =>
    by_cases hbad : t < 0 ∨ (l.n : Int) ≤ t ∨ u < 1
    · exact credit_arg bl col m l p t u w h i hi hbad
    · exact credit_in bl col m l p t u w h hO hS hT p1 p2 u2 i t.toNat (by omega) (by omega) (by omega) hi
end
end
/-! Layer 35: what Close leaves of a ledger in memory: a kept account more, the eldest dropped; the state of Close's second loop. Conditions: the ledger reads as told. -/
section
open Go.RowKit
section
variable {w w' W wd : World} {col : Nat → Nat} {n bl : Nat} {m : LM} {l : Bil.Lg}
/-- where the lists of a new account lie -/
structure KNew (wd : World) (Bs n gk : Nat) (kn : KA) : Prop where
  c : FRow wd kn.bc n (fun t => kn.a.bill.charges.getD t 0)
  r : FRow wd kn.br n (fun t => kn.a.bill.credits.getD t 0)
  t : FRow wd kn.bt n (fun t => kn.a.bill.nets.getD t 0)
  g : FRow wd kn.bg n (fun t => kn.a.granted.getD t 0)
  lc : kn.a.bill.charges.length = n
  lr : kn.a.bill.credits.length = n
  lt : kn.a.bill.nets.length = n
  lg : kn.a.granted.length = n
  bc : Bs ≤ kn.bc
  br : Bs ≤ kn.br
  bt : Bs ≤ kn.bt
  bg : Bs ≤ kn.bg
  ncg : kn.bc ≠ gk
  nrg : kn.br ≠ gk
  ntg : kn.bt ≠ gk
  ngg : kn.bg ≠ gk
  ncb : kn.bg ≠ kn.bc
  nrb : kn.bg ≠ kn.br
  ntb : kn.bg ≠ kn.bt
theorem LAt.pushed (h : LAt W bl col m l) (hk : Keep (fun q => q = bl ∨ ∃ a, m.A = some a ∧ q = a.block) W wd) (Bs : Nat) (hz : ∀ b, Bs ≤ b → col b = 0)
    (ht : 2 < Bs ∧ 0 < Bs ∧ 1 < Bs) (kn : KA) (g off c' d : Nat) (hn : KNew wd Bs l.n g kn)
    (hrow' : KRow wd l.n (some ⟨g, off, none⟩) c' ((m.ks ++ [kn]).drop d)) (hlen : ((m.ks ++ [kn]).drop d).length ≤ 16) (hg : (∃ o, m.A = some ⟨g, o, none⟩) ∨ Bs ≤ g) (hgl : g < wd.heap.size)
    (hr : IsRow wd bl 71 (.int .i64 (l.periods : Int) :: .slice (some ⟨g, off, none⟩) ((m.ks ++ [kn]).drop d).length c' :: .slice (some ⟨m.bp, 0, none⟩) l.n m.cp :: .slice (some ⟨m.bq, 0, none⟩) l.n m.cq :: bvs l.head)) :
    ∃ col', LAt wd bl col' ⟨some ⟨g, off, none⟩, c', (m.ks ++ [kn]).drop d, m.bp, m.cp, m.bq, m.cq⟩ { l with kept := (l.kept ++ [kn.a]).drop d } ∧ ∀ b, col' b ≠ 0 → col b ≠ 0 ∨ (Bs ≤ b ∧ (b = g ∨ b = kn.bc ∨ b = kn.br ∨ b = kn.bt ∨ b = kn.bg)) := by
  have hg4 : col g = 4 ∨ col g = 0 := by
    rcases hg with ⟨o, ho⟩ | hg
    · exact .inl (h.cka _ ho)
    · exact .inr (hz g hg)
  have z1 := hz _ hn.bc
  have z2 := hz _ hn.br
  have z3 := hz _ hn.bt
  have z4 := hz _ hn.bg
  let col' : Nat → Nat := fun b => if b = g then 4 else if b = kn.bc ∨ b = kn.br ∨ b = kn.bt then 5 else if b = kn.bg then 6 + kn.a.bill.period.toNat else col b
  have hc : ∀ b q, col b = q → q ≠ 0 → q ≠ 4 → col' b = q := fun b q hq h0 h4 => by
    have e1 : b ≠ g := fun e => by subst e; omega
    have e2 : ¬ (b = kn.bc ∨ b = kn.br ∨ b = kn.bt) := fun e => by rcases e with e | e | e <;> (subst e; omega)
    have e3 : b ≠ kn.bg := fun e => by subst e; omega
    show (if b = g then 4 else if b = kn.bc ∨ b = kn.br ∨ b = kn.bt then 5 else if b = kn.bg then 6 + kn.a.bill.period.toNat else col b) = q
    rw [if_neg e1, if_neg e2, if_neg e3, hq]
  have h5 : ∀ b, b ≠ g → (b = kn.bc ∨ b = kn.br ∨ b = kn.bt) → col' b = 5 := fun b e1 e2 => by
    show (if b = g then 4 else if b = kn.bc ∨ b = kn.br ∨ b = kn.bt then 5 else if b = kn.bg then 6 + kn.a.bill.period.toNat else col b) = 5
    rw [if_neg e1, if_pos e2]
  have h6 : col' kn.bg = 6 + kn.a.bill.period.toNat := by
    have e2 : ¬ (kn.bg = kn.bc ∨ kn.bg = kn.br ∨ kn.bg = kn.bt) := fun e => by rcases e with e | e | e; · exact hn.ncb e
                                                                               · exact hn.nrb e
                                                                               · exact hn.ntb e
    show (if kn.bg = g then 4 else if kn.bg = kn.bc ∨ kn.bg = kn.br ∨ kn.bg = kn.bt then 5 else if kn.bg = kn.bg then 6 + kn.a.bill.period.toNat else col kn.bg) = _
    rw [if_neg hn.ngg, if_neg e2, if_pos rfl]
  have hg' : col' g = 4 := by show (if g = g then 4 else _) = 4; rw [if_pos rfl]
  have f : ∀ b q, col b = q → q ≠ 1 → q ≠ 4 → ¬ (b = bl ∨ ∃ a, m.A = some a ∧ b = a.block) := fun b q hq h0 h4 hS => by
    rcases hS with e | ⟨a, ha, e⟩
    · subst e; rw [h.cbl] at hq; omega
    · subst e; rw [h.cka a ha] at hq; omega
  have hkl : l.kept ++ [kn.a] = (m.ks ++ [kn]).map KA.a := by rw [h.kept]; simp
  refine ⟨col', ⟨hr, h.h16, h.n1, h.n2, h.per, hlen, h.pend.keeps hk (f _ _ h.cbp (by omega) (by omega)), h.paid.keeps hk (f _ _ h.cbq (by omega) (by omega)), h.lp, h.lq, ?_, hrow', fun k hk' => ?_, hc _ _ h.cbl (by omega) (by omega), hc _ _ h.cbp (by omega) (by omega), hc _ _ h.cbq (by omega) (by omega), fun a ha => ?_, fun k hk' => ?_, ?_, ?_, ?_⟩, fun b hb => ?_⟩
  · show (l.kept ++ [kn.a]).drop d = List.map KA.a ((m.ks ++ [kn]).drop d)
    rw [hkl, List.map_drop]
  · have hk2 := List.mem_of_mem_drop hk'
    rcases List.mem_append.1 hk2 with hm | hm
    · have x := h.kat k hm
      exact ⟨x.c.keeps hk (f _ _ x.qc (by omega) (by omega)), x.r.keeps hk (f _ _ x.qr (by omega) (by omega)), x.t.keeps hk (f _ _ x.qt (by omega) (by omega)), x.g.keeps hk (f _ _ x.qg (by omega) (by omega)), x.lc, x.lr, x.lt, x.lg, hc _ _ x.qc (by omega) (by omega), hc _ _ x.qr (by omega) (by omega), hc _ _ x.qt (by omega) (by omega), hc _ _ x.qg (by omega) (by omega)⟩
    · obtain rfl := List.mem_singleton.1 hm
      exact ⟨hn.c, hn.r, hn.t, hn.g, hn.lc, hn.lr, hn.lt, hn.lg, h5 _ hn.ncg (.inl rfl), h5 _ hn.nrg (.inr (.inl rfl)), h5 _ hn.ntg (.inr (.inr rfl)), h6⟩
  · obtain rfl := Option.some.inj ha; exact hg'
  · by_cases e1 : k = g
    · subst e1; exact hgl
    · by_cases e2 : k = kn.bc ∨ k = kn.br ∨ k = kn.bt
      · rcases e2 with e | e | e <;> subst e
        · exact hn.c.lt
        · exact hn.r.lt
        · exact hn.t.lt
      · by_cases e3 : k = kn.bg
        · subst e3; exact hn.g.lt
        · have : col' k = col k := by
            show (if k = g then 4 else if k = kn.bc ∨ k = kn.br ∨ k = kn.bt then 5 else if k = kn.bg then 6 + kn.a.bill.period.toNat else col k) = _
            rw [if_neg e1, if_neg e2, if_neg e3]
          rw [this] at hk'
          exact Nat.lt_of_lt_of_le (h.lt k hk') hk.size
  all_goals first
    | (have hgb := hg4
       have t1 := h.tab
       have b1 := hn.bc; have b2 := hn.br; have b3 := hn.bt; have b4 := hn.bg
       have hgn : ∀ x, x < Bs → col x = 0 → x ≠ g := fun x hx hx0 e => by
         subst e
         rcases hg with ⟨o, ho⟩ | hg
         · have := h.cka _ ho
           simp only at this
           omega
         · omega
       have key : ∀ x, x < Bs → col x = 0 → col' x = 0 := fun x hx hx0 => by
         show (if x = g then 4 else if x = kn.bc ∨ x = kn.br ∨ x = kn.bt then 5 else if x = kn.bg then 6 + kn.a.bill.period.toNat else col x) = 0
         rw [if_neg (hgn x hx hx0), if_neg (by omega), if_neg (by omega), hx0]
       first
         | exact key _ ht.1 t1.1
         | exact key _ ht.2.1 t1.2.1
         | exact key _ ht.2.2 t1.2.2)
    | (by_cases e1 : b = g
       · subst e1
         rcases hg with ⟨o, ho⟩ | hg
         · exact .inl (by have := h.cka _ ho; simp only at this; omega)
         · exact .inr ⟨hg, .inl rfl⟩
       · by_cases e2 : b = kn.bc ∨ b = kn.br ∨ b = kn.bt
         · rcases e2 with e | e | e <;> subst e
           · exact .inr ⟨hn.bc, .inr (.inl rfl)⟩
           · exact .inr ⟨hn.br, .inr (.inr (.inl rfl))⟩
           · exact .inr ⟨hn.bt, .inr (.inr (.inr (.inl rfl)))⟩
         · by_cases e3 : b = kn.bg
           · subst e3; exact .inr ⟨hn.bg, .inr (.inr (.inr (.inr rfl)))⟩
           · have : col' b = col b := by
               show (if b = g then 4 else if b = kn.bc ∨ b = kn.br ∨ b = kn.bt then 5 else if b = kn.bg then 6 + kn.a.bill.period.toNat else col b) = _
               rw [if_neg e1, if_neg e2, if_neg e3]
             rw [this] at hb
             exact .inl hb)
/-! The second loop of Close -/
/-- the first k elements turned -/
def mixL (f : Int → Int → Int) (a b : List Int) (k : Nat) : List Int := (List.zipWith f a b).take k ++ a.drop k
theorem mixL_get (f : Int → Int → Int) (a b : List Int) (k : Nat) (h : a.length = b.length) (hk : k < a.length) : (mixL f a b k).getD k 0 = a.getD k 0 := by
  unfold mixL List.getD
  rw [List.getElem?_append_right (by simp only [List.length_take, List.length_zipWith]; omega), List.length_take, List.length_zipWith, List.getElem?_drop, show k + (k - min k (min a.length b.length)) = k by omega]
theorem mixL_step (f : Int → Int → Int) (a b : List Int) (k : Nat) (h : a.length = b.length) (hk : k < a.length) : (mixL f a b k).set k (f (a.getD k 0) (b.getD k 0)) = mixL f a b (k + 1) := by
  have h1 : ((List.zipWith f a b).take k).length = k := by simp only [List.length_take, List.length_zipWith]; omega
  have hz : k < (List.zipWith f a b).length := by rw [List.length_zipWith]; omega
  unfold mixL
  rw [List.set_append_right _ _ (by omega), h1, Nat.sub_self, List.drop_eq_getElem_cons hk, List.set_cons_zero, List.take_succ_eq_append_getElem hz, List.append_assoc, List.getElem_zipWith]
  simp [List.getD, hk, show k < b.length by omega]
theorem mixL_zero (f : Int → Int → Int) (a b : List Int) : mixL f a b 0 = a := by simp [mixL]
theorem mixL_full (f : Int → Int → Int) (a b : List Int) (h : a.length = b.length) (k : Nat) (hk : k = a.length) : mixL f a b k = List.zipWith f a b := by
  subst hk; simp [mixL, List.take_of_length_le, h]
/-- the state between two rounds: base Bs: the memory that was there at the call; b15: the new bill -/
structure CSt (w W : World) (bl b15 B4 B0 B : Nat) (col : Nat → Nat) (m : LM) (l : Bil.Lg) (L15 : List Value) (A4 : Option Addr) (k4 c4 : Nat) (X4 : List Int) (A5 : Option Addr) (k5 c5 : Nat) (X5 : List Int) (A : Option Addr) (n : Nat) (C : List Int) : Prop where
  lat : LAt W bl col m l
  row : IsRow W b15 31 L15
  own4 : W.ownsRow B4 3 1 (.slice A4 k4 c4) k4 (ivs X4)
  own5 : W.ownsRow B4 3 1 (.slice A5 k5 c5) k5 (ivs X5)
  d45 : ∀ a b, A4 = some a → A5 = some b → a.block ≠ b.block
  rd : Rd W B 1 A n (ivs C)
  rdc : ∀ a, A = some a → col a.block = 0
  keep : Keep (fun q => col q ≠ 0 ∨ q = b15) w W
  hB : B ≤ B0
  h15 : B0 ≤ b15
  hw : w.heap.size ≤ B4
  h4 : b15 < B4
  hb4 : B4 ≤ W.heap.size
  hlt : ∀ q, col q ≠ 0 → q < B0
section
variable {b15 B4 B0 B : Nat} {L15 : List Value} {A4 A5 : Option Addr} {k4 c4 k5 c5 : Nat} {X4 X5 : List Int} {A : Option Addr} {C : List Int}
theorem own_above {base size n c : Nat} {e : TypeId} {A : Option Addr} {xs : List Value} (h : w.ownsRow base e size (.slice A n c) n xs) {k : Nat} (hk : (Value.slice A n c).ownBlock = some k) : base ≤ k ∧ k < w.heap.size := by
  have := h.lt k hk
  exact ⟨this.1, this.2⟩
/-- a step that leaves all old blocks but q0, which lies behind b15 -/
theorem CSt.turn (h : CSt w W bl b15 B4 B0 B col m l L15 A4 k4 c4 X4 A5 k5 c5 X5 A n C) {q0 : Option Nat} (hg : W.grownBy wd q0) (hq : ∀ q, q0 = some q → B4 ≤ q) :
    LAt wd bl col m l ∧ IsRow wd b15 31 L15 ∧ Rd wd B 1 A n (ivs C) ∧ Keep (fun q => col q ≠ 0 ∨ q = b15) w wd := by
  have hk : Keep (fun k => q0 = some k) W wd := Keep.of_grown hg (fun k e => e)
  have hlt := h.hlt; have h15 := h.h15; have h4 := h.h4; have hB := h.hB; have hw := h.hw; have hb4 := h.hb4
  have hks := h.keep.size
  refine ⟨h.lat.keeps hk fun b hb => ?_, h.row.keep (hk.block b15 h.row.lt fun e => by have := hq _ e; omega), h.rd.keep fun p hp => World.cell?_of_block (hk.block p.block (by omega) fun e => by have := hq _ e; omega), h.keep.grown hg fun k e => .inr (by have := hq k e; omega)⟩
  have := hq b hb
  rcases Nat.eq_zero_or_pos (col b) with h0 | h0
  · exact h0
  · have := hlt b (by omega); omega
theorem CSt.below (h : CSt w W bl b15 B4 B0 B col m l L15 A4 k4 c4 X4 A5 k5 c5 X5 A n C) (hb : Below W.heap.size W wd) : CSt w wd bl b15 B4 B0 B col m l L15 A4 k4 c4 X4 A5 k5 c5 X5 A n C := by
  obtain ⟨h1, h2, h3, h4⟩ := h.turn (grownBy_of_below hb) (fun q e => by cases e)
  exact ⟨h1, h2, own_below h.own4 hb, own_below h.own5 hb, h.d45, h3, h.rdc, h4, h.hB, h.h15, h.hw, h.h4, Nat.le_trans h.hb4 hb.size, h.hlt⟩
theorem CSt.app4 (h : CSt w W bl b15 B4 B0 B col m l L15 A4 k4 c4 X4 A5 k5 c5 X5 A n C) {A' : Option Addr} {k' c' : Nat} {X' : List Int} (ho : wd.ownsRow B4 3 1 (.slice A' k' c') k' (ivs X')) (hg : W.grownBy wd (Value.slice A4 k4 c4).ownBlock) (hA : A' = A4 ∨ ∃ a, A' = some a ∧ a.block = W.heap.size) :
    CSt w wd bl b15 B4 B0 B col m l L15 A' k' c' X' A5 k5 c5 X5 A n C := by
  obtain ⟨h1, h2, h3, h4⟩ := h.turn hg (fun q e => (own_above h.own4 e).1)
  have o5 : wd.ownsRow B4 3 1 (.slice A5 k5 c5) k5 (ivs X5) := h.own5.kept hg (by
    cases hv : (Value.slice A5 k5 c5).ownBlock with
    | none => exact .inl rfl
    | some k =>
      refine .inr fun e => ?_
      cases A4 with
      | none => cases e
      | some a4 =>
        cases A5 with
        | none => cases hv
        | some a5 => exact h.d45 a4 a5 rfl rfl (by simp [Value.ownBlock] at e hv; omega))
  refine ⟨h1, h2, ho, o5, fun a b ha hb => ?_, h3, h.rdc, h4, h.hB, h.h15, h.hw, h.h4, Nat.le_trans h.hb4 hg.size, h.hlt⟩
  rcases hA with e | ⟨a', e, hbk⟩
  · exact h.d45 a b (e ▸ ha) hb
  · rw [e] at ha
    obtain rfl := Option.some.inj ha
    rw [hbk]
    subst hb
    have := (own_above h.own5 (k := b.block) (by simp [Value.ownBlock])).2
    omega
theorem CSt.app5 (h : CSt w W bl b15 B4 B0 B col m l L15 A4 k4 c4 X4 A5 k5 c5 X5 A n C) {A' : Option Addr} {k' c' : Nat} {X' : List Int} (ho : wd.ownsRow B4 3 1 (.slice A' k' c') k' (ivs X')) (hg : W.grownBy wd (Value.slice A5 k5 c5).ownBlock) (hA : A' = A5 ∨ ∃ a, A' = some a ∧ a.block = W.heap.size) :
    CSt w wd bl b15 B4 B0 B col m l L15 A4 k4 c4 X4 A' k' c' X' A n C := by
  obtain ⟨h1, h2, h3, h4⟩ := h.turn hg (fun q e => (own_above h.own5 e).1)
  have o4 : wd.ownsRow B4 3 1 (.slice A4 k4 c4) k4 (ivs X4) := h.own4.kept hg (by
    cases hv : (Value.slice A4 k4 c4).ownBlock with
    | none => exact .inl rfl
    | some k =>
      refine .inr fun e => ?_
      cases A4 with
      | none => cases hv
      | some a4 =>
        cases A5 with
        | none => cases e
        | some a5 => exact h.d45 a4 a5 rfl rfl (by simp [Value.ownBlock] at e hv; omega))
  refine ⟨h1, h2, o4, ho, fun a b ha hb => ?_, h3, h.rdc, h4, h.hB, h.h15, h.hw, h.h4, Nat.le_trans h.hb4 hg.size, h.hlt⟩
  rcases hA with e | ⟨a', e, hbk⟩
  · exact h.d45 a b ha (e ▸ hb)
  · rw [e] at hb
    obtain rfl := Option.some.inj hb
    rw [hbk]
    subst ha
    have := (own_above h.own4 (k := a.block) (by simp [Value.ownBlock])).2
    omega
theorem CSt.set15 (h : CSt w W bl b15 B4 B0 B col m l L15 A4 k4 c4 X4 A5 k5 c5 X5 A n C) (o : Nat) (v : Value) : CSt w (W.setCell ⟨b15, o, none⟩ v) bl b15 B4 B0 B col m l (L15.set o v) A4 k4 c4 X4 A5 k5 c5 X5 A n C := by
  have hk : Keep (fun k => k = b15) W (W.setCell ⟨b15, o, none⟩ v) := Keep.of_grown (grown_setCell _ _ _ _) (fun k e => (Option.some.inj e).symm)
  have hlt := h.hlt; have h15 := h.h15; have h4 := h.h4; have hB := h.hB; have hw := h.hw; have hb4 := h.hb4
  have hks := h.keep.size
  have z : (W.setCell ⟨b15, o, none⟩ v).heap.size = W.heap.size := by simp
  refine ⟨h.lat.keeps hk fun b hb => ?_, h.row.set o v, own_far h.own4 (grown_setCell _ _ _ _) h4, own_far h.own5 (grown_setCell _ _ _ _) h4, h.d45, h.rd.keep fun p hp => World.cell?_of_block (hk.block p.block (by omega) fun e => by omega), h.rdc, h.keep.setCell (.inl (.inr rfl)) _, hB, h15, hw, h4, by rw [z]; exact h.hb4, hlt⟩
  rcases Nat.eq_zero_or_pos (col b) with h0 | h0
  · exact h0
  · have := hlt b (by omega); omega
/-- a store into a block of the ledger's -/
theorem CSt.setL (h : CSt w W bl b15 B4 B0 B col m l L15 A4 k4 c4 X4 A5 k5 c5 X5 A n C) {q : Nat} (hq : col q ≠ 0) (t : Nat) (v : Value) {l' : Bil.Lg} {m' : LM} (hl : LAt (W.setCell ⟨q, t, none⟩ v) bl col m' l') : CSt w (W.setCell ⟨q, t, none⟩ v) bl b15 B4 B0 B col m' l' L15 A4 k4 c4 X4 A5 k5 c5 X5 A n C := by
  have hk : Keep (fun k => k = q) W (W.setCell ⟨q, t, none⟩ v) := Keep.of_grown (grown_setCell _ _ _ _) (fun k e => (Option.some.inj e).symm)
  have hlt := h.hlt; have h15 := h.h15; have h4 := h.h4; have hB := h.hB; have hw := h.hw; have hb4 := h.hb4
  have hql := hlt q hq
  have z : (W.setCell ⟨q, t, none⟩ v).heap.size = W.heap.size := by simp
  have hks := h.keep.size
  refine ⟨hl, h.row.keep (hk.block b15 h.row.lt fun e => by omega), own_far h.own4 (grown_setCell _ _ _ _) (by omega), own_far h.own5 (grown_setCell _ _ _ _) (by omega), h.d45, ?_, h.rdc, h.keep.setCell (.inl (.inl hq)) _, hB, h15, hw, h4, by rw [z]; exact h.hb4, hlt⟩
  exact h.rd.keepS hk (by omega) fun a ha e => hq (e ▸ h.rdc a ha)
end
end
end
/-! Layer 35's Close where its arguments are refused. Conditions: at most 1000 charges, numbers of 64 bits. -/
section
open Go.RowKit
/-- the bill that is none -/
def zBill : Value := .agg #[.int .i64 0, .int .i64 0, .int .i64 0, .slice none 0 0, .slice none 0 0, .slice none 0 0]
def Z6 : List Value := [.int .i64 0, .int .i64 0, .int .i64 0, .slice none 0 0, .slice none 0 0, .slice none 0 0]
set_option maxHeartbeats 800000 in
theorem fits_any (x : Int) (w : World) : Calls Tryd.prog 68 #[.int .i64 x] w fun e w' => e = .returned (.bool (Bil.fits x)) ∧ w' = w := by
  by_cases h1 : x < 0
  · have e : Bil.fits x = false := by unfold Bil.fits; rw [decide_eq_false_iff_not]; omega
    rw [e]
    go_enter Tryd.func68, Tryd.ntmps68
    go_wp2
    go_ret
    exact ⟨rfl, rfl⟩
  · by_cases h2 : 1099511627776 < x
    · have e : Bil.fits x = false := by unfold Bil.fits; rw [decide_eq_false_iff_not]; omega
      rw [e]
      go_enter Tryd.func68, Tryd.ntmps68
      go_wp2
      go_ret
      exact ⟨by show Ending.returned (.bool (decide (x ≤ 1099511627776))) = _; rw [decide_eq_false (by omega)], rfl⟩
    · have e : Bil.fits x = true := by unfold Bil.fits; rw [decide_eq_true_iff]; omega
      rw [e]
      go_enter Tryd.func68, Tryd.ntmps68
      go_wp2
      go_ret
      exact ⟨rfl, rfl⟩
theorem rd_int {w : World} {B n : Nat} {A : Option Addr} {l : List Int} (h : Rd w B 1 A n (ivs l)) (hl : l.length = n) (h0 : 0 < n) : ∃ b off, A = some ⟨b, off, none⟩ ∧ b < B ∧ ∀ k, k < n → w.cell? ⟨b, off + k, none⟩ = some (.int .i64 (l.getD k 0)) := by
  obtain ⟨b, off, e, hb, hc⟩ := h.2 h0
  refine ⟨b, off, e, hb, fun k hk => hc k _ ?_⟩
  simp [ivs, List.getD, show k < l.length by omega]
theorem fits_range {x : Int} (h : Bil.fits x = true) : 0 ≤ x ∧ x ≤ 1099511627776 := by simpa [Bil.fits] using h
/-- the sum of the first k elements -/
def sumK (C : List Int) (k : Nat) : Int := (C.take k).sum
theorem sumK_step (C : List Int) (k : Nat) (h : k < C.length) : sumK C (k + 1) = sumK C k + C.getD k 0 := by
  unfold sumK
  rw [List.take_succ_eq_append_getElem h, List.sum_append]
  simp [List.getD, h]
theorem sumK_bound (C : List Int) : ∀ k, k ≤ C.length → (∀ j, j < k → Bil.fits (C.getD j 0) = true) → 0 ≤ sumK C k ∧ sumK C k ≤ 1099511627776 * k
  | 0, _, _ => by simp [sumK]
  | k + 1, hk, h => by
    have ih := sumK_bound C k (by omega) (fun j hj => h j (by omega))
    have := fits_range (h k (by omega))
    rw [sumK_step C k (by omega)]
    omega
set_option maxRecDepth 100000 in
set_option maxHeartbeats 3200000 in
theorem close_bad (bl : Nat) (col : Nat → Nat) (m : LM) (l : Bil.Lg) (md hs : Int) (h1 : -9223372036854775808 ≤ hs) (h2 : hs ≤ 9223372036854775807) (A : Option Addr) (n0 c : Nat) (C : List Int) (hC : C.length = n0) (hn : n0 ≤ 1000) (B : Nat) (w : World) (h : LAt w bl col m l) (rd : Rd w B 1 A n0 (ivs C)) (hB : B ≤ w.heap.size)
    (hbad : ¬ Bil.CloseOk l md hs C) :
    Calls Tryd.prog 29 #[.pointer (some ⟨bl, 0, none⟩), .int .i64 md, .int .i64 hs, .slice A n0 c] w fun e w' => e = .returned (.tuple #[zBill, .int .i64 1]) ∧ Below w.heap.size w w' := by
  have q8 := IsRow.new w 31 Z6
  have hb8 : Below w.heap.size w (w.alloc (.cells Z6.toArray 31)) := (Below.refl _ _).alloc (Nat.le_refl _) _
  obtain ⟨w8, hw8⟩ : ∃ x, w.alloc (.cells Z6.toArray 31) = x := ⟨_, rfl⟩
  rw [hw8] at q8 hb8
  have HW8 := Lib.hid (show w.alloc (.cells #[.int .i64 0, .int .i64 0, .int .i64 0, .slice none 0 0, .slice none 0 0, .slice none 0 0] 31) = w8 from hw8)
  have HT := Lib.hid (tenants_any bl col m l w8 (h.below hb8))
  have rd8 := rd.below (hb8.mono hB)
  obtain ⟨b8, hb8'⟩ : ∃ x, w.heap.size = x := ⟨_, rfl⟩
  have HB8 := Lib.hid (And.intro hb8 (show w.heap.size ≤ b8 from Nat.le_of_eq hb8'))
  have HBE := Lib.hid hb8'
  rw [hb8'] at q8
  have HQ8 := Lib.hid q8
  obtain ⟨N, hN⟩ : ∃ x, l.n = x := ⟨_, rfl⟩
  rw [hN] at HT
  obtain ⟨ok0, hok0⟩ : ∃ x, (decide (n0 = N) && Bil.fits md && Bil.fits hs) = x := ⟨_, rfl⟩
  have HOK := Lib.hid hok0
  have HBAD : Hid (ok0 = true → (∀ j, j < n0 → Bil.fits (C.getD j 0) = true) → hs + sumK C n0 ≠ md) := Lib.hid (fun e hf hs' => by
    rw [e] at hok0
    simp only [Bool.and_eq_true, decide_eq_true_eq] at hok0
    refine hbad ⟨by rw [hC, hok0.1.1, hN], hok0.1.2, hok0.2, fun x hx => ?_, ?_⟩
    · obtain ⟨j, hj, rfl⟩ := List.mem_iff_getElem.1 hx
      have := hf j (by omega)
      simpa [List.getD, hj] using this
    · rw [← hs']; unfold sumK; rw [List.take_of_length_le (by omega)])
  have HF := Lib.hid (fun x => fits_any x w8)
  have HC := Lib.hid hC
  have HR := Lib.hid rd8
  have HH := Lib.hid (And.intro h1 h2)
  have HHF : Hid (ok0 = true → 0 ≤ hs ∧ hs ≤ 1099511627776) := Lib.hid (fun e => by rw [e] at hok0; simp only [Bool.and_eq_true] at hok0; exact fits_range hok0.2)
  clear h rd hB hbad hw8 q8 hb8 hb8' rd8 hN hok0 hC h1 h2
  go_enter Tryd.func29, Tryd.ntmps29
  go_upto_region 2 with fail
  rw [show _ = w8 from HW8.out, show w.heap.size = b8 from HBE.out]
  go_cut [11, 12] (fun u11 u12 wx => u11 = .int .i64 hs ∧ u12 = .bool ok0 ∧ wx = w8)
  case first =>
    by_cases e1 : n0 = N
    · subst e1
      cases e2 : Bil.fits md with
      | false =>
        have e : ok0 = false := by rw [← HOK.out, e2]; simp
        subst e
        go_wp2_with (first
          | (go_at_call 43; refine HT.out.mono ?_; rintro e w2 ⟨rfl, hw2⟩; rw [hw2]; clear hw2 w2)
          | (go_at_call 68; refine (HF.out md).mono ?_; rintro e w2 ⟨rfl, hw2⟩; rw [hw2, e2]; clear hw2 w2))
        go_meet
        exact ⟨rfl, rfl, rfl⟩
      | true =>
        have e : ok0 = Bil.fits hs := by rw [← HOK.out, e2]; simp
        subst e
        go_wp2_with (first
          | (go_at_call 43; refine HT.out.mono ?_; rintro e w2 ⟨rfl, hw2⟩; rw [hw2]; clear hw2 w2)
          | (go_at_call 68; refine (HF.out md).mono ?_; rintro e w2 ⟨rfl, hw2⟩; rw [hw2, e2]; clear hw2 w2)
          | (go_at_call 68; refine (HF.out hs).mono ?_; rintro e w2 ⟨rfl, hw2⟩; rw [hw2]; clear hw2 w2))
        go_meet
        exact ⟨rfl, rfl, rfl⟩
    · have e : ok0 = false := by rw [← HOK.out]; simp [e1]
      subst e
      have e2 : ¬ ((n0 : Int) = (N : Int)) := by omega
      have e3 : ((n0 : Int) == (N : Int)) = false := by rw [beq_eq_false_iff_ne]; exact e2
      go_wp2_with (go_at_call 43; refine HT.out.mono ?_; rintro e w2 ⟨rfl, hw2⟩; rw [hw2]; clear hw2 w2)
      go_meet
      exact ⟨rfl, rfl, rfl⟩
  case rest =>
    obtain ⟨rfl, rfl, hwc⟩ := hcut
    rw [hwc]
    clear hwc
    go_wp2_with fail
    go_loopw [11, 12, 37] (fun u11 u12 u37 wr => ∃ k : Nat, k ≤ n0 ∧ u37 = .int .i64 k ∧ u11 = .int .i64 (hs + sumK C k) ∧ u12 = .bool ok0 ∧ (ok0 = false → k = 0) ∧ Hid (∀ j, j < k → Bil.fits (C.getD j 0) = true) ∧ wr = w8) (fun _ _ u37 _ => n0 - (intOf u37).toNat)
    case atStart => exact ⟨0, Nat.zero_le _, rfl, by simp [sumK], rfl, fun _ => rfl, Lib.hid (fun j hj => by omega), rfl⟩
    case round =>
      obtain ⟨k, hk, rfl, rfl, rfl, hk0, HFK, hwr⟩ := hrel
      subst hwr
      have HK0 := Lib.hid hk0
      clear hk0
      by_cases hlt : k < n0
      · have hck := rd_int HR.out HC.out (by omega)
        obtain ⟨b, off, rfl, _, hc⟩ := hck
        have hck := hc k hlt
        have i0 : (0 : Int) ≤ (k : Int) := by omega
        have i1 : (k : Int) < (n0 : Int) := by omega
        obtain ⟨x, hx⟩ : ∃ x, C.getD k 0 = x := ⟨_, rfl⟩
        rw [hx] at hck
        have HX := Lib.hid hx
        clear hc hx
        cases ok0 with
        | false =>
          go_wp2_with (first
            | (go_at_call 68; refine (HF.out x).mono ?_; rintro e w2 ⟨rfl, hw2⟩; rw [hw2]; clear hw2 w2)
            | (refine wpList_storeRow rfl _ (.tmp 8) (.tmp 61) rfl (l' := Z6) HQ8.out rfl rfl size6 rfl rfl ?_; intro w9 r9 g9 z9))
          exact bodyPost_ret (resultRowST rfl _ _ r9 rfl Tryd.underlying31 size6) rfl ⟨rfl, HB8.out.1.grown g9 HB8.out.1.size (by intro j hj; have hj := Option.some.inj hj; have := HB8.out.2; omega)⟩
        | true =>
          cases ef : Bil.fits x with
          | false =>
            go_wp2_with (first
              | (go_at_call 68; refine (HF.out x).mono ?_; rintro e w2 ⟨rfl, hw2⟩; rw [hw2, ef]; clear hw2 w2)
              | (refine wpList_storeRow rfl _ (.tmp 8) (.tmp 61) rfl (l' := Z6) HQ8.out rfl rfl size6 rfl rfl ?_; intro w9 r9 g9 z9))
            exact bodyPost_ret (resultRowST rfl _ _ r9 rfl Tryd.underlying31 size6) rfl ⟨rfl, HB8.out.1.grown g9 HB8.out.1.size (by intro j hj; have hj := Option.some.inj hj; have := HB8.out.2; omega)⟩
          | true =>
            have hhs := HHF.out rfl
            have hsk := sumK_bound C k (by have := HC.out; omega) HFK.out
            have hfx := fits_range ef
            have hstep := sumK_step C k (by have := HC.out; omega)
            rw [HX.out] at hstep
            obtain ⟨s, hs'⟩ : ∃ s, hs + sumK C k = s := ⟨_, rfl⟩
            rw [hs']
            obtain ⟨sx, hsx⟩ : ∃ y, s + x = y := ⟨_, rfl⟩
            have m1 : IntKind.i64.wrap (s + x) = sx := by rw [hsx]; exact IntWalk.i64_in _ (by omega)
            have HS' := Lib.hid (show hs + sumK C (k + 1) = sx from by omega)
            clear hhs hsk hfx hstep hs' hsx
            go_wp2_with (first
              | (go_at_call 68; refine (HF.out x).mono ?_; rintro e w2 ⟨rfl, hw2⟩; rw [hw2, ef]; clear hw2 w2))
            go_roundw
            case rel =>
              refine ⟨k + 1, by omega, by go_num, by rw [HS'.out], rfl, fun h => (by cases h), Lib.hid fun j hj => ?_, trivial⟩
              by_cases e : j = k
              · subst e; rw [HX.out]; exact ef
              · exact HFK.out j (by omega)
            case measure => simp [intOf]; omega
      · obtain rfl : k = n0 := by omega
        cases ok0 with
        | false =>
          go_wp2_with (refine wpList_storeRow rfl _ (.tmp 8) (.tmp 61) rfl (l' := Z6) HQ8.out rfl rfl size6 rfl rfl ?_; intro w9 r9 g9 z9)
          exact bodyPost_ret (resultRowST rfl _ _ r9 rfl Tryd.underlying31 size6) rfl ⟨rfl, HB8.out.1.grown g9 HB8.out.1.size (by intro j hj; have hj := Option.some.inj hj; have := HB8.out.2; omega)⟩
        | true =>
          have hne := HBAD.out rfl HFK.out
          have hne2 : (hs + sumK C k == md) = false := by rw [beq_eq_false_iff_ne]; exact hne
          obtain ⟨s, hs'⟩ : ∃ s, hs + sumK C k = s := ⟨_, rfl⟩
          rw [hs'] at hne hne2 ⊢
          clear hs'
          go_wp2_with (refine wpList_storeRow rfl _ (.tmp 8) (.tmp 61) rfl (l' := Z6) HQ8.out rfl rfl size6 rfl rfl ?_; intro w9 r9 g9 z9)
          exact bodyPost_ret (resultRowST rfl _ _ r9 rfl Tryd.underlying31 size6) rfl ⟨rfl, HB8.out.1.grown g9 HB8.out.1.size (by intro j hj; have hj := Option.some.inj hj; have := HB8.out.2; omega)⟩
end
end Go.Proofs.YtkjomnakolhdcaaDoor
