/- Layer 35's ledgers in memory: what a store into one of their rows leaves. Conditions: the ledger reads as told. -/
import Derived.Test.YtkjomnakolhdcaaDoorBilW2
namespace Go.Proofs.YtkjomnakolhdcaaDoor
set_option linter.unusedVariables false
set_option linter.unusedSimpArgs false
open Go.RowKit
namespace Bil
/-- what is pending and paid is not negative and at most K -/
def Sm (l : Lg) (K : Int) : Prop := ∀ t : Nat, 0 ≤ l.pending.getD t 0 ∧ l.pending.getD t 0 ≤ K ∧ 0 ≤ l.paid.getD t 0 ∧ l.paid.getD t 0 ≤ K
end Bil
section
variable {w w' : World} {S : Nat → Prop} {col : Nat → Nat} {n bl : Nat} {k : KA} {m : LM} {l : Bil.Lg}
theorem LAt.drew (h : LAt w bl col m l) : LAt w.drew bl col m l := h.keeps (S := fun _ => False) (Keep.refl _ _).drew (fun _ h => h.elim)
theorem LAt.drewN (h : LAt w bl col m l) (j : Nat) : LAt (w.drewN j) bl col m l := h.keeps (S := fun _ => False) ((Keep.refl _ _).drewN j) (fun _ h => h.elim)
theorem LAt.acc (h : LAt w bl col m l) {i : Nat} (hi : i < m.ks.length) : Bil.accAt l i = m.ks[i].a := by
  unfold Bil.accAt
  rw [h.kept]
  simp [List.getD, hi]
theorem set_getD (l : List Int) (t : Nat) (v : Int) (ht : t < l.length) (s : Nat) : (l.set t v).getD s 0 = if s = t then v else l.getD s 0 := by
  by_cases e : t = s
  · subst e; rw [if_pos rfl]; simp only [List.getD, List.getElem?_set_self ht, Option.getD_some]
  · rw [if_neg (fun h => e h.symm)]; simp only [List.getD, List.getElem?_set_ne e]
theorem LAt.setPend (h : LAt w bl col m l) {t : Nat} (ht : t < l.n) (v : Int) : LAt (w.setCell ⟨m.bp, t, none⟩ (.int .i64 v)) bl col m { l with pending := l.pending.set t v } := by
  have hk : Keep (fun k => k = m.bp) w (w.setCell ⟨m.bp, t, none⟩ (.int .i64 v)) := Keep.of_grown (grown_setCell _ _ _ _) (fun k e => (Option.some.inj e).symm)
  have f : ∀ b q, col b = q → q ≠ 2 → ¬ b = m.bp := fun b q hq h0 hS => by subst hS; rw [h.cbp] at hq; omega
  have kat : ∀ k ∈ m.ks, KAt _ col l.n k := fun k hk' => by
    have x := h.kat k hk'
    exact ⟨x.c.keeps hk (f _ _ x.qc (by omega)), x.r.keeps hk (f _ _ x.qr (by omega)), x.t.keeps hk (f _ _ x.qt (by omega)), x.g.keeps hk (f _ _ x.qg (by omega)), x.lc, x.lr, x.lt, x.lg, x.qc, x.qr, x.qt, x.qg⟩
  exact ⟨h.row.keep (hk.block bl h.row.lt (f _ _ h.cbl (by omega))), h.h16, h.n1, h.n2, h.per, h.len, (h.pend.set ht v).congr fun s hs => set_getD _ _ _ (by rw [h.lp]; exact ht) s, h.paid.keeps hk (f _ _ h.cbq (by omega)), by rw [List.length_set]; exact h.lp, h.lq, h.kept,
    h.krow.keep fun a ha => hk.block a.block (h.krow.lt ha) (f _ _ (h.cka a ha) (by omega)), kat, h.cbl, h.cbp, h.cbq, h.cka, fun k hc => Nat.lt_of_lt_of_le (h.lt k hc) hk.size, h.tab⟩
theorem LAt.setPaid (h : LAt w bl col m l) {t : Nat} (ht : t < l.n) (v : Int) : LAt (w.setCell ⟨m.bq, t, none⟩ (.int .i64 v)) bl col m { l with paid := l.paid.set t v } := by
  have hk : Keep (fun k => k = m.bq) w (w.setCell ⟨m.bq, t, none⟩ (.int .i64 v)) := Keep.of_grown (grown_setCell _ _ _ _) (fun k e => (Option.some.inj e).symm)
  have f : ∀ b q, col b = q → q ≠ 3 → ¬ b = m.bq := fun b q hq h0 hS => by subst hS; rw [h.cbq] at hq; omega
  have kat : ∀ k ∈ m.ks, KAt _ col l.n k := fun k hk' => by
    have x := h.kat k hk'
    exact ⟨x.c.keeps hk (f _ _ x.qc (by omega)), x.r.keeps hk (f _ _ x.qr (by omega)), x.t.keeps hk (f _ _ x.qt (by omega)), x.g.keeps hk (f _ _ x.qg (by omega)), x.lc, x.lr, x.lt, x.lg, x.qc, x.qr, x.qt, x.qg⟩
  exact ⟨h.row.keep (hk.block bl h.row.lt (f _ _ h.cbl (by omega))), h.h16, h.n1, h.n2, h.per, h.len, h.pend.keeps hk (f _ _ h.cbp (by omega)), (h.paid.set ht v).congr fun s hs => set_getD _ _ _ (by rw [h.lq]; exact ht) s, h.lp, by rw [List.length_set]; exact h.lq, h.kept,
    h.krow.keep fun a ha => hk.block a.block (h.krow.lt ha) (f _ _ (h.cka a ha) (by omega)), kat, h.cbl, h.cbp, h.cbq, h.cka, fun k hc => Nat.lt_of_lt_of_le (h.lt k hc) hk.size, h.tab⟩
theorem kcs_set (n : Nat) : ∀ (ks : List KA) (i : Nat) (k' : KA) (hi : i < ks.length), k'.cells n = ks[i].cells n → kcs n (ks.set i k') = kcs n ks
  | [], _, _, hi, _ => by simp at hi
  | k :: ks, 0, k', _, h => by
    show (k'.cells n) ++ _ = (k.cells n) ++ _
    have h' : k'.cells n = k.cells n := h
    rw [h']
  | k :: ks, i + 1, k', hi, h => by
    show (k.cells n) ++ kcs n (ks.set i k') = (k.cells n) ++ kcs n ks
    rw [kcs_set n ks i k' (by simpa using hi) (by simpa using h)]
theorem KRow.congr {c : Nat} {A : Option Addr} {ks ks' : List KA} (h : KRow w n A c ks) (hl : ks'.length = ks.length) (he : kcs n ks' = kcs n ks) : KRow w n A c ks' := by
  rcases h with ⟨h1, h2, h3⟩ | ⟨g, off, cur, h1, h2, h3, h4, h5, h6⟩
  · subst h3; exact .inl ⟨h1, h2, List.eq_nil_of_length_eq_zero hl⟩
  · exact .inr ⟨g, off, cur, h1, h2, by rw [hl]; exact h3, h4, h5, by rw [he]; exact h6⟩
/-- the memory of a ledger one of whose kept accounts grants more -/
def LM.grant (m : LM) (i t : Nat) (v : Int) : LM := { m with ks := m.ks.modify i fun k => { k with a := ⟨k.a.bill, k.a.granted.set t v⟩ } }
theorem modify_set {α : Type} (f : α → α) : ∀ (ks : List α) (i : Nat) (hi : i < ks.length), ks.modify i f = ks.set i (f ks[i])
  | [], _, hi => by simp at hi
  | k :: ks, 0, _ => rfl
  | k :: ks, i + 1, hi => by
    have hi' : i < ks.length := by simpa using hi
    show k :: ks.modify i f = k :: ks.set i (f (ks[i]'hi'))
    rw [modify_set f ks i (by simpa using hi)]
theorem LAt.setGrant (h : LAt w bl col m l) (hO : Bil.Ok l) {i t : Nat} (hi : i < m.ks.length) (ht : t < l.n) (v : Int) :
    LAt (w.setCell ⟨(m.ks[i]'hi).bg, t, none⟩ (.int .i64 v)) bl col (m.grant i t v) { l with kept := l.kept.set i ⟨(Bil.accAt l i).bill, (Bil.accAt l i).granted.set t v⟩ } := by
  have hme : m.ks[i]'hi ∈ m.ks := List.getElem_mem hi
  have xi := h.kat _ hme
  have hki : i < l.kept.length := by rw [h.klen]; exact hi
  have hpi := (hO.a i hki).2
  rw [h.acc hi] at hpi
  have hmin := hO.k
  have hk : Keep (fun k => k = (m.ks[i]'hi).bg) w (w.setCell ⟨(m.ks[i]'hi).bg, t, none⟩ (.int .i64 v)) := Keep.of_grown (grown_setCell _ _ _ _) (fun k e => (Option.some.inj e).symm)
  have f : ∀ b q, col b = q → q < 6 → ¬ b = (m.ks[i]'hi).bg := fun b q hq h0 hS => by subst hS; rw [xi.qg] at hq; omega
  have hms := modify_set (fun k : KA => { k with a := ⟨k.a.bill, k.a.granted.set t v⟩ }) m.ks i hi
  have hlen : (m.grant i t v).ks.length = m.ks.length := by show (m.ks.modify i _).length = _; rw [hms, List.length_set]
  have kat : ∀ k ∈ (m.grant i t v).ks, KAt (w.setCell ⟨(m.ks[i]'hi).bg, t, none⟩ (.int .i64 v)) col l.n k := fun k hk' => by
    have hk2 : k ∈ m.ks.set i { m.ks[i]'hi with a := ⟨(m.ks[i]'hi).a.bill, (m.ks[i]'hi).a.granted.set t v⟩ } := by rw [← hms]; exact hk'
    obtain ⟨j, hj, e⟩ := List.mem_iff_getElem.1 hk2
    rw [List.length_set] at hj
    by_cases eij : i = j
    · subst eij
      rw [List.getElem_set_self] at e
      subst e
      exact ⟨xi.c.keeps hk (f _ _ xi.qc (by omega)), xi.r.keeps hk (f _ _ xi.qr (by omega)), xi.t.keeps hk (f _ _ xi.qt (by omega)), (xi.g.set ht v).congr fun s hs => set_getD _ _ _ (by rw [xi.lg]; exact ht) s, xi.lc, xi.lr, xi.lt, (by show (List.set _ _ _).length = _; rw [List.length_set]; exact xi.lg), xi.qc, xi.qr, xi.qt, xi.qg⟩
    · rw [List.getElem_set_ne eij] at e
      subst e
      have x := h.kat _ (List.getElem_mem hj)
      have hpj := (hO.a j (by rw [h.klen]; exact hj)).2
      rw [h.acc hj] at hpj
      have hne : ¬ (m.ks[j]'hj).bg = (m.ks[i]'hi).bg := fun e => by
        have := x.qg
        rw [e, xi.qg, hpi, hpj] at this
        omega
      exact ⟨x.c.keeps hk (f _ _ x.qc (by omega)), x.r.keeps hk (f _ _ x.qr (by omega)), x.t.keeps hk (f _ _ x.qt (by omega)), x.g.keeps hk hne, x.lc, x.lr, x.lt, x.lg, x.qc, x.qr, x.qt, x.qg⟩
  have hrow : IsRow (w.setCell ⟨(m.ks[i]'hi).bg, t, none⟩ (.int .i64 v)) bl 71 ((m.grant i t v).cells { l with kept := l.kept.set i ⟨(Bil.accAt l i).bill, (Bil.accAt l i).granted.set t v⟩ }) := by
    have e : (m.grant i t v).cells { l with kept := l.kept.set i ⟨(Bil.accAt l i).bill, (Bil.accAt l i).granted.set t v⟩ } = m.cells l := by
      unfold LM.cells
      rw [hlen]; rfl
    rw [e]
    exact h.row.keep (hk.block bl h.row.lt (f _ _ h.cbl (by omega)))
  refine ⟨hrow, h.h16, h.n1, h.n2, h.per, by rw [hlen]; exact h.len, h.pend.keeps hk (f _ _ h.cbp (by omega)), h.paid.keeps hk (f _ _ h.cbq (by omega)), h.lp, h.lq, ?_, ?_, kat, h.cbl, h.cbp, h.cbq, h.cka, fun k hc => Nat.lt_of_lt_of_le (h.lt k hc) hk.size, h.tab⟩
  · show l.kept.set i _ = (m.ks.modify i _).map KA.a
    rw [hms, List.map_set, h.kept, h.acc hi]
  · have := h.krow.keep (w' := w.setCell ⟨(m.ks[i]'hi).bg, t, none⟩ (.int .i64 v)) fun a ha => hk.block a.block (h.krow.lt ha) (f _ _ (h.cka a ha) (by omega))
    refine this.congr hlen ?_
    show kcs l.n (m.ks.modify i _) = _
    rw [hms]
    exact kcs_set _ _ _ _ hi rfl
end
end Go.Proofs.YtkjomnakolhdcaaDoor
