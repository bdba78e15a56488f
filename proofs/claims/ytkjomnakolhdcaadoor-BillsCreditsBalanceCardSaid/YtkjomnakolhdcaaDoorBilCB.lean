/- BillsCreditsBalance: what is granted, used and left, in memory and in plain. Conditions: the ledger keeps what it keeps. -/
import Derived.Test.YtkjomnakolhdcaaDoorBilT
namespace Go.Proofs.YtkjomnakolhdcaaDoor
set_option linter.unusedVariables false
set_option linter.unusedSimpArgs false
open Go.RowKit
namespace Bil
theorem erred {l : Lg} {x : Bk} (h : doErr l x ≠ 0) : doSt l x = l := by
  unfold doErr at h
  unfold doSt
  by_cases hk : x.kind = 1
  · rw [if_pos hk] at h ⊢
    unfold closeS; rw [if_neg h]
  · rw [if_neg hk] at h ⊢
    unfold creditSt; rw [if_neg h]
theorem crediting {l : Lg} {x : Bk} (h0 : doErr l x = 0) (h1 : ¬ x.kind = 1) : ∃ i t : Nat, idx l x.a = some i ∧ x.b = (t : Int) ∧ t < l.n ∧ 1 ≤ x.c ∧ x.c ≤ (accAt l i).bill.charges.getD t 0 - (accAt l i).granted.getD t 0 ∧
    doSt l x = creditOf (bookHead l.head ⟨(encCredit x.a x.b x.c).toArray⟩) l i t x.c := by
  unfold doErr at h0
  rw [if_neg h1] at h0
  obtain ⟨i, t, hi, ht, htl, hu, hm⟩ := creditErr_zero h0
  refine ⟨i, t, hi, ht, htl, hu, hm, ?_⟩
  unfold doSt creditSt
  rw [if_neg h1, if_pos h0, hi, ht]
  rfl
end Bil
theorem own_keep {w w' : World} {base b n size : Nat} {e : TypeId} {A : Option Addr} {c : Nat} {xs : List Value} (h : w.ownsRow base e size (.slice A n c) n xs) (hk : ∀ a, A = some a → w'.heap[a.block]? = w.heap[a.block]?) : w'.ownsRow base e size (.slice A n c) n xs := by
  refine ⟨h.1, ?_⟩
  rcases h.2 with h0 | ⟨g, cap, cur, hv, hg, hh, r⟩
  · exact .inl h0
  · injection hv with hA hn hc
    exact .inr ⟨g, cap, cur, by rw [hA, hc], hg, (hk _ hA).trans hh, r⟩
theorem colz_gp {col col' : Nat → Nat} {gp z : Nat} (hc : ∀ b, col' b ≠ 0 → col b ≠ 0 ∨ z ≤ b) (h0 : col gp = 0) (hlt : gp < z) : col' gp = 0 := by
  rcases Nat.eq_zero_or_pos (col' gp) with h | h
  · exact h
  · rcases hc gp (by omega) with h2 | h2
    · exact absurd h0 h2
    · omega
theorem colz_new {col col' : Nat → Nat} {z b0 : Nat} (hc : ∀ b, col' b ≠ 0 → col b ≠ 0 ∨ z ≤ b) (hcw : ∀ b, col b ≠ 0 → b0 ≤ b) (hz : b0 ≤ z) : ∀ b, col' b ≠ 0 → b0 ≤ b := fun b hb => by
  rcases hc b hb with h | h
  · exact hcw b h
  · omega
/-- a list of what is left of a period's charges: its block, its capacity -/
structure Lf where
  g : Nat
  c : Nat
  d : List Int
def lfc (N : Nat) (x : Lf) : Value := .slice (some ⟨x.g, 0, none⟩) N x.c
/-- between two bookings -/
structure CB (w W : World) (bl gG gU N k : Nat) (A : Option Addr) (cA : Nat) (Ls : List Lf) (base : Nat) (col : Nat → Nat) (m : LM) (l : Bil.Lg) (G U : List Int) : Prop where
  lat : LAt W bl col m l
  inv : Bil.Inv l (1099511627776 * (k : Int))
  n : l.n = N
  cw : ∀ b, col b ≠ 0 → w.heap.size ≤ b
  cG : col gG = 0
  cU : col gU = 0
  gw : w.heap.size ≤ gG
  gGU : gG < gU
  gb : gU < base
  fG : FRow W gG N (fun t => G.getD t 0)
  fU : FRow W gU N (fun t => U.getD t 0)
  lG : G.length = N
  lU : U.length = N
  own : W.ownsRow base 29 1 (.slice A Ls.length cA) Ls.length (Ls.map (lfc N))
  cA0 : ∀ a, A = some a → col a.block = 0 ∧ base ≤ a.block ∧ a.block < W.heap.size
  fl : ∀ x ∈ Ls, FRow W x.g N (fun t => x.d.getD t 0) ∧ base ≤ x.g ∧ x.d.length = N ∧ col x.g = 0
  nd : ∀ (i j : Nat) (hi : i < Ls.length) (hj : j < Ls.length), i ≠ j → (Ls[i]'hi).g ≠ (Ls[j]'hj).g
  nA : ∀ x ∈ Ls, ∀ a, A = some a → a.block ≠ x.g
  left : Bil.LeftOk l (Ls.map Lf.d)
  bal : ∀ t, t < N → G.getD t 0 = U.getD t 0 + l.pending.getD t 0 ∧ 0 ≤ U.getD t 0 ∧ U.getD t 0 ≤ 1099511627776 * (k : Int)
  bel : Below w.heap.size w W
section
variable {w W W' : World} {bl gG gU N k base cA : Nat} {A : Option Addr} {Ls : List Lf} {col : Nat → Nat} {m : LM} {l : Bil.Lg} {G U : List Int}
theorem CB.turn (h : CB w W bl gG gU N k A cA Ls base col m l G U) {S : Nat → Prop} (hk : Keep S W W') (hb : Below w.heap.size w W') (hc : ∀ b, S b → col b = 0) (hG : ¬ S gG) (hU : ¬ S gU) (hL : ∀ x ∈ Ls, ¬ S x.g) (hA : ∀ a, A = some a → ¬ S a.block) : CB w W' bl gG gU N k A cA Ls base col m l G U :=
  ⟨h.lat.keeps hk hc, h.inv, h.n, h.cw, h.cG, h.cU, h.gw, h.gGU, h.gb, h.fG.keeps hk hG, h.fU.keeps hk hU, h.lG, h.lU,
    own_keep (b := 0) h.own fun a ha => hk.block a.block (h.cA0 a ha).2.2 (hA a ha), fun a ha => ⟨(h.cA0 a ha).1, (h.cA0 a ha).2.1, Nat.lt_of_lt_of_le (h.cA0 a ha).2.2 hk.size⟩,
    fun x hx => ⟨(h.fl x hx).1.keeps hk (hL x hx), (h.fl x hx).2⟩, h.nd, h.nA, h.left, h.bal, hb⟩
/-- only new blocks turn -/
theorem CB.fresh (h : CB w W bl gG gU N k A cA Ls base col m l G U) (hk : Keep (fun b => W.heap.size ≤ b) W W') : CB w W' bl gG gU N k A cA Ls base col m l G U :=
  h.turn hk (h.bel.trans (hk.below h.bel.size fun q hq (hS : W.heap.size ≤ q) => by have := h.bel.size; omega)) (fun b hb => col_zero h.lat hb) (fun e => by have := h.fG.lt; omega) (fun e => by have := h.fU.lt; omega) (fun x hx e => by have := (h.fl x hx).1.lt; omega) (fun a ha e => by have := (h.cA0 a ha).2.2; omega)
theorem CB.below (h : CB w W bl gG gU N k A cA Ls base col m l G U) (hb : Below W.heap.size W W') : CB w W' bl gG gU N k A cA Ls base col m l G U :=
  h.fresh ⟨hb.os, hb.tape, hb.output, hb.size, fun q hq _ => hb.block q hq⟩
/-- a booking that is refused: the ledger is as it was -/
theorem CB.same (h : CB w W bl gG gU N k A cA Ls base col m l G U) {col' : Nat → Nat} {m' : LM} {l' : Bil.Lg} (hl : LAt W' bl col' m' l') (he : l' = l) (hk : Keep (fun b => col b ≠ 0) W W') (hc : ∀ b, col' b ≠ 0 → col b ≠ 0 ∨ W.heap.size ≤ b) : CB w W' bl gG gU N (k + 1) A cA Ls base col' m' l G U := by
  subst he
  have hb : Below w.heap.size w W' := keep_below h.bel hk h.cw
  have hz : ∀ q, col q = 0 → q < W.heap.size → col' q = 0 := fun q h0 hq => colz_gp hc h0 hq
  refine ⟨hl, ⟨h.inv.ok, fun t => by have := h.inv.sm t; omega, h.inv.ke⟩, h.n, colz_new hc h.cw h.bel.size, hz _ h.cG h.fG.lt, hz _ h.cU h.fU.lt, h.gw, h.gGU, h.gb, h.fG.keeps hk (fun e => e h.cG), h.fU.keeps hk (fun e => e h.cU), h.lG, h.lU,
    own_keep (b := 0) h.own fun a ha => hk.block a.block (h.cA0 a ha).2.2 (fun e => e (h.cA0 a ha).1), fun a ha => ⟨hz _ (h.cA0 a ha).1 (h.cA0 a ha).2.2, (h.cA0 a ha).2.1, Nat.lt_of_lt_of_le (h.cA0 a ha).2.2 hk.size⟩,
    fun x hx => ⟨(h.fl x hx).1.keeps hk (fun e => e (h.fl x hx).2.2.2), (h.fl x hx).2.1, (h.fl x hx).2.2.1, hz _ (h.fl x hx).2.2.2 (h.fl x hx).1.lt⟩, h.nd, h.nA, h.left, fun t ht => by have := h.bal t ht; omega, hb⟩
/-- behind a booking's call, ahead of the law's own steps: the memory of what the law keeps -/
structure CM (w W : World) (gG gU N : Nat) (A : Option Addr) (cA : Nat) (Ls : List Lf) (base : Nat) (col : Nat → Nat) (G U : List Int) : Prop where
  cw : ∀ b, col b ≠ 0 → w.heap.size ≤ b
  cl : ∀ b, col b ≠ 0 → b < W.heap.size
  cG : col gG = 0
  cU : col gU = 0
  gw : w.heap.size ≤ gG
  gGU : gG < gU
  gb : gU < base
  hb : base ≤ W.heap.size
  fG : FRow W gG N (fun t => G.getD t 0)
  fU : FRow W gU N (fun t => U.getD t 0)
  lG : G.length = N
  lU : U.length = N
  own : W.ownsRow base 29 1 (.slice A Ls.length cA) Ls.length (Ls.map (lfc N))
  cA0 : ∀ a, A = some a → col a.block = 0 ∧ base ≤ a.block ∧ a.block < W.heap.size
  fl : ∀ x ∈ Ls, FRow W x.g N (fun t => x.d.getD t 0) ∧ base ≤ x.g ∧ x.d.length = N ∧ col x.g = 0
  nd : ∀ (i j : Nat) (hi : i < Ls.length) (hj : j < Ls.length), i ≠ j → (Ls[i]'hi).g ≠ (Ls[j]'hj).g
  nA : ∀ x ∈ Ls, ∀ a, A = some a → a.block ≠ x.g
  bel : Below w.heap.size w W
theorem CB.mem (h : CB w W bl gG gU N k A cA Ls base col m l G U) (hbs : base ≤ W.heap.size) {col' : Nat → Nat} {m' : LM} {l' : Bil.Lg} (hl : LAt W' bl col' m' l') (hk : Keep (fun b => col b ≠ 0) W W') (hc : ∀ b, col' b ≠ 0 → col b ≠ 0 ∨ W.heap.size ≤ b) : CM w W' gG gU N A cA Ls base col' G U := by
  have hz : ∀ q, col q = 0 → q < W.heap.size → col' q = 0 := fun q h0 hq => colz_gp hc h0 hq
  exact ⟨colz_new hc h.cw h.bel.size, hl.lt, hz _ h.cG h.fG.lt, hz _ h.cU h.fU.lt, h.gw, h.gGU, h.gb, Nat.le_trans hbs hk.size, h.fG.keeps hk (fun e => e h.cG), h.fU.keeps hk (fun e => e h.cU), h.lG, h.lU,
    own_keep (b := 0) h.own fun a ha => hk.block a.block (h.cA0 a ha).2.2 (fun e => e (h.cA0 a ha).1), fun a ha => ⟨hz _ (h.cA0 a ha).1 (h.cA0 a ha).2.2, (h.cA0 a ha).2.1, Nat.lt_of_lt_of_le (h.cA0 a ha).2.2 hk.size⟩,
    fun x hx => ⟨(h.fl x hx).1.keeps hk (fun e => e (h.fl x hx).2.2.2), (h.fl x hx).2.1, (h.fl x hx).2.2.1, hz _ (h.fl x hx).2.2.2 (h.fl x hx).1.lt⟩, h.nd, h.nA, keep_below h.bel hk h.cw⟩
theorem CM.fresh (h : CM w W gG gU N A cA Ls base col G U) (hk : Keep (fun b => W.heap.size ≤ b) W W') : CM w W' gG gU N A cA Ls base col G U := by
  have hs := h.bel.size
  refine ⟨h.cw, fun b hb => Nat.lt_of_lt_of_le (h.cl b hb) hk.size, h.cG, h.cU, h.gw, h.gGU, h.gb, Nat.le_trans h.hb hk.size, h.fG.keeps hk (fun e => by have := h.fG.lt; omega), h.fU.keeps hk (fun e => by have := h.fU.lt; omega), h.lG, h.lU,
    own_keep (b := 0) h.own fun a ha => hk.block a.block (h.cA0 a ha).2.2 (fun e => by have := (h.cA0 a ha).2.2; omega), fun a ha => ⟨(h.cA0 a ha).1, (h.cA0 a ha).2.1, Nat.lt_of_lt_of_le (h.cA0 a ha).2.2 hk.size⟩,
    fun x hx => ⟨(h.fl x hx).1.keeps hk (fun e => by have := (h.fl x hx).1.lt; omega), (h.fl x hx).2⟩, h.nd, h.nA, h.bel.trans (hk.below hs fun q hq (hS : W.heap.size ≤ q) => by omega)⟩
theorem CM.done (h : CM w W gG gU N A cA Ls base col G U) {m : LM} {l : Bil.Lg} (hl : LAt W bl col m l) (hi : Bil.Inv l (1099511627776 * (k : Int))) (hn : l.n = N) (hleft : Bil.LeftOk l (Ls.map Lf.d)) (hbal : ∀ t, t < N → G.getD t 0 = U.getD t 0 + l.pending.getD t 0 ∧ 0 ≤ U.getD t 0 ∧ U.getD t 0 ≤ 1099511627776 * (k : Int)) : CB w W bl gG gU N k A cA Ls base col m l G U :=
  ⟨hl, hi, hn, h.cw, h.cG, h.cU, h.gw, h.gGU, h.gb, h.fG, h.fU, h.lG, h.lU, h.own, h.cA0, h.fl, h.nd, h.nA, hleft, hbal, h.bel⟩
/-- a store into one of the law's own rows -/
theorem CM.setU (h : CM w W gG gU N A cA Ls base col G U) {t : Nat} (ht : t < N) (v : Int) : CM w (W.setCell ⟨gU, t, none⟩ (.int .i64 v)) gG gU N A cA Ls base col G (U.set t v) := by
  have hg := grown_setCell W gU t (.int .i64 v)
  have hk : Keep (fun q => q = gU) W (W.setCell ⟨gU, t, none⟩ (.int .i64 v)) := Keep.of_grown hg (fun q e => (Option.some.inj e).symm)
  have z : (W.setCell ⟨gU, t, none⟩ (.int .i64 v)).heap.size = W.heap.size := by simp
  have hgw := h.gw; have hgu := h.gGU; have hgb := h.gb
  refine ⟨h.cw, fun b hb => by rw [z]; exact h.cl b hb, h.cG, h.cU, h.gw, h.gGU, h.gb, by rw [z]; exact h.hb, h.fG.keeps hk (fun e => by omega), (h.fU.set ht v).congr fun s hs => set_getD _ _ _ (by rw [h.lU]; exact ht) s, h.lG, by rw [List.length_set]; exact h.lU,
    own_keep (b := 0) h.own fun a ha => hk.block a.block (h.cA0 a ha).2.2 (fun e => by have := (h.cA0 a ha).2.1; omega), fun a ha => ⟨(h.cA0 a ha).1, (h.cA0 a ha).2.1, by rw [z]; exact (h.cA0 a ha).2.2⟩,
    fun x hx => ⟨(h.fl x hx).1.keeps hk (fun e => by have := (h.fl x hx).2.1; omega), (h.fl x hx).2⟩, h.nd, h.nA, h.bel.trans (hk.below h.bel.size fun q hq e => by omega)⟩
theorem CM.setG (h : CM w W gG gU N A cA Ls base col G U) {t : Nat} (ht : t < N) (v : Int) : CM w (W.setCell ⟨gG, t, none⟩ (.int .i64 v)) gG gU N A cA Ls base col (G.set t v) U := by
  have hg := grown_setCell W gG t (.int .i64 v)
  have hk : Keep (fun q => q = gG) W (W.setCell ⟨gG, t, none⟩ (.int .i64 v)) := Keep.of_grown hg (fun q e => (Option.some.inj e).symm)
  have z : (W.setCell ⟨gG, t, none⟩ (.int .i64 v)).heap.size = W.heap.size := by simp
  have hgw := h.gw; have hgu := h.gGU; have hgb := h.gb
  refine ⟨h.cw, fun b hb => by rw [z]; exact h.cl b hb, h.cG, h.cU, h.gw, h.gGU, h.gb, by rw [z]; exact h.hb, (h.fG.set ht v).congr fun s hs => set_getD _ _ _ (by rw [h.lG]; exact ht) s, h.fU.keeps hk (fun e => by omega), by rw [List.length_set]; exact h.lG, h.lU,
    own_keep (b := 0) h.own fun a ha => hk.block a.block (h.cA0 a ha).2.2 (fun e => by have := (h.cA0 a ha).2.1; omega), fun a ha => ⟨(h.cA0 a ha).1, (h.cA0 a ha).2.1, by rw [z]; exact (h.cA0 a ha).2.2⟩,
    fun x hx => ⟨(h.fl x hx).1.keeps hk (fun e => by have := (h.fl x hx).2.1; omega), (h.fl x hx).2⟩, h.nd, h.nA, h.bel.trans (hk.below h.bel.size fun q hq e => by omega)⟩
/-- 'left[j][t] = v' -/
def setLf (Ls : List Lf) (j t : Nat) (v : Int) : List Lf := Ls.modify j fun x => { x with d := x.d.set t v }
theorem CM.setL (h : CM w W gG gU N A cA Ls base col G U) {j t : Nat} (hj : j < Ls.length) (ht : t < N) (v : Int) : CM w (W.setCell ⟨(Ls[j]'hj).g, t, none⟩ (.int .i64 v)) gG gU N A cA (setLf Ls j t v) base col G U := by
  have hm := modify_set (fun x : Lf => { x with d := x.d.set t v }) Ls j hj
  have hme := h.fl _ (List.getElem_mem hj)
  have hlen : (setLf Ls j t v).length = Ls.length := by show (Ls.modify j _).length = _; rw [hm, List.length_set]
  have hgs : ∀ (i : Nat) (hi : i < (setLf Ls j t v).length), ((setLf Ls j t v)[i]'hi).g = (Ls[i]'(by rw [hlen] at hi; exact hi)).g := fun i hi => by
    have e : ((setLf Ls j t v)[i]'hi) = ((Ls.set j { (Ls[j]'hj) with d := (Ls[j]'hj).d.set t v })[i]'(by rw [List.length_set]; rw [hlen] at hi; exact hi)) := by
      simp only [setLf, hm]
    rw [e, List.getElem_set]
    split
    · rename_i e; subst e; rfl
    · rfl
  have hcells : (setLf Ls j t v).map (lfc N) = Ls.map (lfc N) := by
    show (Ls.modify j _).map (lfc N) = _
    rw [hm, List.map_set]
    have : lfc N { (Ls[j]'hj) with d := (Ls[j]'hj).d.set t v } = (Ls.map (lfc N))[j]'(by simpa using hj) := by rw [List.getElem_map]; rfl
    rw [this, List.set_getElem_self]
  have hg := grown_setCell W (Ls[j]'hj).g t (.int .i64 v)
  have hk : Keep (fun q => q = (Ls[j]'hj).g) W (W.setCell ⟨(Ls[j]'hj).g, t, none⟩ (.int .i64 v)) := Keep.of_grown hg (fun q e => (Option.some.inj e).symm)
  have z : (W.setCell ⟨(Ls[j]'hj).g, t, none⟩ (.int .i64 v)).heap.size = W.heap.size := by simp
  have hgw := h.gw; have hgu := h.gGU; have hgb := h.gb; have hjb := hme.2.1
  refine ⟨h.cw, fun b hb => by rw [z]; exact h.cl b hb, h.cG, h.cU, h.gw, h.gGU, h.gb, by rw [z]; exact h.hb, h.fG.keeps hk (fun e => by omega), h.fU.keeps hk (fun e => by omega), h.lG, h.lU,
    by rw [hlen, hcells]; exact own_keep (b := 0) h.own fun a ha => hk.block a.block (h.cA0 a ha).2.2 (fun e => h.nA _ (List.getElem_mem hj) a ha e), fun a ha => ⟨(h.cA0 a ha).1, (h.cA0 a ha).2.1, by rw [z]; exact (h.cA0 a ha).2.2⟩,
    fun x hx => ?_, fun i i' hi hi' hne => by rw [hgs i hi, hgs i' hi']; exact h.nd i i' _ _ hne, fun x hx a ha => ?_, h.bel.trans (hk.below h.bel.size fun q hq e => by omega)⟩
  · obtain ⟨i, hi, rfl⟩ := List.mem_iff_getElem.1 hx
    have hi' : i < Ls.length := by rw [hlen] at hi; exact hi
    have e : ((setLf Ls j t v)[i]'hi) = ((Ls.set j { (Ls[j]'hj) with d := (Ls[j]'hj).d.set t v })[i]'(by rw [List.length_set]; exact hi')) := by simp only [setLf, hm]
    rw [e, List.getElem_set]
    split
    · rename_i e
      exact ⟨(hme.1.set ht v).congr fun s hs => set_getD _ _ _ (by rw [hme.2.2.1]; exact ht) s, hme.2.1, by show (List.set _ _ _).length = _; rw [List.length_set]; exact hme.2.2.1, hme.2.2.2⟩
    · rename_i e
      have hx := h.fl _ (List.getElem_mem hi')
      exact ⟨hx.1.keeps hk (fun e2 => h.nd i j hi' hj (fun e3 => e e3.symm) e2), hx.2⟩
  · obtain ⟨i, hi, rfl⟩ := List.mem_iff_getElem.1 hx
    rw [hgs i hi]
    exact h.nA _ (List.getElem_mem _) a ha
/-- 'left = append(left, x)' -/
theorem CM.push (h : CM w W gG gU N A cA Ls base col G U) {g c' : Nat} {x : Lf} (own' : W'.ownsRow base 29 1 (.slice (some ⟨g, 0, none⟩) (Ls.length + 1) c') (Ls.length + 1) (Ls.map (lfc N) ++ [lfc N x])) (hg : W.grownBy W' (Value.slice A Ls.length cA).ownBlock) (hor : A = some ⟨g, 0, none⟩ ∨ W.heap.size ≤ g)
    (hx : FRow W x.g N (fun t => x.d.getD t 0)) (hxd : x.d.length = N) (hxb : base ≤ x.g) (hxc : col x.g = 0) (hxn : ∀ y ∈ Ls, x.g ≠ y.g) (hxA : ∀ a, A = some a → a.block ≠ x.g) : CM w W' gG gU N (some ⟨g, 0, none⟩) c' (Ls ++ [x]) base col G U := by
  have hk : Keep (fun q => (Value.slice A Ls.length cA).ownBlock = some q) W W' := Keep.of_grown hg (fun q e => e)
  have hS : ∀ q, (Value.slice A Ls.length cA).ownBlock = some q → ∃ a, A = some a ∧ a.block = q := fun q e => by
    cases A with
    | none => cases e
    | some a => exact ⟨a, rfl, Option.some.inj e⟩
  have hgl : g < W'.heap.size ∧ base ≤ g := by
    have := own'.lt (k := g) rfl
    exact ⟨this.2, this.1⟩
  have hgc : col g = 0 := by
    rcases hor with ho | ho
    · exact (h.cA0 _ ho).1
    · rcases Nat.eq_zero_or_pos (col g) with h0 | h0
      · exact h0
      · have := h.cl g (by omega); omega
  have hgne : ∀ y, y < W.heap.size → (∀ a, A = some a → a.block ≠ y) → g ≠ y := fun y hy hn e => by
    rcases hor with ho | ho
    · exact hn _ ho e
    · omega
  have hgw := h.gw; have hgu := h.gGU; have hgb := h.gb
  refine ⟨h.cw, fun b hb => Nat.lt_of_lt_of_le (h.cl b hb) hk.size, h.cG, h.cU, h.gw, h.gGU, h.gb, Nat.le_trans h.hb hk.size, h.fG.keeps hk (fun e => ?_), h.fU.keeps hk (fun e => ?_), h.lG, h.lU, ?_, fun a ha => ?_, fun y hy => ?_, fun i j hi hj hne => ?_, fun y hy a ha => ?_, h.bel.trans (hk.below h.bel.size fun q hq e => ?_)⟩
  · obtain ⟨a, ha, e⟩ := hS _ e; have := (h.cA0 a ha).2.1; omega
  · obtain ⟨a, ha, e⟩ := hS _ e; have := (h.cA0 a ha).2.1; omega
  · rw [List.length_append, List.length_singleton, List.map_append]; exact own'
  · obtain rfl := Option.some.inj ha; exact ⟨hgc, hgl.2, hgl.1⟩
  · rcases List.mem_append.1 hy with hy | hy
    · have hf := h.fl y hy
      exact ⟨hf.1.keeps hk (fun e => by obtain ⟨a, ha, e⟩ := hS _ e; exact h.nA y hy a ha e), hf.2⟩
    · obtain rfl := List.mem_singleton.1 hy
      exact ⟨hx.keeps hk (fun e => by obtain ⟨a, ha, e⟩ := hS _ e; exact hxA a ha e), hxb, hxd, hxc⟩
  · rw [List.length_append, List.length_singleton] at hi hj
    have key : ∀ (i : Nat) (hi : i < (Ls ++ [x]).length), (∃ h' : i < Ls.length, (Ls ++ [x])[i] = Ls[i]'h') ∨ (i = Ls.length ∧ (Ls ++ [x])[i] = x) := fun i hi => by
      rcases Nat.lt_or_ge i Ls.length with h' | h'
      · exact .inl ⟨h', List.getElem_append_left h'⟩
      · have : i = Ls.length := by rw [List.length_append, List.length_singleton] at hi; omega
        subst this
        exact .inr ⟨rfl, by simp⟩
    rcases key i (by rw [List.length_append, List.length_singleton]; exact hi) with ⟨h1, e1⟩ | ⟨h1, e1⟩ <;> rcases key j (by rw [List.length_append, List.length_singleton]; exact hj) with ⟨h2, e2⟩ | ⟨h2, e2⟩
    · rw [e1, e2]; exact h.nd i j h1 h2 hne
    · rw [e1, e2]; exact fun e => hxn _ (List.getElem_mem h1) e.symm
    · rw [e1, e2]; exact hxn _ (List.getElem_mem h2)
    · omega
  · obtain rfl := Option.some.inj ha
    rcases List.mem_append.1 hy with hy | hy
    · exact hgne y.g (h.fl y hy).1.lt (h.nA y hy)
    · obtain rfl := List.mem_singleton.1 hy
      exact hgne y.g hx.lt hxA
  · obtain ⟨a, ha, e⟩ := hS _ e; have := (h.cA0 a ha).2.1; omega
theorem CM.below (h : CM w W gG gU N A cA Ls base col G U) (hb : Below W.heap.size W W') : CM w W' gG gU N A cA Ls base col G U := h.fresh ⟨hb.os, hb.tape, hb.output, hb.size, fun q hq _ => hb.block q hq⟩
theorem setLf_len (Ls : List Lf) (j t : Nat) (v : Int) (hj : j < Ls.length) : (setLf Ls j t v).length = Ls.length := by
  show (Ls.modify j _).length = _
  rw [modify_set _ _ _ hj, List.length_set]
theorem setLf_map (Ls : List Lf) (j t : Nat) (v : Int) (hj : j < Ls.length) : (setLf Ls j t v).map Lf.d = (Ls.map Lf.d).set j ((Ls[j]'hj).d.set t v) := by
  show (Ls.modify j _).map Lf.d = _
  rw [modify_set _ _ _ hj, List.map_set]
theorem map_getD (Ls : List Lf) (j : Nat) (hj : j < Ls.length) : (Ls.map Lf.d).getD j [] = (Ls[j]'hj).d := by simp [List.getD, hj]
end
end Go.Proofs.YtkjomnakolhdcaaDoor
