/- Layer 35's Decode: the reference's bill. Conditions: 1 to 16 tenants; fewer than 16 kept bills; the bytes lie before the reader's variable. -/
import Derived.Test.YtkjomnakolhdcaaDoorBilDl
import Derived.Test.YtkjomnakolhdcaaDoorBilDa
import Derived.Test.YtkjomnakolhdcaaDoorBilUB
namespace Go.Proofs.YtkjomnakolhdcaaDoor
set_option linter.unusedVariables false
set_option linter.unusedSimpArgs false
open Go.RowKit
/-- while a bill is read: b6 its variable -/
structure RbS (w W : World) (br b6 bl : Nat) (col : Nat → Nat) (m : RM) (l : Bil.Lg) (b : List UInt8) (e : Int) (L : List Value) : Prop where
  k : Keep (fun q => q = br) w W
  r6 : IsRow W b6 31 L
  st : RSt W br b e
  lat : RAt W bl col m l
  o : w.heap.size = b6 ∧ br < b6 ∧ col br = 0 ∧ ∀ q, b6 ≤ q → col q = 0
section
variable {w W W' : World} {br b6 bl : Nat} {col : Nat → Nat} {m : RM} {l : Bil.Lg} {b b' : List UInt8} {e e' : Int} {L : List Value}
theorem RbS.next (h : RbS w W br b6 bl col m l b e L) (hs : RSt W' br b' e') (hk : Keep (fun q => q = br) W W') : RbS w W' br b6 bl col m l b' e' L := by
  have ho := h.o
  exact ⟨h.k.trans hk, h.r6.keep (hk.block b6 h.r6.lt (by omega)), hs, h.lat.keeps hk (fun q e => by subst e; exact ho.2.2.1), ho⟩
theorem RbS.put (h : RbS w W br b6 bl col m l b e L) (j : Nat) (v : Value) : RbS w (W.setCell ⟨b6, j, none⟩ v) br b6 bl col m l b e (L.set j v) := by
  have ho := h.o
  have hk : Keep (fun q => q = b6) W (W.setCell ⟨b6, j, none⟩ v) := Keep.of_grown (grown_setCell _ _ _ _) fun k e => (Option.some.inj e).symm
  exact ⟨h.k.grown (grown_setCell W b6 j v) fun k e => .inr (by have := Option.some.inj e; omega), h.r6.set j v, h.st.keeps hk (fun q hq e => by omega), h.lat.keeps hk (fun q e => by subst e; exact ho.2.2.2 _ (Nat.le_refl _)), ho⟩
theorem RbS.down (h : RbS w W br b6 bl col m l b e L) (hb : Below W.heap.size W W') : RbS w W' br b6 bl col m l b e L := ⟨h.k.then_below hb, h.r6.below' hb, h.st.below hb, h.lat.below hb, h.o⟩
theorem RbS.size (h : RbS w W br b6 bl col m l b e L) : b6 < W.heap.size := h.r6.lt
theorem RbS.own (h : RbS w W br b6 bl col m l b e L) {base n : Nat} {t : TypeId} {v : Value} {xs : List Value} (ho : W.ownsRow base t 1 v n xs) (hb : b6 < base) (j : Nat) (u : Value) : (W.setCell ⟨b6, j, none⟩ u).ownsRow base t 1 v n xs := own_far ho (grown_setCell _ _ _ _) hb
theorem RbS.far (h : RbS w W br b6 bl col m l b e L) {base : Nat} (hb : b6 < base) (hk : Keep (fun q => base ≤ q) W W') : RbS w W' br b6 bl col m l b e L := by
  have ho := h.o
  exact ⟨⟨hk.os.trans h.k.os, hk.tape.trans h.k.tape, hk.output.trans h.k.output, Nat.le_trans h.k.size hk.size, fun k hk1 hk2 => (hk.block k (Nat.lt_of_lt_of_le hk1 h.k.size) (by omega)).trans (h.k.block k hk1 hk2)⟩, h.r6.keep (hk.block b6 h.r6.lt (by omega)), h.st.keeps hk (fun q hq e => by omega), h.lat.keeps hk (fun q e => ho.2.2.2 _ (by omega)), ho⟩
theorem RbS.n0 (h : RbS w W br b6 bl col m l b e L) {N : Nat} (hn : l.n = N) : W.cell? ⟨bl, 0, none⟩ = some (.int .i64 (N : Int)) := by rw [← hn]; exact rcell_n h.lat.rcs
theorem RbS.fail (h : RbS w W br b6 bl col m l b e L) (e' : Int) : RbS w (W.setCell ⟨br, 1, none⟩ (.int .i64 e')) br b6 bl col m l b e' L := h.next (h.st.fail e') (keep_br _ _ _ _)
end
/-- while the nets are appended -/
structure RbL (w W : World) (br b6 bl : Nat) (col : Nat → Nat) (m : RM) (l : Bil.Lg) (b : List UInt8) (e : Int) (L : List Value) (gc gr gg n : Nat) (C R G : List Int) (base : Nat) (A : Option Addr) (c i : Nat) (N : List Int) : Prop where
  s : RbS w W br b6 bl col m l b e L
  fc : FRow W gc n (fun t => C.getD t 0)
  fr : FRow W gr n (fun t => R.getD t 0)
  fg : FRow W gg n (fun t => G.getD t 0)
  own : W.ownsRow base 3 1 (.slice A i c) i (ivs N)
  hb : b6 < gc ∧ gc < gr ∧ gr < gg ∧ gg < base
  hz : base ≤ W.heap.size
section
variable {w W W' : World} {br b6 bl gc gr gg n base c i : Nat} {col : Nat → Nat} {m : RM} {l : Bil.Lg} {b : List UInt8} {e : Int} {L : List Value} {C R G N : List Int} {A : Option Addr}
theorem RbL.below (h : RbL w W br b6 bl col m l b e L gc gr gg n C R G base A c i N) (hb : Below W.heap.size W W') : RbL w W' br b6 bl col m l b e L gc gr gg n C R G base A c i N :=
  ⟨h.s.down hb, h.fc.below hb, h.fr.below hb, h.fg.below hb, own_below h.own hb, h.hb, Nat.le_trans h.hz hb.size⟩
theorem RbL.app (h : RbL w W br b6 bl col m l b e L gc gr gg n C R G base A c i N) {A' : Option Addr} {c' i' : Nat} {N' : List Int} (own : W'.ownsRow base 3 1 (.slice A' i' c') i' (ivs N')) (gr_ : W.grownBy W' (Value.slice A i c).ownBlock) : RbL w W' br b6 bl col m l b e L gc gr gg n C R G base A' c' i' N' := by
  have ho := h.hb
  have hk : Keep (fun q => base ≤ q) W W' := Keep.of_grown gr_ fun k e => (h.own.lt k e).1
  exact ⟨h.s.far (by omega) hk, h.fc.keeps hk (by omega), h.fr.keeps hk (by omega), h.fg.keeps hk (by omega), own, ho, Nat.le_trans h.hz hk.size⟩
theorem RbL.put (h : RbL w W br b6 bl col m l b e L gc gr gg n C R G base A c i N) (j : Nat) (v : Value) : RbL w (W.setCell ⟨b6, j, none⟩ v) br b6 bl col m l b e (L.set j v) gc gr gg n C R G base A c i N := by
  have ho := h.hb
  have hk : Keep (fun q => q = b6) W (W.setCell ⟨b6, j, none⟩ v) := Keep.of_grown (grown_setCell _ _ _ _) fun k e => (Option.some.inj e).symm
  exact ⟨h.s.put j v, h.fc.keeps hk (by omega), h.fr.keeps hk (by omega), h.fg.keeps hk (by omega), own_far h.own (grown_setCell _ _ _ _) (by omega), ho, Nat.le_trans h.hz hk.size⟩
theorem RbL.fail (h : RbL w W br b6 bl col m l b e L gc gr gg n C R G base A c i N) (e' : Int) : RbL w (W.setCell ⟨br, 1, none⟩ (.int .i64 e')) br b6 bl col m l b e' L gc gr gg n C R G base A c i N := by
  have ho := h.hb
  have hq := h.s.o
  have hk := keep_br W br 1 (.int .i64 e')
  exact ⟨h.s.fail e', h.fc.keeps hk (by omega), h.fr.keeps hk (by omega), h.fg.keeps hk (by omega), own_keepD h.own hk (fun q e => by omega), ho, Nat.le_trans h.hz hk.size⟩
end
/-- behind the append to the granted credits -/
structure RPG (w26 wx : World) (bl n P1 : Nat) (hd : List UInt8) (K : Value) (gg og gc : Nat) (m : RM) (bg cg : Nat) : Prop where
  row : IsRow wx bl 76 (rcs n P1 hd m.bp m.cp m.bq m.cq K (.slice (some ⟨gg, og, none⟩) (m.ks.length + 1) gc))
  gr : ORow wx 29 1 (some ⟨gg, og, none⟩) gc (m.ks.map (RA.gr n) ++ [[.slice (some ⟨bg, 0, none⟩) n cg]])
  hor : (∃ o, m.G = some ⟨gg, o, none⟩) ∨ w26.heap.size ≤ gg
  keep : Keep (fun q => q = bl ∨ ∃ a, m.G = some a ∧ q = a.block) w26 wx
theorem rpg_of {w26 W0 W : World} {bl n P1 gg og gc bg cg : Nat} {m : RM} {hd : List UInt8} {K : Value} (h16 : hd.length = 16) (hrw : IsRow w26 bl 76 (rcs n P1 hd m.bp m.cp m.bq m.cq K (.slice m.G m.ks.length m.d))) (hm : ∀ a, m.G = some a → a.block < w26.heap.size ∧ a.block ≠ bl)
    (hb : Below w26.heap.size w26 W0) (hg : W0.grownBy W (some gg)) (hK : ORow W 29 1 (some ⟨gg, og, none⟩) gc (m.ks.map (RA.gr n) ++ [[.slice (some ⟨bg, 0, none⟩) n cg]])) (hor : (∃ o, m.G = some ⟨gg, o, none⟩) ∨ gg = W0.heap.size) :
    RPG w26 (W.setCell ⟨bl, 21, none⟩ (.slice (some ⟨gg, og, none⟩) (m.ks.length + 1) gc)) bl n P1 hd K gg og gc m bg cg := by
  have hbl := hrw.lt
  have hz := hb.size
  have hz2 := hg.size
  have hnb : gg ≠ bl := fun e => by
    rcases hor with ⟨o, ho⟩ | ho
    · exact (hm _ ho).2 e
    · omega
  have hgs := grown_setCell W bl 21 (.slice (some ⟨gg, og, none⟩) (m.ks.length + 1) gc)
  refine ⟨?_, ?_, ?_, ?_⟩
  · have := ((hrw.below' hb).grown hg (by intro e; exact hnb (Option.some.inj e))).set 21 (.slice (some ⟨gg, og, none⟩) (m.ks.length + 1) gc)
    rw [rcs_set21 h16] at this; exact this
  · exact hK.keep fun a ha => by
      have hal := hK.lt ha
      obtain rfl := Option.some.inj ha
      exact hgs.block _ hal (fun e => hnb (Option.some.inj e))
  · rcases hor with ho | ho
    · exact .inl ho
    · exact .inr (by omega)
  · refine ((Keep.of_below hb).grown hg fun k e => ?_).grown hgs fun k e => .inl (.inl (Option.some.inj e).symm)
    have e := Option.some.inj e
    subst e
    rcases hor with ⟨o, ho⟩ | ho
    · exact .inl (.inr ⟨_, ho, rfl⟩)
    · exact .inr (by omega)
/-- the ledger behind both appends -/
theorem rb_mem {w25 w26 w27 : World} {bl B0 N gk ok ck gg og gc c3 c4 c5 bg cg g3 g4 g5 : Nat} {col : Nat → Nat} {m : RM} {l : Bil.Lg} {C U T G : List Int} {P md hh : Int} (hlat : RAt w25 bl col m l) (hn : l.n = N) (hcz : ∀ b, B0 ≤ b → col b = 0) (hC : C.length = N) (hU : U.length = N) (hT : T.length = N) (hG : G.length = N)
    (F3 : FRow w25 g3 N (fun t => C.getD t 0)) (F4 : FRow w25 g4 N (fun t => U.getD t 0)) (F5 : FRow w25 g5 N (fun t => T.getD t 0)) (FB : FRow w25 bg N (fun t => G.getD t 0)) (o : B0 ≤ g3 ∧ g3 < g4 ∧ g4 < bg ∧ bg < g5) (hlen : m.ks.length < 16)
    (p26 : RP26 w25 w26 bl N l.periods l.head gk ok ck m [.int .i64 P, .int .i64 md, .int .i64 hh, .slice (some ⟨g3, 0, none⟩) N c3, .slice (some ⟨g4, 0, none⟩) N c4, .slice (some ⟨g5, 0, none⟩) N c5]) (p27 : RPG w26 w27 bl N l.periods l.head (.slice (some ⟨gk, ok, none⟩) (m.ks.length + 1) ck) gg og gc m bg cg)
    (ht : 2 < B0 ∧ 0 < B0 ∧ 1 < B0) :
    ∃ col' m', RAt w27 bl col' m' { l with kept := l.kept ++ [(⟨⟨P, md, hh, C, U, T⟩, G⟩ : Bil.Acc)] } ∧ (∀ b, col' b ≠ 0 → col b ≠ 0 ∨ B0 ≤ b) ∧ Keep (fun q => col q ≠ 0) w25 w27 := by
  have hn1 := hlat.n1
  have hbl := hlat.cbl
  have hAl : ∀ a, m.A = some a → col a.block = 4 := hlat.cka
  have hGl : ∀ a, m.G = some a → col a.block = 5 := hlat.cga
  have K27 : Keep (fun q => q = bl ∨ (∃ a, m.A = some a ∧ q = a.block) ∨ ∃ a, m.G = some a ∧ q = a.block) w25 w27 := (p26.keep.mono fun k _ e => e.elim .inl (fun e => .inr (.inl e))).trans (p27.keep.mono fun k _ e => e.elim .inl (fun e => .inr (.inr e)))
  have hS : ∀ q, (q = bl ∨ (∃ a, m.A = some a ∧ q = a.block) ∨ ∃ a, m.G = some a ∧ q = a.block) → col q ≠ 0 := fun q e => by
    rcases e with e | ⟨a, ha, e⟩ | ⟨a, ha, e⟩
    · subst e; omega
    · subst e; have := hAl a ha; omega
    · subst e; have := hGl a ha; omega
  have far : ∀ b, B0 ≤ b → ¬ (b = bl ∨ (∃ a, m.A = some a ∧ b = a.block) ∨ ∃ a, m.G = some a ∧ b = a.block) := fun b hb e => (hS b e) (hcz b hb)
  have l3 := F3.lt
  have l4 := F4.lt
  have l5 := F5.lt
  have lb := FB.lt
  have F3 := F3.keeps K27 (far g3 (by omega))
  have F4 := F4.keeps K27 (far g4 (by omega))
  have F5 := F5.keeps K27 (far g5 (by omega))
  have FB := FB.keeps K27 (far bg (by omega))
  have z26 := p26.keep.size
  have z27 := p27.keep.size
  have hbll := hlat.row.lt
  have hgk : ∀ b, B0 ≤ b → b < w25.heap.size → b ≠ gk := fun b h1 h2 e => by
    rcases p26.hor with ⟨o, ho⟩ | ho
    · have : col gk = 4 := hAl _ ho
      have := hcz b h1
      subst e; omega
    · omega
  have hgg : ∀ b, B0 ≤ b → b < w26.heap.size → b ≠ gg := fun b h1 h2 e => by
    rcases p27.hor with ⟨o, ho⟩ | ho
    · have : col gg = 5 := hGl _ ho
      have := hcz b h1
      subst e; omega
    · omega
  have hgkl : gk < w26.heap.size := p26.kr.lt rfl
  have hggl : gg < w27.heap.size := p27.gr.lt rfl
  have hB : B0 ≤ w25.heap.size := by omega
  have hgkg : gk ≠ gg := fun e => by
    rcases p26.hor with ⟨o, ho⟩ | ho
    · have h1 : col gk = 4 := hAl _ ho
      rcases p27.hor with ⟨o', ho'⟩ | ho'
      · have h2 : col gg = 5 := hGl _ ho'
        rw [e] at h1; omega
      · omega
    · exact hgg gk (by omega) hgkl e
  have hkbl : gk ≠ bl := fun e => by
    rcases p26.hor with ⟨o, ho⟩ | ho
    · have h1 : col gk = 4 := hAl _ ho
      rw [e] at h1; omega
    · omega
  have hgbl : gg ≠ bl := fun e => by
    rcases p27.hor with ⟨o, ho⟩ | ho
    · have h1 : col gg = 5 := hGl _ ho
      rw [e] at h1; omega
    · omega
  have hkn : RNew w27 B0 l.n gk gg ⟨⟨⟨P, md, hh, C, U, T⟩, G⟩, g3, c3, g4, c4, g5, c5, bg, cg⟩ := by
    rw [hn]
    refine ⟨F3, F4, F5, FB, hC, hU, hT, hG, ?_, ?_, ?_, ?_, ⟨hgk _ ?_ ?_, hgg _ ?_ ?_, ?_⟩, ⟨hgk _ ?_ ?_, hgg _ ?_ ?_, ?_⟩, ⟨hgk _ ?_ ?_, hgg _ ?_ ?_, ?_⟩, ⟨hgk _ ?_ ?_, hgg _ ?_ ?_⟩⟩ <;> dsimp only <;> omega
  have hkk : (m.ks.map (RA.bill N) ++ [[.int .i64 P, .int .i64 md, .int .i64 hh, .slice (some ⟨g3, 0, none⟩) N c3, .slice (some ⟨g4, 0, none⟩) N c4, .slice (some ⟨g5, 0, none⟩) N c5]] : List (List Value)) = (m.ks ++ [(⟨⟨⟨P, md, hh, C, U, T⟩, G⟩, g3, c3, g4, c4, g5, c5, bg, cg⟩ : RA)]).map (RA.bill N) := by
    rw [List.map_append]; rfl
  have hgg' : (m.ks.map (RA.gr N) ++ [[.slice (some ⟨bg, 0, none⟩) N cg]] : List (List Value)) = (m.ks ++ [(⟨⟨⟨P, md, hh, C, U, T⟩, G⟩, g3, c3, g4, c4, g5, c5, bg, cg⟩ : RA)]).map (RA.gr N) := by
    rw [List.map_append]; rfl
  have hlenk : (m.ks ++ [(⟨⟨⟨P, md, hh, C, U, T⟩, G⟩, g3, c3, g4, c4, g5, c5, bg, cg⟩ : RA)]).length = m.ks.length + 1 := by simp
  have hkr : ORow w27 31 6 (some ⟨gk, ok, none⟩) ck (((m.ks ++ [(⟨⟨⟨P, md, hh, C, U, T⟩, G⟩, g3, c3, g4, c4, g5, c5, bg, cg⟩ : RA)]).drop 0).map (RA.bill l.n)) := by
    have h1 := p26.kr
    rw [hkk] at h1
    rw [hn, List.drop_zero]
    refine h1.keep fun a ha => ?_
    obtain rfl := Option.some.inj ha
    refine p27.keep.block _ (by show gk < _; omega) fun e => ?_
    rcases e with e | ⟨a, ha, e⟩
    · exact hkbl e
    · have h2 := hGl a ha
      have e : gk = a.block := e
      rcases p26.hor with ⟨o, ho⟩ | ho
      · have h1 : col gk = 4 := hAl _ ho
        rw [e] at h1; omega
      · have := hlat.grow.lt ha; omega
  have hgr : ORow w27 29 1 (some ⟨gg, og, none⟩) gc (((m.ks ++ [(⟨⟨⟨P, md, hh, C, U, T⟩, G⟩, g3, c3, g4, c4, g5, c5, bg, cg⟩ : RA)]).drop 0).map (RA.gr l.n)) := by
    have h1 := p27.gr
    rw [hgg'] at h1
    rw [hn, List.drop_zero]
    exact h1
  obtain ⟨col', h1, h2, _⟩ := RAt.pushed hlat K27 B0 hcz ht _ gk ok ck gg og gc 0 hkn hkr hgr (by rw [List.drop_zero, hlenk]; omega)
    (by rcases p26.hor with ⟨o, ho⟩ | ho; exact .inl ⟨_, ho⟩; exact .inr (by omega)) (by rcases p27.hor with ⟨o, ho⟩ | ho; exact .inl ⟨_, ho⟩; exact .inr (by omega)) hgkg
    (by have := p27.row; unfold rcs at this; unfold RM.cells; dsimp only; rw [List.drop_zero, hlenk, hn]; exact this)
  exact ⟨col', _, h1, h2, K27.mono fun k _ e => hS k e⟩
/-- what bill gives -/
def RbRes (w W : World) (br bl : Nat) (col : Nat → Nat) (l : Bil.Lg) (R : Bil.Acc × List UInt8 × Int) : Prop := ∃ col' m' l', RAt W bl col' m' l' ∧ l'.n = l.n ∧ l'.periods = l.periods ∧ (∀ b, col' b ≠ 0 → col b ≠ 0 ∨ w.heap.size ≤ b) ∧ RSt W br R.2.1 R.2.2 ∧ Keep (fun q => q = br ∨ col q ≠ 0) w W ∧ (R.2.2 = 0 → l' = { l with kept := l.kept ++ [R.1] })
set_option maxRecDepth 100000 in
set_option maxHeartbeats 3200000 in
theorem rbill_any (br bl : Nat) (b : List UInt8) (p : Int) (n : Nat) (col : Nat → Nat) (m0 : RM) (l : Bil.Lg) (hn : l.n = n) (hks : l.kept.length < 16) (hcb : ∀ q, col q ≠ 0 → br < q) (w : World) (h : RSt w br b 0) (hl : RAt w bl col m0 l) (hTs : 2 < w.heap.size ∧ 0 < w.heap.size ∧ 1 < w.heap.size) :
    Calls Tryd.prog 67 #[.pointer (some ⟨bl, 0, none⟩), .pointer (some ⟨br, 0, none⟩), .int .i64 p] w fun r w' => r = .returned (.tuple #[]) ∧ RbRes w w' br bl col l (Bil.acct b p n) := by
  obtain ⟨m, b1, e1, h1⟩ : ∃ m b1 e1, Bil.num b 0 0 Bil.MX = (m, b1, e1) := ⟨_, _, _, rfl⟩
  obtain ⟨hh, b2, e2, h2⟩ : ∃ z b1' e1', Bil.num b1 e1 0 m = (z, b1', e1') := ⟨_, _, _, rfl⟩
  obtain ⟨C, b3, e3, h3⟩ : ∃ z b1' e1', (Bil.lst b2 e2 n fun _ => Bil.MX) = (z, b1', e1') := ⟨_, _, _, rfl⟩
  obtain ⟨R, b4, e4, h4⟩ : ∃ z b1' e1', (Bil.lst b3 e3 n fun i => C.getD i 0) = (z, b1', e1') := ⟨_, _, _, rfl⟩
  obtain ⟨G, b5, e5, h5⟩ : ∃ z b1' e1', (Bil.lst b4 e4 n fun i => C.getD i 0) = (z, b1', e1') := ⟨_, _, _, rfl⟩
  have hac : Bil.acct b p n = if e5 = 0 then (if R.sum ≤ hh ∧ hh + (Bil.netL C R).sum = m then (⟨⟨p, m, hh, C, R, Bil.netL C R⟩, G⟩, b5, 0) else (Bil.zacc, b5, 6)) else (Bil.zacc, b5, e5) := by
    unfold Bil.acct
    simp only [h1, h2, h3, h4, h5]
  have HAC := Lib.hid hac
  have H5 := Lib.hid (fun (hz : e5 = 0) => by
    have q5 := Bil.lst_ok (b := b4) (e := e4) (n := n) (mx := fun i => C.getD i 0) (by rw [h5]; exact hz)
    have q4 := Bil.lst_ok (b := b3) (e := e3) (n := n) (mx := fun i => C.getD i 0) (by rw [h4]; exact q5.1)
    have q3 := Bil.lst_ok (b := b2) (e := e2) (n := n) (mx := fun _ => Bil.MX) (by rw [h3]; exact q4.1)
    have q2 := Bil.num_ok (b := b1) (e := e1) (lo := 0) (hi := m) (by rw [h2]; exact q3.1)
    have q1 := Bil.num_ok (b := b) (e := 0) (lo := 0) (hi := Bil.MX) (by rw [h1]; exact q2.1)
    rw [h5] at q5
    rw [h4] at q4
    rw [h3] at q3
    rw [h2] at q2
    rw [h1] at q1
    exact (And.intro q5.2.1 (And.intro q4.2.1 (And.intro q3.2.1 (And.intro q4.2.2.1 (And.intro q3.2.2.1 (And.intro (And.intro q2.2.1 q2.2.2.1) (And.intro q1.2.1 q1.2.2.1)))))) : G.length = n ∧ R.length = n ∧ C.length = n ∧ (∀ i, i < n → 0 ≤ R.getD i 0 ∧ R.getD i 0 ≤ C.getD i 0) ∧ (∀ i, i < n → 0 ≤ C.getD i 0 ∧ C.getD i 0 ≤ Bil.MX) ∧ (0 ≤ hh ∧ hh ≤ m) ∧ 0 ≤ m ∧ m ≤ Bil.MX))
  have HE3 : Hid (e3 = 0 → C.length = n) := Lib.hid (fun hz => by
    have q3 := Bil.lst_ok (b := b2) (e := e2) (n := n) (mx := fun _ => Bil.MX) (by rw [h3]; exact hz)
    rw [h3] at q3
    exact q3.2.1)
  have hn16 : n ≤ 16 := by rw [← hn]; exact hl.n2
  have hn1 : 1 ≤ n := by rw [← hn]; exact hl.n1
  have HT1 : Hid (∀ W, RSt W br b 0 → Calls Tryd.prog 64 #[.pointer (some ⟨br, 0, none⟩), .int .i64 0, .int .i64 1099511627776] W fun r w' => r = .returned (.int .i64 m) ∧ RSt w' br b1 e1 ∧ Keep (fun q => q = br) W w') := Lib.hid (fun W hst => by have := rnumber_any br b 0 0 1099511627776 W hst; rw [show Bil.num b 0 0 1099511627776 = (m, b1, e1) from h1] at this; exact this)
  have HT2 : Hid (∀ W, RSt W br b1 e1 → Calls Tryd.prog 64 #[.pointer (some ⟨br, 0, none⟩), .int .i64 0, .int .i64 m] W fun r w' => r = .returned (.int .i64 hh) ∧ RSt w' br b2 e2 ∧ Keep (fun q => q = br) W w') := Lib.hid (fun W hst => by have := rnumber_any br b1 e1 0 m W hst; rw [h2] at this; exact this)
  have HT3 : Hid (∀ W, RSt W br b2 e2 → ∀ Am cm, Rd W W.heap.size 1 Am n (ivs (List.replicate n 1099511627776)) → Calls Tryd.prog 66 #[.pointer (some ⟨br, 0, none⟩), .int .i64 (n : Int), .slice Am n cm] W fun r w' => ∃ A c, r = .returned (.slice A C.length c) ∧ w'.ownsRow W.heap.size 3 1 (.slice A C.length c) C.length (ivs C) ∧ RSt w' br b3 e3 ∧ Keep (fun q => q = br) W w') := Lib.hid (fun W hst Am cm rm => by
    have := rlist_most br b2 e2 n hn16 Am cm (List.replicate n 1099511627776) W hst (by simp) rm
    rw [lst_congr (g := fun _ => Bil.MX) (fun i hi => by simp [List.getD, hi, Bil.MX]), h3] at this
    exact this)
  have HT4 : Hid (C.length = n → ∀ W, RSt W br b3 e3 → ∀ Am cm, Rd W W.heap.size 1 Am n (ivs C) → Calls Tryd.prog 66 #[.pointer (some ⟨br, 0, none⟩), .int .i64 (n : Int), .slice Am n cm] W fun r w' => ∃ A c, r = .returned (.slice A R.length c) ∧ w'.ownsRow W.heap.size 3 1 (.slice A R.length c) R.length (ivs R) ∧ RSt w' br b4 e4 ∧ Keep (fun q => q = br) W w') := Lib.hid (fun q W hst Am cm rm => by
    have := rlist_most br b3 e3 n hn16 Am cm C W hst q rm
    rw [h4] at this
    exact this)
  have HT5 : Hid (C.length = n → ∀ W, RSt W br b4 e4 → ∀ Am cm, Rd W W.heap.size 1 Am n (ivs C) → Calls Tryd.prog 66 #[.pointer (some ⟨br, 0, none⟩), .int .i64 (n : Int), .slice Am n cm] W fun r w' => ∃ A c, r = .returned (.slice A G.length c) ∧ w'.ownsRow W.heap.size 3 1 (.slice A G.length c) G.length (ivs G) ∧ RSt w' br b5 e5 ∧ Keep (fun q => q = br) W w') := Lib.hid (fun q W hst Am cm rm => by
    have := rlist_most br b4 e4 n hn16 Am cm C W hst q rm
    rw [h5] at this
    exact this)
  have HE := Lib.hid (And.intro h4 h5)
  have HNN := Lib.hid hn
  have HN := Lib.hid (And.intro hn1 hn16)
  have HKS : Hid (m0.ks.length < 16) := Lib.hid (by rw [← hl.klen]; exact hks)
  have HTS := Lib.hid hTs
  have HCB := Lib.hid hcb
  obtain ⟨b6, hb6⟩ : ∃ x, w.heap.size = x := ⟨_, rfl⟩
  have HST : Hid (RSt w br b 0 ∧ RAt w bl col m0 l ∧ w.heap.size = b6 ∧ br < b6 ∧ col br = 0 ∧ ∀ q, b6 ≤ q → col q = 0) := Lib.hid ⟨h, hl, hb6, by rw [← hb6]; exact h.lt, by
    rcases Nat.eq_zero_or_pos (col br) with h0 | h0
    · exact h0
    · have := hcb br (by omega); omega, fun q hq => by
    rcases Nat.eq_zero_or_pos (col q) with h0 | h0
    · exact h0
    · have := hl.lt q (by omega); omega⟩
  clear h1 h2 h3 h4 h5 hac h hl hn hn1 hn16 hks hTs hcb hb6
  go_enter Tryd.func67, Tryd.ntmps67
  go_upto_region 1 with (first
    | (have hgd := r6; refine wpList_storeRow rfl _ (.tmp 6) (.tmp 14) rfl (l' := [.int .i64 p, .int .i64 0, .int .i64 0, .slice none 0 0, .slice none 0 0, .slice none 0 0]) r6 rfl rfl size6 rfl rfl ?_; intro w1 r1 g1 z1)
    | (refine wpList_allocRow rfl _ rfl _ info6 ?_; intro w0 r6 b0 z0))
  have HS1 : Hid (RbS w w1 br b6 bl col m0 l b 0 [.int .i64 p, .int .i64 0, .int .i64 0, .slice none 0 0, .slice none 0 0, .slice none 0 0]) := Lib.hid (by
    obtain ⟨q1, q2, q3, q4, q5, q6⟩ := HST.out
    rw [q3] at r1 g1
    have hk : Keep (fun q => q = b6) w0 w1 := Keep.of_grown g1 fun k e => (Option.some.inj e).symm
    exact ⟨(Keep.of_below b0).grown g1 fun k e => .inr (by have := Option.some.inj e; omega), r1, (q1.below b0).keeps hk (fun q hq e => by omega), (q2.below b0).keeps hk (fun q e => by subst e; exact q6 _ (Nat.le_refl _)), q3, q4, q5, q6⟩)
  rw [show w.heap.size = b6 from HST.out.2.2.1]
  clear r6 b0 z0 r1 g1 z1
  go_upto_region 2 with (go_at_call 64; refine (HT1.out w1 HS1.out.st).mono ?_; rintro r w2 ⟨rfl, s1, k1⟩; have HS2 := Lib.hid (HS1.out.next s1 k1); have q1 : w2.cell? ⟨b6, 1, none⟩ = some (.int .i64 0) := HS2.out.r6.cell 1; have f1 : w2.frozen? ⟨b6, 1, none⟩ = false := HS2.out.r6.frozen 1; clear s1 k1)
  obtain ⟨w3, hw3⟩ : ∃ x, w2.setCell ⟨b6, 1, none⟩ (.int .i64 m) = x := ⟨_, rfl⟩
  have HS3 := Lib.hid (HS2.out.put 1 (.int .i64 m))
  rw [hw3] at HS3 ⊢
  clear hw3 q1 f1 HT1 HS1 HS2
  have q1 : w3.cell? ⟨b6, 1, none⟩ = some (.int .i64 m) := HS3.out.r6.cell 1
  go_upto_region 3 with (go_at_call 64; refine (HT2.out w3 HS3.out.st).mono ?_; rintro r w4 ⟨rfl, s1, k1⟩; have HS4 := Lib.hid (HS3.out.next s1 k1); have q2 : w4.cell? ⟨b6, 2, none⟩ = some (.int .i64 0) := HS4.out.r6.cell 2; have f2 : w4.frozen? ⟨b6, 2, none⟩ = false := HS4.out.r6.frozen 2; clear s1 k1)
  obtain ⟨w5, hw5⟩ : ∃ x, w4.setCell ⟨b6, 2, none⟩ (.int .i64 hh) = x := ⟨_, rfl⟩
  have HS5 : Hid (RbS w (w4.setCell ⟨b6, 2, none⟩ (.int .i64 hh)) br b6 bl col m0 l b2 e2 [.int .i64 p, .int .i64 m, .int .i64 hh, .slice none 0 0, .slice none 0 0, .slice none 0 0]) := Lib.hid (HS4.out.put 2 (.int .i64 hh))
  rw [hw5] at HS5 ⊢
  clear hw5 q1 q2 f2 HT2 HS3 HS4
  obtain ⟨base, hbase⟩ : ∃ x, w5.heap.size = x := ⟨_, rfl⟩
  have HBA : Hid (b6 < base ∧ base ≤ w5.heap.size) := Lib.hid ⟨by rw [← hbase]; exact HS5.out.size, by omega⟩
  clear hbase
  go_wp2_with fail
  go_loopw [7, 8] (fun u7 u8 wr => ∃ (i : Nat) (A : Option Addr) (c : Nat), i ≤ n ∧ u8 = .int .i64 (i : Int) ∧ u7 = .slice A i c ∧ Hid (RbS w wr br b6 bl col m0 l b2 e2 [.int .i64 p, .int .i64 m, .int .i64 hh, .slice none 0 0, .slice none 0 0, .slice none 0 0] ∧ base ≤ wr.heap.size ∧ wr.ownsRow base 3 1 (.slice A i c) i (ivs (List.replicate i 1099511627776)))) (fun _ u8 _ => n - (intOf u8).toNat)
  case atStart => exact ⟨0, none, 0, Nat.zero_le _, rfl, rfl, Lib.hid ⟨HS5.out, HBA.out.2, World.ownsRow_nil _ _ _ _⟩⟩
  case round =>
    clear HS5
    obtain ⟨i, A, c, hi, rfl, rfl, HO⟩ := hrel
    have c0 : wr.cell? ⟨bl, 0, none⟩ = some (.int .i64 (n : Int)) := HO.out.1.n0 HNN.out
    by_cases hlt : i < n
    · have i1 : (i : Int) < (n : Int) := by omega
      have HE2 : Hid (ivs (List.replicate i 1099511627776) ++ [Value.int .i64 1099511627776] = ivs (List.replicate (i + 1) 1099511627776)) := Lib.hid (by rw [List.replicate_succ']; simp [ivs])
      have mw : IntKind.i64.wrap ((i : Int) + 1) = ((i + 1 : Nat) : Int) := by rw [Int.natCast_add]; exact IntWalk.i64_in _ (by have := HN.out.2; omega)
      have HJ : Hid ((i + 1) * 8 ≤ 140737488355328) := Lib.hid (by have := HN.out.2; omega)
      go_wp2_with (at_builtin; refine wpList_app1 rfl (.tmp 31) (.tmp 32) 29 rfl base 3 _ 8 bintT A i c (ivs (List.replicate i 1099511627776)) (.int .i64 1099511627776) rfl rfl HO.out.2.2 (Below.refl 0 _) rfl HJ.out (Nat.zero_le _) HO.out.2.1 ?_; intro g4 c4n w4 own4 hb4 hg4; rw [HE2.out] at own4; have HO4 := Lib.hid (And.intro (HO.out.1.far HBA.out.1 (Keep.of_grown (S := fun q => base ≤ q) hg4.1 fun k e => (HO.out.2.2.lt k e).1)) (And.intro (Nat.le_trans HO.out.2.1 hg4.1.size) own4)); clear own4 hb4 hg4)
      go_roundw
      case rel => exact ⟨i + 1, some ⟨g4, 0, none⟩, c4n, by omega, by go_num, rfl, HO4⟩
      case measure => simp [intOf]; omega
    · obtain rfl : n = i := by omega
      have HRD := Lib.hid (Rd.of_own HO.out.2.2)
      have HZ : Hid (b6 < wr.heap.size) := Lib.hid HO.out.1.size
      go_upto_region 9 with (go_at_call 66; refine (HT3.out wr HO.out.1.st A c HRD.out).mono ?_; rintro r w6 ⟨A3, c3, rfl, own3, s1, k1⟩; have HA6 := Lib.hid (HO.out.1.next s1 k1); have HO3 := Lib.hid own3; have q2 : w6.cell? ⟨b6, 3, none⟩ = some (.slice none 0 0) := HA6.out.r6.cell 3; have f2 : w6.frozen? ⟨b6, 3, none⟩ = false := HA6.out.r6.frozen 3; clear s1 k1 own3)
      obtain ⟨w7, hw7⟩ : ∃ x, w6.setCell ⟨b6, 3, none⟩ (.slice A3 C.length c3) = x := ⟨_, rfl⟩
      have HA7 : Hid (RbS w (w6.setCell ⟨b6, 3, none⟩ (.slice A3 C.length c3)) br b6 bl col m0 l b3 e3 [.int .i64 p, .int .i64 m, .int .i64 hh, .slice A3 C.length c3, .slice none 0 0, .slice none 0 0]) := Lib.hid (HA6.out.put 3 (.slice A3 C.length c3))
      have HO3 := Lib.hid (HA6.out.own HO3.out HZ.out 3 (.slice A3 C.length c3))
      rw [hw7] at HA7 HO3 ⊢
      clear hw7 q2 f2 HT3 HA6 c0 HRD HO hi hlt HBA
      by_cases hz3 : e3 = 0
      case neg =>
        have HZ3 := Lib.hid hz3
        have h4z : b4 = b3 ∧ e4 = e3 ∧ R = [] := by
          have := HE.out.1
          unfold Bil.lst at this
          rw [if_neg hz3] at this
          obtain ⟨q1, q2, q3⟩ : [] = R ∧ b3 = b4 ∧ e3 = e4 := by simpa using this
          exact ⟨q2.symm, q3.symm, q1.symm⟩
        have h5z : b5 = b3 ∧ e5 = e3 ∧ G = [] := by
          have := HE.out.2
          unfold Bil.lst at this
          rw [h4z.2.1, if_neg hz3, h4z.1] at this
          obtain ⟨q1, q2, q3⟩ : [] = G ∧ b3 = b5 ∧ e3 = e5 := by simpa using this
          exact ⟨q2.symm, q3.symm, q1.symm⟩
        have HQ : Hid (Bil.acct b p n = (Bil.zacc, b3, e3)) := Lib.hid (by rw [HAC.out, h5z.2.1, h5z.1, if_neg hz3])
        obtain ⟨rfl, rfl, rfl⟩ := h4z
        obtain ⟨rfl, rfl, rfl⟩ := h5z
        clear hz3 HT4 HT5 HE HAC H5 HE3
        go_wp2_with fail
        have hv0 : RbS w w7.drew br b6 bl col m0 l b5 e5 [.int .i64 p, .int .i64 m, .int .i64 hh, .slice A3 C.length c3, .slice none 0 0, .slice none 0 0] := HA7.out.down (Below.refl _ _).drew
        refine wp_region_late (fun V => V.cell? ⟨bl, 0, none⟩ = some (.int .i64 (n : Int)) ∧ V.cell? ⟨b6, 3, none⟩ = some (.slice A3 C.length c3)) [9] (by kernel_rfl) (⟨(hv0).n0 HNN.out, (hv0).r6.cell 3⟩) (fun hHeld => ?_)
        obtain ⟨wd, hwd⟩ : ∃ x, w7.drew = x := ⟨_, rfl⟩
        rw [hwd] at hv0 hHeld  ⊢
        clear hwd
        refine wpAnyL_take (i := 0) (oi := { dst := some 42, op := Op.move (Operand.tmp 1), type := 105, pos := "ref.go:242", after := #[], guard := none }) (v := ?v0_101) rfl (by kernel_rfl) (by kernel_rfl) (by kernel_rfl) (by kernel_rfl) (fun _ _ _ h => h) (Or.inl ⟨by rfl, ?h0_101⟩) (by assumption) ?r0_101
        case h0_101 =>
          intro W hSW
          try dsimp only at hSW
          go_simp
          try with_reducible rfl
        try simp only [Act.put, List.setIfInBounds_toArray, List.set_cons_zero, List.set_cons_succ]
        refine wpAnyL_take (i := 1) (oi := { dst := some 43, op := Op.move (Operand.tmp 0), type := 40, pos := "ref.go:242", after := #[], guard := none }) (v := ?v1_102) rfl (by kernel_rfl) (by kernel_rfl) (by kernel_rfl) (by kernel_rfl) (fun _ _ _ h => h) (Or.inl ⟨by rfl, ?h1_102⟩) (by assumption) ?r1_102
        case h1_102 =>
          intro W hSW
          try dsimp only at hSW
          go_simp
          try with_reducible rfl
        try simp only [Act.put, List.setIfInBounds_toArray, List.set_cons_zero, List.set_cons_succ]
        refine wpAnyL_take (i := 2) (oi := { dst := some 44, op := Op.nilCheck (Operand.tmp 43), type := 0, pos := "ref.go:242", after := #[{ on := 1, ground := Ground.data }], guard := none }) (v := ?v2_103) rfl (by kernel_rfl) (by kernel_rfl) (by kernel_rfl) (by kernel_rfl) (fun _ _ _ h => h) (Or.inl ⟨by rfl, ?h2_103⟩) (by assumption) ?r2_103
        case h2_103 =>
          intro W hSW
          try dsimp only at hSW
          go_simp
          try with_reducible rfl
        try simp only [Act.put, List.setIfInBounds_toArray, List.set_cons_zero, List.set_cons_succ]
        refine wpAnyL_take (i := 3) (oi := { dst := some 45, op := Op.fieldAddr 76 (Operand.tmp 44) 0, type := 0, pos := "ref.go:242", after := #[{ on := 2, ground := Ground.data }], guard := none }) (v := ?v3_104) rfl (by kernel_rfl) (by kernel_rfl) (by kernel_rfl) (by kernel_rfl) (fun _ _ _ h => h) (Or.inl ⟨by rfl, ?h3_104⟩) (by assumption) ?r3_104
        case h3_104 =>
          intro W hSW
          try dsimp only at hSW
          go_simp
          try with_reducible rfl
        try simp only [Act.put, List.setIfInBounds_toArray, List.set_cons_zero, List.set_cons_succ]
        refine wpAnyL_take (i := 4) (oi := { dst := some 46, op := Op.load 3 (Operand.tmp 45), type := 3, pos := "ref.go:242", after := #[{ on := 3, ground := Ground.data }], guard := none }) (v := ?v4_105) rfl (by kernel_rfl) (by kernel_rfl) (by kernel_rfl) (by kernel_rfl) (fun _ _ _ h => h) (Or.inl ⟨by rfl, ?h4_105⟩) (by assumption) ?r4_105
        case h4_105 =>
          intro W hSW
          try dsimp only at hSW
          have hcc := hSW.1
          go_simp
          try with_reducible rfl
        try simp only [Act.put, List.setIfInBounds_toArray, List.set_cons_zero, List.set_cons_succ]
        refine wpAnyL_take (i := 5) (oi := { dst := some 47, op := Op.fieldAddr 31 (Operand.tmp 6) 3, type := 0, pos := "ref.go:242", after := #[], guard := none }) (v := ?v5_106) rfl (by kernel_rfl) (by kernel_rfl) (by kernel_rfl) (by kernel_rfl) (fun _ _ _ h => h) (Or.inl ⟨by rfl, ?h5_106⟩) (by assumption) ?r5_106
        case h5_106 =>
          intro W hSW
          try dsimp only at hSW
          go_simp
          try with_reducible rfl
        try simp only [Act.put, List.setIfInBounds_toArray, List.set_cons_zero, List.set_cons_succ]
        refine wpAnyL_take (i := 6) (oi := { dst := some 48, op := Op.load 29 (Operand.tmp 47), type := 29, pos := "ref.go:242", after := #[{ on := 5, ground := Ground.data }], guard := none }) (v := ?v6_107) rfl (by kernel_rfl) (by kernel_rfl) (by kernel_rfl) (by kernel_rfl) (fun _ _ _ h => h) (Or.inl ⟨by rfl, ?h6_107⟩) (by assumption) ?r6_107
        case h6_107 =>
          intro W hSW
          try dsimp only at hSW
          have hcc := hSW.2
          go_simp
          try with_reducible rfl
        try simp only [Act.put, List.setIfInBounds_toArray, List.set_cons_zero, List.set_cons_succ]
        refine wpAnyL_ready (rs := [7]) (by kernel_rfl) (by simp) ?_
        refine AllReadyL.cons (o := { dst := some 49, op := Op.call { callee := Callee.value (Operand.func 66), args := #[Operand.tmp 42, Operand.tmp 46, Operand.tmp 48], argTypes := #[105, 3, 29] }, type := 29, pos := "ref.go:242", after := #[{ on := 0, ground := Ground.data }, { on := 4, ground := Ground.data }, { on := 6, ground := Ground.data }], guard := none }) rfl (fun K hK => ?_) AllReadyL.nil
        go_simp
        refine (rlist_err br b5 e5 (n : Int) HZ3.out _ wd (hv0).st).mono ?_
        rintro r w90 ⟨rfl, hw90⟩
        have hv90 : RbS w w90 br b6 bl col m0 l b5 e5 [.int .i64 p, .int .i64 m, .int .i64 hh, .slice A3 C.length c3, .slice none 0 0, .slice none 0 0] := by rw [hw90]; exact hv0
        have k4 : w90.cell? ⟨b6, 4, none⟩ = some (.slice none 0 0) := hv90.r6.cell 4
        have f4 : w90.frozen? ⟨b6, 4, none⟩ = false := hv90.r6.frozen 4
        clear hw90
        refine hK.out _ _ (⟨(hv90).n0 HNN.out, (hv90).r6.cell 3⟩) (fun hHeld => ?_)
        clear hK K
        try simp only [Act.put, List.setIfInBounds_toArray, List.set_cons_zero, List.set_cons_succ]
        refine wpAnyL_take (i := 8) (oi := { dst := some 50, op := Op.fieldAddr 31 (Operand.tmp 6) 4, type := 0, pos := "ref.go:242", after := #[{ on := 0, ground := Ground.phase }, { on := 1, ground := Ground.phase }, { on := 2, ground := Ground.phase }, { on := 3, ground := Ground.phase }, { on := 4, ground := Ground.phase }, { on := 5, ground := Ground.phase }, { on := 6, ground := Ground.phase }, { on := 7, ground := Ground.phase }], guard := none }) (v := ?v8_108) rfl (by kernel_rfl) (by kernel_rfl) (by kernel_rfl) (by kernel_rfl) (fun _ _ _ h => h) (Or.inl ⟨by rfl, ?h8_108⟩) (by assumption) ?r8_108
        case h8_108 =>
          intro W hSW
          try dsimp only at hSW
          go_simp
          try with_reducible rfl
        try simp only [Act.put, List.setIfInBounds_toArray, List.set_cons_zero, List.set_cons_succ]
        refine wpAnyL_ready (rs := [9]) (by kernel_rfl) (by simp) ?_
        refine AllReadyL.late (o := { dst := none, op := Op.store 29 (Operand.tmp 50) (Operand.tmp 49), type := 0, pos := "ref.go:242", after := #[{ on := 8, ground := Ground.data }, { on := 7, ground := Ground.data }, { on := 7, ground := Ground.chain }, { on := 0, ground := Ground.phase }, { on := 1, ground := Ground.phase }, { on := 2, ground := Ground.phase }, { on := 3, ground := Ground.phase }, { on := 4, ground := Ground.phase }, { on := 5, ground := Ground.phase }, { on := 6, ground := Ground.phase }, { on := 7, ground := Ground.phase }], guard := none }) rfl (by rfl) (fun K hK => ?_) AllReadyL.nil
        go_simp
        have hv91 := (hv90).put 4 (.slice none 0 0)
        obtain ⟨w91, hw91⟩ : ∃ x, w90.setCell ⟨b6, 4, none⟩ (.slice none 0 0) = x := ⟨_, rfl⟩
        rw [hw91] at hv91
        rw [hw91]
        clear hw91 k4 f4
        refine hK.out _ _ ?_
        clear hK K
        try simp only [Act.put, List.setIfInBounds_toArray, List.set_cons_zero, List.set_cons_succ]
        refine wpAnyL_done (by kernel_rfl) ?_ _
        have HA9 := Lib.hid hv91
        obtain ⟨w9, hw9⟩ : ∃ x, w91 = x := ⟨_, rfl⟩
        rw [hw9] at HA9 ⊢
        clear hv91 hw9
        go_upto_region 10 with fail
        go_wp2_with fail
        have hv0 : RbS w w9.drew br b6 bl col m0 l b5 e5 [.int .i64 p, .int .i64 m, .int .i64 hh, .slice A3 C.length c3, .slice none 0 0, .slice none 0 0] := HA9.out.down (Below.refl _ _).drew
        refine wp_region_held_drew (S := fun V => V.cell? ⟨bl, 0, none⟩ = some (.int .i64 (n : Int)) ∧ V.cell? ⟨b6, 3, none⟩ = some (.slice A3 C.length c3)) (by kernel_rfl) (⟨(hv0).n0 HNN.out, (hv0).r6.cell 3⟩) (fun hHeld => ?_)
        obtain ⟨we, hwe⟩ : ∃ x, w9.drew = x := ⟨_, rfl⟩
        rw [hwe] at hv0 hHeld  ⊢
        clear hwe
        refine wpAnyH_take (i := 0) (oi := { dst := some 51, op := Op.move (Operand.tmp 1), type := 105, pos := "ref.go:243", after := #[], guard := none }) (v := ?v0_201) rfl (by kernel_rfl) (by kernel_rfl) (by kernel_rfl) (fun _ _ _ h => h) (Or.inl ⟨by rfl, ?h0_201⟩) (by assumption) ?r0_201
        case h0_201 =>
          intro W hSW
          try dsimp only at hSW
          go_simp
          try with_reducible rfl
        try simp only [Act.put, List.setIfInBounds_toArray, List.set_cons_zero, List.set_cons_succ]
        refine wpAnyH_take (i := 1) (oi := { dst := some 52, op := Op.move (Operand.tmp 0), type := 40, pos := "ref.go:243", after := #[], guard := none }) (v := ?v1_202) rfl (by kernel_rfl) (by kernel_rfl) (by kernel_rfl) (fun _ _ _ h => h) (Or.inl ⟨by rfl, ?h1_202⟩) (by assumption) ?r1_202
        case h1_202 =>
          intro W hSW
          try dsimp only at hSW
          go_simp
          try with_reducible rfl
        try simp only [Act.put, List.setIfInBounds_toArray, List.set_cons_zero, List.set_cons_succ]
        refine wpAnyH_take (i := 2) (oi := { dst := some 53, op := Op.nilCheck (Operand.tmp 52), type := 0, pos := "ref.go:243", after := #[{ on := 1, ground := Ground.data }], guard := none }) (v := ?v2_203) rfl (by kernel_rfl) (by kernel_rfl) (by kernel_rfl) (fun _ _ _ h => h) (Or.inl ⟨by rfl, ?h2_203⟩) (by assumption) ?r2_203
        case h2_203 =>
          intro W hSW
          try dsimp only at hSW
          go_simp
          try with_reducible rfl
        try simp only [Act.put, List.setIfInBounds_toArray, List.set_cons_zero, List.set_cons_succ]
        refine wpAnyH_take (i := 3) (oi := { dst := some 54, op := Op.fieldAddr 76 (Operand.tmp 53) 0, type := 0, pos := "ref.go:243", after := #[{ on := 2, ground := Ground.data }], guard := none }) (v := ?v3_204) rfl (by kernel_rfl) (by kernel_rfl) (by kernel_rfl) (fun _ _ _ h => h) (Or.inl ⟨by rfl, ?h3_204⟩) (by assumption) ?r3_204
        case h3_204 =>
          intro W hSW
          try dsimp only at hSW
          go_simp
          try with_reducible rfl
        try simp only [Act.put, List.setIfInBounds_toArray, List.set_cons_zero, List.set_cons_succ]
        refine wpAnyH_take (i := 4) (oi := { dst := some 55, op := Op.load 3 (Operand.tmp 54), type := 3, pos := "ref.go:243", after := #[{ on := 3, ground := Ground.data }], guard := none }) (v := ?v4_205) rfl (by kernel_rfl) (by kernel_rfl) (by kernel_rfl) (fun _ _ _ h => h) (Or.inl ⟨by rfl, ?h4_205⟩) (by assumption) ?r4_205
        case h4_205 =>
          intro W hSW
          try dsimp only at hSW
          have hcc := hSW.1
          go_simp
          try with_reducible rfl
        try simp only [Act.put, List.setIfInBounds_toArray, List.set_cons_zero, List.set_cons_succ]
        refine wpAnyH_take (i := 5) (oi := { dst := some 56, op := Op.fieldAddr 31 (Operand.tmp 6) 3, type := 0, pos := "ref.go:243", after := #[], guard := none }) (v := ?v5_206) rfl (by kernel_rfl) (by kernel_rfl) (by kernel_rfl) (fun _ _ _ h => h) (Or.inl ⟨by rfl, ?h5_206⟩) (by assumption) ?r5_206
        case h5_206 =>
          intro W hSW
          try dsimp only at hSW
          go_simp
          try with_reducible rfl
        try simp only [Act.put, List.setIfInBounds_toArray, List.set_cons_zero, List.set_cons_succ]
        refine wpAnyH_take (i := 6) (oi := { dst := some 57, op := Op.load 29 (Operand.tmp 56), type := 29, pos := "ref.go:243", after := #[{ on := 5, ground := Ground.data }], guard := none }) (v := ?v6_207) rfl (by kernel_rfl) (by kernel_rfl) (by kernel_rfl) (fun _ _ _ h => h) (Or.inl ⟨by rfl, ?h6_207⟩) (by assumption) ?r6_207
        case h6_207 =>
          intro W hSW
          try dsimp only at hSW
          have hcc := hSW.2
          go_simp
          try with_reducible rfl
        try simp only [Act.put, List.setIfInBounds_toArray, List.set_cons_zero, List.set_cons_succ]
        refine wpAnyH_ready (rs := [7]) (by kernel_rfl) (by simp) ?_
        refine AllReadyH.cons (o := { dst := some 58, op := Op.call { callee := Callee.value (Operand.func 66), args := #[Operand.tmp 51, Operand.tmp 55, Operand.tmp 57], argTypes := #[105, 3, 29] }, type := 29, pos := "ref.go:243", after := #[{ on := 0, ground := Ground.data }, { on := 4, ground := Ground.data }, { on := 6, ground := Ground.data }], guard := none }) rfl (fun K hK => ?_) AllReadyH.nil
        go_simp
        refine (rlist_err br b5 e5 (n : Int) HZ3.out _ we (hv0).st).mono ?_
        rintro r w190 ⟨rfl, hw190⟩
        have hv190 : RbS w w190 br b6 bl col m0 l b5 e5 [.int .i64 p, .int .i64 m, .int .i64 hh, .slice A3 C.length c3, .slice none 0 0, .slice none 0 0] := by rw [hw190]; exact hv0
        clear hw190
        refine hK.out _ _ (⟨(hv190).n0 HNN.out, (hv190).r6.cell 3⟩) (fun hHeld => ?_)
        clear hK K
        try simp only [Act.put, List.setIfInBounds_toArray, List.set_cons_zero, List.set_cons_succ]
        refine wpAnyH_take (i := 8) (oi := { dst := some 9, op := Op.assign (Operand.tmp 58), type := 29, pos := "ref.go:243", after := #[{ on := 7, ground := Ground.data }, { on := 7, ground := Ground.chain }, { on := 0, ground := Ground.phase }, { on := 1, ground := Ground.phase }, { on := 2, ground := Ground.phase }, { on := 3, ground := Ground.phase }, { on := 4, ground := Ground.phase }, { on := 5, ground := Ground.phase }, { on := 6, ground := Ground.phase }, { on := 7, ground := Ground.phase }], guard := none }) (v := ?v8_208) rfl (by kernel_rfl) (by kernel_rfl) (by kernel_rfl) (fun _ _ _ h => h) (Or.inl ⟨by rfl, ?h8_208⟩) (by assumption) ?r8_208
        case h8_208 =>
          intro W hSW
          try dsimp only at hSW
          go_simp
          try with_reducible rfl
        try simp only [Act.put, List.setIfInBounds_toArray, List.set_cons_zero, List.set_cons_succ]
        refine wpAnyH_done (by kernel_rfl) ?_ _
        have HA10 := Lib.hid hv190
        have qe : w190.cell? ⟨br, 1, none⟩ = some (.int .i64 e5) := (hv190).st.cell1
        have hne : (e5 != 0) = true := by rw [bne_iff_ne]; exact HZ3.out
        clear hv190
        go_wp2_with fail
        refine bodyPost_ret (results_none rfl _ _ _) rfl ?_
        rw [HQ.out]
        exact ⟨rfl, col, m0, l, HA10.out.lat, rfl, rfl, fun b hb => .inl hb, HA10.out.st, HA10.out.k.mono fun k _ e => .inl e, fun e => absurd e HZ3.out⟩
      case pos =>
      subst hz3
      obtain ⟨gc, rfl, hgc, hfc⟩ := FRow.of_own (by have := HO3.out; rw [HE3.out rfl] at this; exact this) HN.out.1
      have HC := Lib.hid (And.intro (HE3.out rfl) (And.intro (show b6 < gc by have := HZ.out; omega) hfc))
      rw [show C.length = n from HC.out.1] at HA7
      try rw [show C.length = n from HC.out.1]
      clear hgc hfc HO3 HE3
      go_wp2_with fail
      have HFD : Hid (FRow w7.drew gc n (fun t => C.getD t 0)) := Lib.hid (HC.out.2.2.below (Below.refl _ _).drew)
      have HDZ : Hid (w7.heap.size ≤ w7.drew.heap.size) := Lib.hid (Nat.le_refl _)
      have hv0 : RbS w w7.drew br b6 bl col m0 l b3 0 [.int .i64 p, .int .i64 m, .int .i64 hh, .slice (some ⟨gc, 0, none⟩) n c3, .slice none 0 0, .slice none 0 0] := HA7.out.down (Below.refl _ _).drew
      refine wp_region_late (fun V => V.cell? ⟨bl, 0, none⟩ = some (.int .i64 (n : Int)) ∧ V.cell? ⟨b6, 3, none⟩ = some (.slice (some ⟨gc, 0, none⟩) n c3)) [9] (by kernel_rfl) (⟨(hv0).n0 HNN.out, (hv0).r6.cell 3⟩) (fun hHeld => ?_)
      obtain ⟨wd, hwd⟩ : ∃ x, w7.drew = x := ⟨_, rfl⟩
      rw [hwd] at hv0 hHeld HFD HDZ ⊢
      clear hwd
      refine wpAnyL_take (i := 0) (oi := { dst := some 42, op := Op.move (Operand.tmp 1), type := 105, pos := "ref.go:242", after := #[], guard := none }) (v := ?v0_301) rfl (by kernel_rfl) (by kernel_rfl) (by kernel_rfl) (by kernel_rfl) (fun _ _ _ h => h) (Or.inl ⟨by rfl, ?h0_301⟩) (by assumption) ?r0_301
      case h0_301 =>
        intro W hSW
        try dsimp only at hSW
        go_simp
        try with_reducible rfl
      try simp only [Act.put, List.setIfInBounds_toArray, List.set_cons_zero, List.set_cons_succ]
      refine wpAnyL_take (i := 1) (oi := { dst := some 43, op := Op.move (Operand.tmp 0), type := 40, pos := "ref.go:242", after := #[], guard := none }) (v := ?v1_302) rfl (by kernel_rfl) (by kernel_rfl) (by kernel_rfl) (by kernel_rfl) (fun _ _ _ h => h) (Or.inl ⟨by rfl, ?h1_302⟩) (by assumption) ?r1_302
      case h1_302 =>
        intro W hSW
        try dsimp only at hSW
        go_simp
        try with_reducible rfl
      try simp only [Act.put, List.setIfInBounds_toArray, List.set_cons_zero, List.set_cons_succ]
      refine wpAnyL_take (i := 2) (oi := { dst := some 44, op := Op.nilCheck (Operand.tmp 43), type := 0, pos := "ref.go:242", after := #[{ on := 1, ground := Ground.data }], guard := none }) (v := ?v2_303) rfl (by kernel_rfl) (by kernel_rfl) (by kernel_rfl) (by kernel_rfl) (fun _ _ _ h => h) (Or.inl ⟨by rfl, ?h2_303⟩) (by assumption) ?r2_303
      case h2_303 =>
        intro W hSW
        try dsimp only at hSW
        go_simp
        try with_reducible rfl
      try simp only [Act.put, List.setIfInBounds_toArray, List.set_cons_zero, List.set_cons_succ]
      refine wpAnyL_take (i := 3) (oi := { dst := some 45, op := Op.fieldAddr 76 (Operand.tmp 44) 0, type := 0, pos := "ref.go:242", after := #[{ on := 2, ground := Ground.data }], guard := none }) (v := ?v3_304) rfl (by kernel_rfl) (by kernel_rfl) (by kernel_rfl) (by kernel_rfl) (fun _ _ _ h => h) (Or.inl ⟨by rfl, ?h3_304⟩) (by assumption) ?r3_304
      case h3_304 =>
        intro W hSW
        try dsimp only at hSW
        go_simp
        try with_reducible rfl
      try simp only [Act.put, List.setIfInBounds_toArray, List.set_cons_zero, List.set_cons_succ]
      refine wpAnyL_take (i := 4) (oi := { dst := some 46, op := Op.load 3 (Operand.tmp 45), type := 3, pos := "ref.go:242", after := #[{ on := 3, ground := Ground.data }], guard := none }) (v := ?v4_305) rfl (by kernel_rfl) (by kernel_rfl) (by kernel_rfl) (by kernel_rfl) (fun _ _ _ h => h) (Or.inl ⟨by rfl, ?h4_305⟩) (by assumption) ?r4_305
      case h4_305 =>
        intro W hSW
        try dsimp only at hSW
        have hcc := hSW.1
        go_simp
        try with_reducible rfl
      try simp only [Act.put, List.setIfInBounds_toArray, List.set_cons_zero, List.set_cons_succ]
      refine wpAnyL_take (i := 5) (oi := { dst := some 47, op := Op.fieldAddr 31 (Operand.tmp 6) 3, type := 0, pos := "ref.go:242", after := #[], guard := none }) (v := ?v5_306) rfl (by kernel_rfl) (by kernel_rfl) (by kernel_rfl) (by kernel_rfl) (fun _ _ _ h => h) (Or.inl ⟨by rfl, ?h5_306⟩) (by assumption) ?r5_306
      case h5_306 =>
        intro W hSW
        try dsimp only at hSW
        go_simp
        try with_reducible rfl
      try simp only [Act.put, List.setIfInBounds_toArray, List.set_cons_zero, List.set_cons_succ]
      refine wpAnyL_take (i := 6) (oi := { dst := some 48, op := Op.load 29 (Operand.tmp 47), type := 29, pos := "ref.go:242", after := #[{ on := 5, ground := Ground.data }], guard := none }) (v := ?v6_307) rfl (by kernel_rfl) (by kernel_rfl) (by kernel_rfl) (by kernel_rfl) (fun _ _ _ h => h) (Or.inl ⟨by rfl, ?h6_307⟩) (by assumption) ?r6_307
      case h6_307 =>
        intro W hSW
        try dsimp only at hSW
        have hcc := hSW.2
        go_simp
        try with_reducible rfl
      try simp only [Act.put, List.setIfInBounds_toArray, List.set_cons_zero, List.set_cons_succ]
      refine wpAnyL_ready (rs := [7]) (by kernel_rfl) (by simp) ?_
      refine AllReadyL.cons (o := { dst := some 49, op := Op.call { callee := Callee.value (Operand.func 66), args := #[Operand.tmp 42, Operand.tmp 46, Operand.tmp 48], argTypes := #[105, 3, 29] }, type := 29, pos := "ref.go:242", after := #[{ on := 0, ground := Ground.data }, { on := 4, ground := Ground.data }, { on := 6, ground := Ground.data }], guard := none }) rfl (fun K hK => ?_) AllReadyL.nil
      go_simp
      refine (HT4.out HC.out.1 wd (hv0).st (some ⟨gc, 0, none⟩) c3 (HFD.out.rd HC.out.1)).mono ?_
      rintro r w90 ⟨A4, c4, rfl, own4, s1, k1⟩
      have hv90 := (hv0).next s1 k1
      have HF8 := Lib.hid (HFD.out.keeps k1 (show ¬ gc = br by have := hv90.o; have := HC.out.2.1; omega))
      have HS4 := Lib.hid (fun (a : Addr) (ha : A4 = some a) => (own4.lt a.block (by rw [ha]; rfl)).2)
      have HO4 := Lib.hid own4
      have k4 : w90.cell? ⟨b6, 4, none⟩ = some (.slice none 0 0) := hv90.r6.cell 4
      have f4 : w90.frozen? ⟨b6, 4, none⟩ = false := hv90.r6.frozen 4
      clear s1 k1 own4
      refine hK.out _ _ (⟨(hv90).n0 HNN.out, (hv90).r6.cell 3⟩) (fun hHeld => ?_)
      clear hK K
      try simp only [Act.put, List.setIfInBounds_toArray, List.set_cons_zero, List.set_cons_succ]
      refine wpAnyL_take (i := 8) (oi := { dst := some 50, op := Op.fieldAddr 31 (Operand.tmp 6) 4, type := 0, pos := "ref.go:242", after := #[{ on := 0, ground := Ground.phase }, { on := 1, ground := Ground.phase }, { on := 2, ground := Ground.phase }, { on := 3, ground := Ground.phase }, { on := 4, ground := Ground.phase }, { on := 5, ground := Ground.phase }, { on := 6, ground := Ground.phase }, { on := 7, ground := Ground.phase }], guard := none }) (v := ?v8_308) rfl (by kernel_rfl) (by kernel_rfl) (by kernel_rfl) (by kernel_rfl) (fun _ _ _ h => h) (Or.inl ⟨by rfl, ?h8_308⟩) (by assumption) ?r8_308
      case h8_308 =>
        intro W hSW
        try dsimp only at hSW
        go_simp
        try with_reducible rfl
      try simp only [Act.put, List.setIfInBounds_toArray, List.set_cons_zero, List.set_cons_succ]
      refine wpAnyL_ready (rs := [9]) (by kernel_rfl) (by simp) ?_
      refine AllReadyL.late (o := { dst := none, op := Op.store 29 (Operand.tmp 50) (Operand.tmp 49), type := 0, pos := "ref.go:242", after := #[{ on := 8, ground := Ground.data }, { on := 7, ground := Ground.data }, { on := 7, ground := Ground.chain }, { on := 0, ground := Ground.phase }, { on := 1, ground := Ground.phase }, { on := 2, ground := Ground.phase }, { on := 3, ground := Ground.phase }, { on := 4, ground := Ground.phase }, { on := 5, ground := Ground.phase }, { on := 6, ground := Ground.phase }, { on := 7, ground := Ground.phase }], guard := none }) rfl (by rfl) (fun K hK => ?_) AllReadyL.nil
      go_simp
      have HF9 : Hid (FRow (w90.setCell ⟨b6, 4, none⟩ (.slice A4 R.length c4)) gc n (fun t => C.getD t 0)) := Lib.hid (HF8.out.keeps (Keep.of_grown (grown_setCell _ _ _ _) (S := fun q => q = b6) fun k e => (Option.some.inj e).symm) (by have := HC.out.2.1; omega))
      have HO4 := Lib.hid ((hv90).own HO4.out (by have := HDZ.out; have := HA7.out.size; omega) 4 (.slice A4 R.length c4))
      have HS4 : Hid (∀ g, A4 = some ⟨g, 0, none⟩ → g < (w90.setCell ⟨b6, 4, none⟩ (.slice A4 R.length c4)).heap.size) := Lib.hid (fun g hg => Nat.lt_of_lt_of_le (HS4.out _ hg) (grown_setCell w90 b6 4 (.slice A4 R.length c4)).size)
      have hv91 := (hv90).put 4 (.slice A4 R.length c4)
      obtain ⟨w91, hw91⟩ : ∃ x, w90.setCell ⟨b6, 4, none⟩ (.slice A4 R.length c4) = x := ⟨_, rfl⟩
      rw [hw91] at hv91 HF9 HO4 HS4
      rw [hw91]
      clear hw91 k4 f4
      refine hK.out _ _ ?_
      clear hK K
      try simp only [Act.put, List.setIfInBounds_toArray, List.set_cons_zero, List.set_cons_succ]
      refine wpAnyL_done (by kernel_rfl) ?_ _
      have HA9 := Lib.hid hv91
      obtain ⟨w9, hw9⟩ : ∃ x, w91 = x := ⟨_, rfl⟩
      rw [hw9] at HA9 HF9 HO4 HS4 ⊢
      have HS7 := HDZ
      clear hv91 hw9 HF8 HFD HDZ
      go_upto_region 10 with fail
      go_wp2_with fail
      have HFD : Hid (FRow w9.drew gc n (fun t => C.getD t 0)) := Lib.hid (HF9.out.below (Below.refl _ _).drew)
      have HDZ : Hid (w9.heap.size ≤ w9.drew.heap.size) := Lib.hid (Nat.le_refl _)
      have HOD := Lib.hid (own_below HO4.out (Below.refl _ _).drew)
      have hv0 : RbS w w9.drew br b6 bl col m0 l b4 e4 [.int .i64 p, .int .i64 m, .int .i64 hh, .slice (some ⟨gc, 0, none⟩) n c3, .slice A4 R.length c4, .slice none 0 0] := HA9.out.down (Below.refl _ _).drew
      refine wp_region_held_drew (S := fun V => V.cell? ⟨bl, 0, none⟩ = some (.int .i64 (n : Int)) ∧ V.cell? ⟨b6, 3, none⟩ = some (.slice (some ⟨gc, 0, none⟩) n c3)) (by kernel_rfl) (⟨(hv0).n0 HNN.out, (hv0).r6.cell 3⟩) (fun hHeld => ?_)
      obtain ⟨we, hwe⟩ : ∃ x, w9.drew = x := ⟨_, rfl⟩
      rw [hwe] at hv0 hHeld HFD HDZ HOD ⊢
      clear hwe
      refine wpAnyH_take (i := 0) (oi := { dst := some 51, op := Op.move (Operand.tmp 1), type := 105, pos := "ref.go:243", after := #[], guard := none }) (v := ?v0_401) rfl (by kernel_rfl) (by kernel_rfl) (by kernel_rfl) (fun _ _ _ h => h) (Or.inl ⟨by rfl, ?h0_401⟩) (by assumption) ?r0_401
      case h0_401 =>
        intro W hSW
        try dsimp only at hSW
        go_simp
        try with_reducible rfl
      try simp only [Act.put, List.setIfInBounds_toArray, List.set_cons_zero, List.set_cons_succ]
      refine wpAnyH_take (i := 1) (oi := { dst := some 52, op := Op.move (Operand.tmp 0), type := 40, pos := "ref.go:243", after := #[], guard := none }) (v := ?v1_402) rfl (by kernel_rfl) (by kernel_rfl) (by kernel_rfl) (fun _ _ _ h => h) (Or.inl ⟨by rfl, ?h1_402⟩) (by assumption) ?r1_402
      case h1_402 =>
        intro W hSW
        try dsimp only at hSW
        go_simp
        try with_reducible rfl
      try simp only [Act.put, List.setIfInBounds_toArray, List.set_cons_zero, List.set_cons_succ]
      refine wpAnyH_take (i := 2) (oi := { dst := some 53, op := Op.nilCheck (Operand.tmp 52), type := 0, pos := "ref.go:243", after := #[{ on := 1, ground := Ground.data }], guard := none }) (v := ?v2_403) rfl (by kernel_rfl) (by kernel_rfl) (by kernel_rfl) (fun _ _ _ h => h) (Or.inl ⟨by rfl, ?h2_403⟩) (by assumption) ?r2_403
      case h2_403 =>
        intro W hSW
        try dsimp only at hSW
        go_simp
        try with_reducible rfl
      try simp only [Act.put, List.setIfInBounds_toArray, List.set_cons_zero, List.set_cons_succ]
      refine wpAnyH_take (i := 3) (oi := { dst := some 54, op := Op.fieldAddr 76 (Operand.tmp 53) 0, type := 0, pos := "ref.go:243", after := #[{ on := 2, ground := Ground.data }], guard := none }) (v := ?v3_404) rfl (by kernel_rfl) (by kernel_rfl) (by kernel_rfl) (fun _ _ _ h => h) (Or.inl ⟨by rfl, ?h3_404⟩) (by assumption) ?r3_404
      case h3_404 =>
        intro W hSW
        try dsimp only at hSW
        go_simp
        try with_reducible rfl
      try simp only [Act.put, List.setIfInBounds_toArray, List.set_cons_zero, List.set_cons_succ]
      refine wpAnyH_take (i := 4) (oi := { dst := some 55, op := Op.load 3 (Operand.tmp 54), type := 3, pos := "ref.go:243", after := #[{ on := 3, ground := Ground.data }], guard := none }) (v := ?v4_405) rfl (by kernel_rfl) (by kernel_rfl) (by kernel_rfl) (fun _ _ _ h => h) (Or.inl ⟨by rfl, ?h4_405⟩) (by assumption) ?r4_405
      case h4_405 =>
        intro W hSW
        try dsimp only at hSW
        have hcc := hSW.1
        go_simp
        try with_reducible rfl
      try simp only [Act.put, List.setIfInBounds_toArray, List.set_cons_zero, List.set_cons_succ]
      refine wpAnyH_take (i := 5) (oi := { dst := some 56, op := Op.fieldAddr 31 (Operand.tmp 6) 3, type := 0, pos := "ref.go:243", after := #[], guard := none }) (v := ?v5_406) rfl (by kernel_rfl) (by kernel_rfl) (by kernel_rfl) (fun _ _ _ h => h) (Or.inl ⟨by rfl, ?h5_406⟩) (by assumption) ?r5_406
      case h5_406 =>
        intro W hSW
        try dsimp only at hSW
        go_simp
        try with_reducible rfl
      try simp only [Act.put, List.setIfInBounds_toArray, List.set_cons_zero, List.set_cons_succ]
      refine wpAnyH_take (i := 6) (oi := { dst := some 57, op := Op.load 29 (Operand.tmp 56), type := 29, pos := "ref.go:243", after := #[{ on := 5, ground := Ground.data }], guard := none }) (v := ?v6_407) rfl (by kernel_rfl) (by kernel_rfl) (by kernel_rfl) (fun _ _ _ h => h) (Or.inl ⟨by rfl, ?h6_407⟩) (by assumption) ?r6_407
      case h6_407 =>
        intro W hSW
        try dsimp only at hSW
        have hcc := hSW.2
        go_simp
        try with_reducible rfl
      try simp only [Act.put, List.setIfInBounds_toArray, List.set_cons_zero, List.set_cons_succ]
      refine wpAnyH_ready (rs := [7]) (by kernel_rfl) (by simp) ?_
      refine AllReadyH.cons (o := { dst := some 58, op := Op.call { callee := Callee.value (Operand.func 66), args := #[Operand.tmp 51, Operand.tmp 55, Operand.tmp 57], argTypes := #[105, 3, 29] }, type := 29, pos := "ref.go:243", after := #[{ on := 0, ground := Ground.data }, { on := 4, ground := Ground.data }, { on := 6, ground := Ground.data }], guard := none }) rfl (fun K hK => ?_) AllReadyH.nil
      go_simp
      refine (HT5.out HC.out.1 we (hv0).st (some ⟨gc, 0, none⟩) c3 (HFD.out.rd HC.out.1)).mono ?_
      rintro r w190 ⟨A5, c5, rfl, own5, s1, k1⟩
      have hv190 := (hv0).next s1 k1
      have HF10 := Lib.hid (HFD.out.keeps k1 (show ¬ gc = br by have := hv190.o; have := HC.out.2.1; omega))
      have HO5 := Lib.hid own5
      have HO4 := Lib.hid (own_keepD HOD.out k1 (fun q e => by have := hv190.o; have := HS7.out; have := HA7.out.size; omega))
      clear s1 k1 own5
      refine hK.out _ _ (⟨(hv190).n0 HNN.out, (hv190).r6.cell 3⟩) (fun hHeld => ?_)
      clear hK K
      try simp only [Act.put, List.setIfInBounds_toArray, List.set_cons_zero, List.set_cons_succ]
      refine wpAnyH_take (i := 8) (oi := { dst := some 9, op := Op.assign (Operand.tmp 58), type := 29, pos := "ref.go:243", after := #[{ on := 7, ground := Ground.data }, { on := 7, ground := Ground.chain }, { on := 0, ground := Ground.phase }, { on := 1, ground := Ground.phase }, { on := 2, ground := Ground.phase }, { on := 3, ground := Ground.phase }, { on := 4, ground := Ground.phase }, { on := 5, ground := Ground.phase }, { on := 6, ground := Ground.phase }, { on := 7, ground := Ground.phase }], guard := none }) (v := ?v8_408) rfl (by kernel_rfl) (by kernel_rfl) (by kernel_rfl) (fun _ _ _ h => h) (Or.inl ⟨by rfl, ?h8_408⟩) (by assumption) ?r8_408
      case h8_408 =>
        intro W hSW
        try dsimp only at hSW
        go_simp
        try with_reducible rfl
      try simp only [Act.put, List.setIfInBounds_toArray, List.set_cons_zero, List.set_cons_succ]
      refine wpAnyH_done (by kernel_rfl) ?_ _
      have HA10 := Lib.hid hv190
      obtain ⟨w10, hw10⟩ : ∃ x, w190 = x := ⟨_, rfl⟩
      rw [hw10] at HA10 HF10 HO4 HO5 ⊢
      have HS9 := HDZ
      clear hv190 hw10 HFD HOD HDZ
      by_cases hz5 : e5 = 0
      case neg =>
        have HZ5 := Lib.hid hz5
        have HQ : Hid (Bil.acct b p n = (Bil.zacc, b5, e5)) := Lib.hid (by rw [HAC.out, if_neg hz5])
        have hne : (e5 != 0) = true := by rw [bne_iff_ne]; exact hz5
        have qe : w10.cell? ⟨br, 1, none⟩ = some (.int .i64 e5) := HA10.out.st.cell1
        clear hz5
        go_wp2_with fail
        refine bodyPost_ret (results_none rfl _ _ _) rfl ?_
        rw [HQ.out]
        exact ⟨rfl, col, m0, l, HA10.out.lat, rfl, rfl, fun b hb => .inl hb, HA10.out.st, HA10.out.k.mono fun k _ e => .inl e, fun e => absurd e HZ5.out⟩
      case pos =>
      subst hz5
      obtain ⟨hGn, hRn, hCn, hRb, hCb, hhb, hmb⟩ := H5.out rfl
      have ho4 := HO4.out
      have ho5 := HO5.out
      rw [hRn] at ho4
      rw [hGn] at ho5
      have hn1 := HN.out.1
      obtain ⟨gr, rfl, hgr, hfr⟩ := FRow.of_own ho4 hn1
      obtain ⟨gg, rfl, hgg, hfg⟩ := FRow.of_own ho5 hn1
      have hgr9 : gr < w9.heap.size := HS4.out gr rfl
      have hA := HA10.out
      rw [hRn] at hA
      try rw [hRn, hGn]
      have hcw := HC.out.2
      have hgc7 : gc < w7.heap.size := hcw.2.lt
      have hS7 := HS7.out
      have hS9 := HS9.out
      have hL0 : RbL w w10 br b6 bl col m0 l b5 0 [.int .i64 p, .int .i64 m, .int .i64 hh, .slice (some ⟨gc, 0, none⟩) n c3, .slice (some ⟨gr, 0, none⟩) n c4, .slice none 0 0] gc gr gg n C R G w10.heap.size none 0 0 [] :=
        ⟨hA, HF10.out, hfr, hfg, World.ownsRow_nil _ _ _ _, ⟨hcw.1, by omega, by omega, hfg.lt⟩, Nat.le_refl _⟩
      have HL0 := Lib.hid hL0
      have HLEN := Lib.hid (And.intro hCn (And.intro hRn hGn))
      have HBD := Lib.hid (And.intro hRb (And.intro hCb (And.intro hhb hmb)))
      obtain ⟨base2, hbase2⟩ : ∃ x, w10.heap.size = x := ⟨_, rfl⟩
      rw [hbase2] at HL0
      have hSR : ∀ i, i ≤ n → 0 ≤ sumK R i ∧ sumK R i ≤ 1099511627776 * i := fun i hi => sumK_bound R i (by omega) (fun j hj => by have h1 := hRb j (by omega); have h2 := hCb j (by omega); unfold Bil.MX at h2; unfold Bil.fits; rw [decide_eq_true_iff]; omega)
      obtain ⟨N, hN⟩ : ∃ N, Bil.netL C R = N := ⟨_, rfl⟩
      have hNl : N.length = n := by rw [← hN]; unfold Bil.netL; rw [List.length_zipWith, hCn, hRn, Nat.min_self]
      have hNg : ∀ i, i < n → N.getD i 0 = C.getD i 0 - R.getD i 0 := fun i hi => by rw [← hN]; exact netL_get (by rw [hCn, hRn]) (by rw [hCn]; exact hi)
      have hSN : ∀ i, i ≤ n → 0 ≤ sumK N i ∧ sumK N i ≤ 1099511627776 * i := fun i hi => sumK_bound N i (by omega) (fun j hj => by have h1 := hRb j (by omega); have h2 := hCb j (by omega); have h3 := hNg j (by omega); unfold Bil.MX at h2; unfold Bil.fits; rw [decide_eq_true_iff]; omega)
      have HSU := Lib.hid (And.intro hSR (And.intro hSN (And.intro hNl hNg)))
      have hmx : hh ≤ 1099511627776 ∧ 0 ≤ hh := by unfold Bil.MX at hmb; omega
      have HMX := Lib.hid hmx
      rw [hN] at HAC
      clear hgr9 hA hcw hL0 hCn hRn hGn hRb hCb hhb hmb hbase2 hSR hSN hN hNl hNg hmx ho4 ho5 hgr hfr hgg hfg HO4 HO5 HS4 HF10 HF9 HC HA7 HA9 HA10 HE H5 hn1 hgc7 hS7 hS9 HS7 HS9
      have qe : w10.cell? ⟨br, 1, none⟩ = some (.int .i64 0) := HL0.out.s.st.cell1
      have q2 : w10.cell? ⟨b6, 2, none⟩ = some (.int .i64 hh) := HL0.out.s.r6.cell 2
      go_upto_region 14 with fail
      clear qe q2
      go_wp2_with fail
      go_loopw [10, 11, 12] (fun u10 u11 u12 wr => ∃ (i : Nat) (A5 : Option Addr) (c6 : Nat), i ≤ n ∧ u12 = .int .i64 (i : Int) ∧ u10 = .int .i64 (sumK R i) ∧ u11 = .int .i64 (hh + sumK N i) ∧ Hid (RbL w wr br b6 bl col m0 l b5 0 [.int .i64 p, .int .i64 m, .int .i64 hh, .slice (some ⟨gc, 0, none⟩) n c3, .slice (some ⟨gr, 0, none⟩) n c4, .slice A5 i c6] gc gr gg n C R G base2 A5 c6 i (N.take i))) (fun _ _ u12 _ => n - (intOf u12).toNat)
      case atStart => exact ⟨0, none, 0, Nat.zero_le _, rfl, by simp [sumK], by simp [sumK], HL0⟩
      case round =>
        clear HL0
        obtain ⟨i, A5, c6, hi, rfl, rfl, rfl, HAL⟩ := hrel
        have c0 : wr.cell? ⟨bl, 0, none⟩ = some (.int .i64 (n : Int)) := HAL.out.s.n0 HNN.out
        have hn16 := HN.out.2
        have hmx := HMX.out
        have sr := HSU.out.1 i hi
        have sn := HSU.out.2.1 i hi
        obtain ⟨rs, hrs⟩ : ∃ x, sumK R i = x := ⟨_, rfl⟩
        obtain ⟨ms, hms⟩ : ∃ x, hh + sumK N i = x := ⟨_, rfl⟩
        rw [hrs, hms]
        by_cases hlt : i < n
        · obtain ⟨x, hx⟩ : ∃ x, C.getD i 0 = x := ⟨_, rfl⟩
          obtain ⟨y, hy⟩ : ∃ x, R.getD i 0 = x := ⟨_, rfl⟩
          have hb1 := HBD.out.1 i hlt
          have hb2 := HBD.out.2.1 i hlt
          have hng := HSU.out.2.2.2 i hlt
          have hst := sumK_step R i (by rw [HLEN.out.2.1]; exact hlt)
          have hsn := sumK_step N i (by rw [HSU.out.2.2.1]; exact hlt)
          have ccx : wr.cell? ⟨gc, i, none⟩ = some (.int .i64 x) := (HAL.out.fc.cell i hlt).trans (by rw [hx])
          have ccy : wr.cell? ⟨gr, i, none⟩ = some (.int .i64 y) := (HAL.out.fr.cell i hlt).trans (by rw [hy])
          have cc3 : wr.cell? ⟨b6, 3, none⟩ = some (.slice (some ⟨gc, 0, none⟩) n c3) := HAL.out.s.r6.cell 3
          have cc4 : wr.cell? ⟨b6, 4, none⟩ = some (.slice (some ⟨gr, 0, none⟩) n c4) := HAL.out.s.r6.cell 4
          rw [hx, hy] at hng hb1
          rw [hx] at hb2
          rw [hy] at hst
          rw [hng] at hsn
          unfold Bil.MX at hb2
          obtain ⟨d, hd⟩ : ∃ d, x - y = d := ⟨_, rfl⟩
          obtain ⟨rs', hrs'⟩ : ∃ z, rs + y = z := ⟨_, rfl⟩
          obtain ⟨mx', hmx'⟩ : ∃ z, ms + x = z := ⟨_, rfl⟩
          obtain ⟨ms', hms'⟩ : ∃ z, mx' - y = z := ⟨_, rfl⟩
          have m1 : IntKind.i64.wrap (rs + y) = rs' := by rw [hrs']; exact IntWalk.i64_in _ (by omega)
          have m2 : IntKind.i64.wrap (x - y) = d := by rw [hd]; exact IntWalk.i64_in _ (by omega)
          have m3 : IntKind.i64.wrap (ms + x) = mx' := by rw [hmx']; exact IntWalk.i64_in _ (by omega)
          have m4 : IntKind.i64.wrap (mx' - y) = ms' := by rw [hms']; exact IntWalk.i64_in _ (by omega)
          have mw : IntKind.i64.wrap ((i : Int) + 1) = ((i + 1 : Nat) : Int) := by rw [Int.natCast_add]; exact IntWalk.i64_in _ (by omega)
          have HR' : Hid (rs' = sumK R (i + 1) ∧ ms' = hh + sumK N (i + 1)) := Lib.hid ⟨by omega, by omega⟩
          have HE5 : Hid (ivs (N.take i) ++ [Value.int .i64 d] = ivs (N.take (i + 1))) := Lib.hid (by rw [← ivs_tk N i (by rw [HSU.out.2.2.1]; exact hlt), hng, hd])
          have HJ : Hid ((i + 1) * 8 ≤ 140737488355328 ∧ i + 1 ≤ maxLen) := Lib.hid (by unfold maxLen; omega)
          have HXY := Lib.hid (And.intro hlt (And.intro hx hy))
          have i1 : (i : Int) < (n : Int) := by omega
          have i0 : (0 : Int) ≤ (i : Int) := by omega
          clear hb1 hb2 hng hst hsn hx hy hd hrs' hms' hmx' hrs hms sr sn hmx
          go_upto_region 18 with fail
          go_wp2_with fail
          go_quiet (fail)
          go_upto_region 19 with fail
          obtain ⟨wq, hwq⟩ : ∃ x, wr.drewN nq = x := ⟨_, rfl⟩
          have HAQ := Lib.hid (HAL.out.below (below_drewN (Below.refl _ _) nq))
          try simp only [World.drewN_drew] at ⊢
          rw [hwq] at HAQ ⊢
          clear hwq HAL c0 ccx ccy cc3 cc4 m1 m3 m4
          go_wp2_with fail
          have hv0 : RbL w wq.drew br b6 bl col m0 l b5 0 [.int .i64 p, .int .i64 m, .int .i64 hh, .slice (some ⟨gc, 0, none⟩) n c3, .slice (some ⟨gr, 0, none⟩) n c4, .slice A5 i c6] gc gr gg n C R G base2 A5 c6 i (N.take i) := HAQ.out.below (Below.refl _ _).drew
          refine wp_region_late (fun V => V.cell? ⟨b6, 5, none⟩ = some (.slice A5 i c6) ∧ V.cell? ⟨b6, 3, none⟩ = some (.slice (some ⟨gc, 0, none⟩) n c3) ∧ V.cell? ⟨b6, 4, none⟩ = some (.slice (some ⟨gr, 0, none⟩) n c4) ∧ V.cell? ⟨gc, i, none⟩ = some (.int .i64 x) ∧ V.cell? ⟨gr, i, none⟩ = some (.int .i64 y)) [16] (by kernel_rfl) (⟨(hv0).s.r6.cell 5, (hv0).s.r6.cell 3, (hv0).s.r6.cell 4, ((hv0).fc.cell i HXY.out.1).trans (by rw [HXY.out.2.1]), ((hv0).fr.cell i HXY.out.1).trans (by rw [HXY.out.2.2])⟩) (fun hHeld => ?_)
          obtain ⟨wd, hwd⟩ : ∃ x, wq.drew = x := ⟨_, rfl⟩
          rw [hwd] at hv0 hHeld  ⊢
          clear hwd
          refine wpAnyL_take (i := 0) (oi := { dst := some 94, op := Op.fieldAddr 31 (Operand.tmp 6) 5, type := 0, pos := "ref.go:252", after := #[], guard := none }) (v := ?v0_501) rfl (by kernel_rfl) (by kernel_rfl) (by kernel_rfl) (by kernel_rfl) (fun _ _ _ h => h) (Or.inl ⟨by rfl, ?h0_501⟩) (by assumption) ?r0_501
          case h0_501 =>
            intro W hSW
            try dsimp only at hSW
            go_simp
            try with_reducible rfl
          try simp only [Act.put, List.setIfInBounds_toArray, List.set_cons_zero, List.set_cons_succ]
          refine wpAnyL_take (i := 1) (oi := { dst := some 95, op := Op.load 29 (Operand.tmp 94), type := 29, pos := "ref.go:252", after := #[{ on := 0, ground := Ground.data }], guard := none }) (v := ?v1_502) rfl (by kernel_rfl) (by kernel_rfl) (by kernel_rfl) (by kernel_rfl) (fun _ _ _ h => h) (Or.inl ⟨by rfl, ?h1_502⟩) (by assumption) ?r1_502
          case h1_502 =>
            intro W hSW
            try dsimp only at hSW
            have hcc := hSW.1
            go_simp
            try with_reducible rfl
          try simp only [Act.put, List.setIfInBounds_toArray, List.set_cons_zero, List.set_cons_succ]
          refine wpAnyL_take (i := 2) (oi := { dst := some 96, op := Op.fieldAddr 31 (Operand.tmp 6) 3, type := 0, pos := "ref.go:252", after := #[], guard := none }) (v := ?v2_503) rfl (by kernel_rfl) (by kernel_rfl) (by kernel_rfl) (by kernel_rfl) (fun _ _ _ h => h) (Or.inl ⟨by rfl, ?h2_503⟩) (by assumption) ?r2_503
          case h2_503 =>
            intro W hSW
            try dsimp only at hSW
            go_simp
            try with_reducible rfl
          try simp only [Act.put, List.setIfInBounds_toArray, List.set_cons_zero, List.set_cons_succ]
          refine wpAnyL_take (i := 3) (oi := { dst := some 97, op := Op.load 29 (Operand.tmp 96), type := 29, pos := "ref.go:252", after := #[{ on := 2, ground := Ground.data }], guard := none }) (v := ?v3_504) rfl (by kernel_rfl) (by kernel_rfl) (by kernel_rfl) (by kernel_rfl) (fun _ _ _ h => h) (Or.inl ⟨by rfl, ?h3_504⟩) (by assumption) ?r3_504
          case h3_504 =>
            intro W hSW
            try dsimp only at hSW
            have hcc := hSW.2.1
            go_simp
            try with_reducible rfl
          try simp only [Act.put, List.setIfInBounds_toArray, List.set_cons_zero, List.set_cons_succ]
          refine wpAnyL_take (i := 4) (oi := { dst := some 98, op := Op.move (Operand.tmp 12), type := 3, pos := "ref.go:252", after := #[], guard := none }) (v := ?v4_505) rfl (by kernel_rfl) (by kernel_rfl) (by kernel_rfl) (by kernel_rfl) (fun _ _ _ h => h) (Or.inl ⟨by rfl, ?h4_505⟩) (by assumption) ?r4_505
          case h4_505 =>
            intro W hSW
            try dsimp only at hSW
            go_simp
            try with_reducible rfl
          try simp only [Act.put, List.setIfInBounds_toArray, List.set_cons_zero, List.set_cons_succ]
          refine wpAnyL_take (i := 5) (oi := { dst := some 99, op := Op.indexAddr 29 (Operand.tmp 97) (Operand.tmp 98), type := 0, pos := "ref.go:252", after := #[{ on := 3, ground := Ground.data }, { on := 4, ground := Ground.data }], guard := none }) (v := ?v5_506) rfl (by kernel_rfl) (by kernel_rfl) (by kernel_rfl) (by kernel_rfl) (fun _ _ _ h => h) (Or.inl ⟨by rfl, ?h5_506⟩) (by assumption) ?r5_506
          case h5_506 =>
            intro W hSW
            try dsimp only at hSW
            go_simp
            try with_reducible rfl
          try simp only [Act.put, List.setIfInBounds_toArray, List.set_cons_zero, List.set_cons_succ]
          refine wpAnyL_take (i := 6) (oi := { dst := some 100, op := Op.load 3 (Operand.tmp 99), type := 3, pos := "ref.go:252", after := #[{ on := 5, ground := Ground.data }], guard := none }) (v := ?v6_507) rfl (by kernel_rfl) (by kernel_rfl) (by kernel_rfl) (by kernel_rfl) (fun _ _ _ h => h) (Or.inl ⟨by rfl, ?h6_507⟩) (by assumption) ?r6_507
          case h6_507 =>
            intro W hSW
            try dsimp only at hSW
            have hcc := hSW.2.2.2.1
            go_simp
            try with_reducible rfl
          try simp only [Act.put, List.setIfInBounds_toArray, List.set_cons_zero, List.set_cons_succ]
          refine wpAnyL_take (i := 7) (oi := { dst := some 101, op := Op.fieldAddr 31 (Operand.tmp 6) 4, type := 0, pos := "ref.go:252", after := #[], guard := none }) (v := ?v7_508) rfl (by kernel_rfl) (by kernel_rfl) (by kernel_rfl) (by kernel_rfl) (fun _ _ _ h => h) (Or.inl ⟨by rfl, ?h7_508⟩) (by assumption) ?r7_508
          case h7_508 =>
            intro W hSW
            try dsimp only at hSW
            go_simp
            try with_reducible rfl
          try simp only [Act.put, List.setIfInBounds_toArray, List.set_cons_zero, List.set_cons_succ]
          refine wpAnyL_take (i := 8) (oi := { dst := some 102, op := Op.load 29 (Operand.tmp 101), type := 29, pos := "ref.go:252", after := #[{ on := 7, ground := Ground.data }], guard := none }) (v := ?v8_509) rfl (by kernel_rfl) (by kernel_rfl) (by kernel_rfl) (by kernel_rfl) (fun _ _ _ h => h) (Or.inl ⟨by rfl, ?h8_509⟩) (by assumption) ?r8_509
          case h8_509 =>
            intro W hSW
            try dsimp only at hSW
            have hcc := hSW.2.2.1
            go_simp
            try with_reducible rfl
          try simp only [Act.put, List.setIfInBounds_toArray, List.set_cons_zero, List.set_cons_succ]
          refine wpAnyL_take (i := 9) (oi := { dst := some 103, op := Op.move (Operand.tmp 12), type := 3, pos := "ref.go:252", after := #[], guard := none }) (v := ?v9_510) rfl (by kernel_rfl) (by kernel_rfl) (by kernel_rfl) (by kernel_rfl) (fun _ _ _ h => h) (Or.inl ⟨by rfl, ?h9_510⟩) (by assumption) ?r9_510
          case h9_510 =>
            intro W hSW
            try dsimp only at hSW
            go_simp
            try with_reducible rfl
          try simp only [Act.put, List.setIfInBounds_toArray, List.set_cons_zero, List.set_cons_succ]
          refine wpAnyL_take (i := 10) (oi := { dst := some 104, op := Op.indexAddr 29 (Operand.tmp 102) (Operand.tmp 103), type := 0, pos := "ref.go:252", after := #[{ on := 8, ground := Ground.data }, { on := 9, ground := Ground.data }], guard := none }) (v := ?v10_511) rfl (by kernel_rfl) (by kernel_rfl) (by kernel_rfl) (by kernel_rfl) (fun _ _ _ h => h) (Or.inl ⟨by rfl, ?h10_511⟩) (by assumption) ?r10_511
          case h10_511 =>
            intro W hSW
            try dsimp only at hSW
            go_simp
            try with_reducible rfl
          try simp only [Act.put, List.setIfInBounds_toArray, List.set_cons_zero, List.set_cons_succ]
          refine wpAnyL_take (i := 11) (oi := { dst := some 105, op := Op.load 3 (Operand.tmp 104), type := 3, pos := "ref.go:252", after := #[{ on := 10, ground := Ground.data }], guard := none }) (v := ?v11_512) rfl (by kernel_rfl) (by kernel_rfl) (by kernel_rfl) (by kernel_rfl) (fun _ _ _ h => h) (Or.inl ⟨by rfl, ?h11_512⟩) (by assumption) ?r11_512
          case h11_512 =>
            intro W hSW
            try dsimp only at hSW
            have hcc := hSW.2.2.2.2
            go_simp
            try with_reducible rfl
          try simp only [Act.put, List.setIfInBounds_toArray, List.set_cons_zero, List.set_cons_succ]
          refine wpAnyL_take (i := 12) (oi := { dst := some 106, op := Op.binOp BinOp.sub 3 (Operand.tmp 100) (Operand.tmp 105) 3, type := 3, pos := "ref.go:252", after := #[{ on := 6, ground := Ground.data }, { on := 11, ground := Ground.data }], guard := none }) (v := ?v12_513) rfl (by kernel_rfl) (by kernel_rfl) (by kernel_rfl) (by kernel_rfl) (fun _ _ _ h => h) (Or.inl ⟨by rfl, ?h12_513⟩) (by assumption) ?r12_513
          case h12_513 =>
            intro W hSW
            try dsimp only at hSW
            go_simp
            try with_reducible rfl
          try simp only [Act.put, List.setIfInBounds_toArray, List.set_cons_zero, List.set_cons_succ]
          refine wpAnyL_ready (rs := [13]) (by kernel_rfl) (by simp) ?_
          refine AllReadyL.cons (o := { dst := some 107, op := Op.buildSlice 29 1 #[(0, Operand.tmp 106)], type := 29, pos := "ref.go:252", after := #[{ on := 12, ground := Ground.data }], guard := none }) rfl (fun K hK => ?_) AllReadyL.nil
          go_simp
          obtain ⟨g92, hg92⟩ : ∃ y, wd.heap.size = y := ⟨_, rfl⟩
          have rd92 := Rd.new wd [Value.int .i64 d] 3 1 (size := 1) rfl
          obtain ⟨w70, hw70⟩ : ∃ y, wd.alloc (.cells #[Value.int .i64 d] 3) = y := ⟨_, rfl⟩
          rw [show ([Value.int .i64 d] : List Value).toArray = #[Value.int .i64 d] from rfl, hw70, hg92] at rd92
          rw [hw70, hg92]
          have b70 : Below wd.heap.size wd w70 := by rw [← hw70]; exact (Below.refl _ _).alloc (Nat.le_refl _) _
          have hv70 := (hv0).below b70
          have rd92 : Rd w70 w70.heap.size 1 _ _ _ := rd92.more (by rw [← hw70, alloc_size1, hg92]; exact Nat.le_refl _)
          clear hw70 b70 hg92
          refine hK.out _ _ (⟨(hv70).s.r6.cell 5, (hv70).s.r6.cell 3, (hv70).s.r6.cell 4, ((hv70).fc.cell i HXY.out.1).trans (by rw [HXY.out.2.1]), ((hv70).fr.cell i HXY.out.1).trans (by rw [HXY.out.2.2])⟩) (fun hHeld => ?_)
          clear hK K
          try simp only [Act.put, List.setIfInBounds_toArray, List.set_cons_zero, List.set_cons_succ]
          refine wpAnyL_ready (rs := [14]) (by kernel_rfl) (by simp) ?_
          refine AllReadyL.cons (o := { dst := some 108, op := Op.call { callee := Callee.builtin Builtin.append, args := #[Operand.tmp 95, Operand.tmp 107], argTypes := #[29, 29] }, type := 29, pos := "ref.go:252", after := #[{ on := 1, ground := Ground.data }, { on := 13, ground := Ground.data }], guard := none }) rfl (fun K hK => ?_) AllReadyL.nil
          rw [if_pos (by rfl)]
          refine wp_app _ (.tmp 95) (.tmp 107) 29 rfl base2 3 (.int .i64 0) 1 8 bintT A5 i c6 (ivs (N.take i)) rfl (hv70).own w70.heap.size (some ⟨g92, 0, none⟩) 1 1 [Value.int .i64 d] rfl rd92 (ivs_one [d]) HJ.out.1 HJ.out.2 (hv70).hz ?_
          intro A5n c6n w71 own71 gr71 hA71
          rw [HE5.out] at own71
          have hv71 := (hv70).app own71 gr71
          have k5 : w71.cell? ⟨b6, 5, none⟩ = some (.slice A5 i c6) := hv71.s.r6.cell 5
          have f5 : w71.frozen? ⟨b6, 5, none⟩ = false := hv71.s.r6.frozen 5
          clear own71 gr71 hA71 rd92
          refine hK.out _ _ (⟨(hv71).s.r6.cell 5, (hv71).s.r6.cell 3, (hv71).s.r6.cell 4, ((hv71).fc.cell i HXY.out.1).trans (by rw [HXY.out.2.1]), ((hv71).fr.cell i HXY.out.1).trans (by rw [HXY.out.2.2])⟩) (fun hHeld => ?_)
          clear hK K
          try simp only [Act.put, List.setIfInBounds_toArray, List.set_cons_zero, List.set_cons_succ]
          refine wpAnyL_take (i := 15) (oi := { dst := some 109, op := Op.fieldAddr 31 (Operand.tmp 6) 5, type := 0, pos := "ref.go:252", after := #[{ on := 0, ground := Ground.phase }, { on := 1, ground := Ground.phase }, { on := 2, ground := Ground.phase }, { on := 3, ground := Ground.phase }, { on := 4, ground := Ground.phase }, { on := 5, ground := Ground.phase }, { on := 6, ground := Ground.phase }, { on := 7, ground := Ground.phase }, { on := 8, ground := Ground.phase }, { on := 9, ground := Ground.phase }, { on := 10, ground := Ground.phase }, { on := 11, ground := Ground.phase }, { on := 12, ground := Ground.phase }, { on := 13, ground := Ground.phase }, { on := 14, ground := Ground.phase }], guard := none }) (v := ?v15_514) rfl (by kernel_rfl) (by kernel_rfl) (by kernel_rfl) (by kernel_rfl) (fun _ _ _ h => h) (Or.inl ⟨by rfl, ?h15_514⟩) (by assumption) ?r15_514
          case h15_514 =>
            intro W hSW
            try dsimp only at hSW
            go_simp
            try with_reducible rfl
          try simp only [Act.put, List.setIfInBounds_toArray, List.set_cons_zero, List.set_cons_succ]
          refine wpAnyL_ready (rs := [16]) (by kernel_rfl) (by simp) ?_
          refine AllReadyL.late (o := { dst := none, op := Op.store 29 (Operand.tmp 109) (Operand.tmp 108), type := 0, pos := "ref.go:252", after := #[{ on := 15, ground := Ground.data }, { on := 14, ground := Ground.data }, { on := 14, ground := Ground.chain }, { on := 0, ground := Ground.phase }, { on := 1, ground := Ground.phase }, { on := 2, ground := Ground.phase }, { on := 3, ground := Ground.phase }, { on := 4, ground := Ground.phase }, { on := 5, ground := Ground.phase }, { on := 6, ground := Ground.phase }, { on := 7, ground := Ground.phase }, { on := 8, ground := Ground.phase }, { on := 9, ground := Ground.phase }, { on := 10, ground := Ground.phase }, { on := 11, ground := Ground.phase }, { on := 12, ground := Ground.phase }, { on := 13, ground := Ground.phase }, { on := 14, ground := Ground.phase }], guard := none }) rfl (by rfl) (fun K hK => ?_) AllReadyL.nil
          go_simp
          have hv72 := (hv71).put 5 (.slice A5n (i + 1) c6n)
          obtain ⟨w72, hw72⟩ : ∃ x, w71.setCell ⟨b6, 5, none⟩ (.slice A5n (i + 1) c6n) = x := ⟨_, rfl⟩
          rw [hw72] at hv72
          rw [hw72]
          clear hw72 k5 f5
          refine hK.out _ _ ?_
          clear hK K
          try simp only [Act.put, List.setIfInBounds_toArray, List.set_cons_zero, List.set_cons_succ]
          refine wpAnyL_done (by kernel_rfl) ?_ _
          have HCF := Lib.hid hv72
          clear hv72
          go_wp2_with fail
          go_roundw
          case rel => exact ⟨i + 1, A5n, c6n, by omega, by go_num, by rw [HR'.out.1], by rw [HR'.out.2], HCF⟩
          case measure => simp [intOf]; omega
        · obtain rfl : n = i := by omega
          have hsr : sumK R n = R.sum := by unfold sumK; rw [List.take_of_length_le (by rw [HLEN.out.2.1]; exact Nat.le_refl _)]
          have hsn : sumK N n = N.sum := by unfold sumK; rw [List.take_of_length_le (by rw [HSU.out.2.2.1]; exact Nat.le_refl _)]
          have hnt : N.take n = N := List.take_of_length_le (by rw [HSU.out.2.2.1]; exact Nat.le_refl _)
          rw [hnt] at HAL
          have q1 : wr.cell? ⟨b6, 1, none⟩ = some (.int .i64 m) := HAL.out.s.r6.cell 1
          have q2 : wr.cell? ⟨b6, 2, none⟩ = some (.int .i64 hh) := HAL.out.s.r6.cell 2
          have qe : wr.cell? ⟨br, 1, none⟩ = some (.int .i64 0) := HAL.out.s.st.cell1
          have fe : wr.frozen? ⟨br, 1, none⟩ = false := HAL.out.s.st.frozen1
          obtain ⟨e', he'⟩ : ∃ e', (if R.sum ≤ hh ∧ hh + N.sum = m then (0 : Int) else 6) = e' := ⟨_, rfl⟩
          have HE' := Lib.hid he'
          have HQ : Hid (e' ≠ 0 → (Bil.acct b p n) = (Bil.zacc, b5, e')) := Lib.hid (fun hz => by
            rw [HAC.out, if_pos (by trivial)]
            by_cases hg : R.sum ≤ hh ∧ hh + N.sum = m
            · rw [if_pos hg] at he'; exact absurd he'.symm hz
            · rw [if_neg hg] at he'; rw [if_neg hg, ← he'])
          have HQ0 : Hid (e' = 0 → (Bil.acct b p n) = (⟨⟨p, m, hh, C, R, N⟩, G⟩, b5, 0)) := Lib.hid (fun hz => by
            rw [HAC.out, if_pos (by trivial)]
            by_cases hg : R.sum ≤ hh ∧ hh + N.sum = m
            · rw [if_pos hg]
            · rw [if_neg hg] at he'; omega)
          clear sr sn hmx
          go_upto_region 20 with fail
          obtain ⟨Z, hZ⟩ : ∃ Z, (e' != 0) = Z := ⟨_, rfl⟩
          go_cut [119] from 110 to 119 (fun u119 wx => u119 = .bool Z ∧ wr = wx)
          case first =>
            by_cases hr0 : R.sum ≤ hh
            · have d1 : decide (hh < rs) = false := decide_eq_false (by omega)
              by_cases hm0 : hh + N.sum = m
              · have d2 : (ms != m) = false := by simp; omega
                have HZ0 : Hid (false = Z) := Lib.hid (by rw [← hZ, ← he', if_pos ⟨hr0, hm0⟩]; rfl)
                clear he' hr0 hm0 hrs hms hsr hsn hnt hZ
                go_wp2_with fail
                go_meet
                exact ⟨by rw [← HZ0.out], rfl⟩
              · have d2 : (ms != m) = true := by simp; omega
                have HZ0 : Hid (true = Z) := Lib.hid (by rw [← hZ, ← he', if_neg (fun h => hm0 h.2)]; rfl)
                clear he' hr0 hm0 hrs hms hsr hsn hnt hZ
                go_wp2_with fail
                go_meet
                exact ⟨by rw [← HZ0.out], rfl⟩
            · have d1 : decide (hh < rs) = true := decide_eq_true (by omega)
              have HZ0 : Hid (true = Z) := Lib.hid (by rw [← hZ, ← he', if_neg (fun h => hr0 h.1)]; rfl)
              clear he' hr0 hrs hms hsr hsn hnt hZ
              go_wp2_with fail
              go_meet
              exact ⟨by rw [← HZ0.out], rfl⟩
          case rest =>
          obtain ⟨rfl, rfl⟩ := hcut
          have HZ := Lib.hid hZ
          have HE6 : Hid (e' = 0 ∨ e' = 6) := Lib.hid (by rw [← he']; split; exact .inl rfl; exact .inr rfl)
          clear hZ he' hrs hms hsr hsn hnt
          go_upto_if 119 with fail
          go_cut [] from 120 to 122 (fun wx => Hid (RbL w wx br b6 bl col m0 l b5 e' [.int .i64 p, .int .i64 m, .int .i64 hh, .slice (some ⟨gc, 0, none⟩) n c3, .slice (some ⟨gr, 0, none⟩) n c4, .slice A5 n c6] gc gr gg n C R G base2 A5 c6 n N))
          case first =>
            cases Z with
            | false =>
              obtain rfl : e' = 0 := by have := HZ.out; simpa using this
              go_wp2_with fail
              go_meet
              exact HAL
            | true =>
              obtain rfl : e' = 6 := by have := HZ.out; rcases HE6.out with h | h; (rw [h] at this; simp at this); exact h
              go_wp2_with fail
              go_meet
              exact Lib.hid (HAL.out.fail 6)
          case rest =>
            have HC1 := hcut
            obtain ⟨w25, hw25⟩ : ∃ x, wc = x := ⟨_, rfl⟩
            try rw [hw25] at HC1 ⊢
            clear hcut hw25 c0 q1 q2 qe fe HAL HZ
            obtain ⟨gt, rfl, hgt, hft⟩ := FRow.of_own HC1.out.own HN.out.1
            have HFT := Lib.hid (And.intro hgt hft)
            obtain ⟨Lk, hLk⟩ : ∃ x, m0.ks.length = x := ⟨_, rfl⟩
            have HLK := Lib.hid hLk
            have HLT := Lib.hid HC1.out.s.lat
            have HR1 : Hid (w25.cell? ⟨bl, 20, none⟩ = some (.slice m0.A Lk m0.c)) := Lib.hid (by rw [← hLk]; exact (rcell_k HC1.out.s.lat.rcs HC1.out.s.lat.h16).1)
            have HR12 : Hid (IsRow w25 b6 31 [.int .i64 p, .int .i64 m, .int .i64 hh, .slice (some ⟨gc, 0, none⟩) n c3, .slice (some ⟨gr, 0, none⟩) n c4, .slice (some ⟨gt, 0, none⟩) n c6]) := Lib.hid HC1.out.s.r6
            have HLB : Hid (bl < w25.heap.size ∧ b6 < w25.heap.size) := Lib.hid ⟨HC1.out.s.lat.row.lt, HC1.out.s.size⟩
            clear hLk hgt hft
            go_upto_region 22 with fail
            go_cut [] from 123 to 132 (fun wx => ∃ gk ok ck, Hid (RP26 w25 wx bl n l.periods l.head gk ok ck m0 [.int .i64 p, .int .i64 m, .int .i64 hh, .slice (some ⟨gc, 0, none⟩) n c3, .slice (some ⟨gr, 0, none⟩) n c4, .slice (some ⟨gt, 0, none⟩) n c6]))
            case first =>
              go_wp2_with fail
              have hv0 : Below w25.heap.size w25 w25.drew := (Below.refl _ _).drew
              refine wp_region_late (fun W => Below w25.heap.size w25 W) [0, 7, 8, 9, 10] (by kernel_rfl) (hv0) (fun hHeld => ?_)
              obtain ⟨wd, hwd⟩ : ∃ x, w25.drew = x := ⟨_, rfl⟩
              rw [hwd] at hv0 hHeld  ⊢
              clear hwd
              refine wpAnyL_takeE (i := 0) (oi := { dst := some 123, op := Op.move (Operand.tmp 0), type := 40, pos := "ref.go:257", after := #[], guard := none }) (v := ?v0_601) rfl (by kernel_rfl) (by kernel_rfl) (by kernel_rfl) (by kernel_rfl) (fun _ _ _ h => h) (Or.inl ⟨by rfl, ?h0_601⟩) ?r0_601
              case h0_601 =>
                intro W
                go_simp
                try with_reducible rfl
              try simp only [Act.put, List.setIfInBounds_toArray, List.set_cons_zero, List.set_cons_succ]
              refine wpAnyL_take (i := 1) (oi := { dst := some 124, op := Op.move (Operand.tmp 0), type := 40, pos := "ref.go:257", after := #[], guard := none }) (v := ?v1_602) rfl (by kernel_rfl) (by kernel_rfl) (by kernel_rfl) (by kernel_rfl) (fun _ _ _ h => h) (Or.inl ⟨by rfl, ?h1_602⟩) (by assumption) ?r1_602
              case h1_602 =>
                intro W hSW
                try dsimp only at hSW
                go_simp
                try with_reducible rfl
              try simp only [Act.put, List.setIfInBounds_toArray, List.set_cons_zero, List.set_cons_succ]
              refine wpAnyL_take (i := 2) (oi := { dst := some 125, op := Op.nilCheck (Operand.tmp 124), type := 0, pos := "ref.go:257", after := #[{ on := 1, ground := Ground.data }], guard := none }) (v := ?v2_603) rfl (by kernel_rfl) (by kernel_rfl) (by kernel_rfl) (by kernel_rfl) (fun _ _ _ h => h) (Or.inl ⟨by rfl, ?h2_603⟩) (by assumption) ?r2_603
              case h2_603 =>
                intro W hSW
                try dsimp only at hSW
                go_simp
                try with_reducible rfl
              try simp only [Act.put, List.setIfInBounds_toArray, List.set_cons_zero, List.set_cons_succ]
              refine wpAnyL_take (i := 3) (oi := { dst := some 126, op := Op.fieldAddr 76 (Operand.tmp 125) 5, type := 0, pos := "ref.go:257", after := #[{ on := 2, ground := Ground.data }], guard := none }) (v := ?v3_604) rfl (by kernel_rfl) (by kernel_rfl) (by kernel_rfl) (by kernel_rfl) (fun _ _ _ h => h) (Or.inl ⟨by rfl, ?h3_604⟩) (by assumption) ?r3_604
              case h3_604 =>
                intro W hSW
                try dsimp only at hSW
                go_simp
                try with_reducible rfl
              try simp only [Act.put, List.setIfInBounds_toArray, List.set_cons_zero, List.set_cons_succ]
              refine wpAnyL_take (i := 4) (oi := { dst := some 127, op := Op.load 74 (Operand.tmp 126), type := 74, pos := "ref.go:257", after := #[{ on := 3, ground := Ground.data }], guard := none }) (v := ?v4_605) rfl (by kernel_rfl) (by kernel_rfl) (by kernel_rfl) (by kernel_rfl) (fun _ _ _ h => h) (Or.inl ⟨by rfl, ?h4_605⟩) (by assumption) ?r4_605
              case h4_605 =>
                intro W hSW
                try dsimp only at hSW
                have hcc := (hSW.cell (p := ⟨bl, 20, none⟩) HLB.out.1).trans HR1.out
                go_simp
                try with_reducible rfl
              try simp only [Act.put, List.setIfInBounds_toArray, List.set_cons_zero, List.set_cons_succ]
              refine wpAnyL_take (i := 5) (oi := { dst := some 128, op := Op.load 31 (Operand.tmp 6), type := 31, pos := "ref.go:257", after := #[], guard := none }) (v := .agg #[.int .i64 p, .int .i64 m, .int .i64 hh, .slice (some ⟨gc, 0, none⟩) n c3, .slice (some ⟨gr, 0, none⟩) n c4, .slice (some ⟨gt, 0, none⟩) n c6]) rfl (by kernel_rfl) (by kernel_rfl) (by kernel_rfl) (by kernel_rfl) (fun _ _ _ h => h) (yieldsIf_load_mid rfl _ (.tmp 6) rfl b6 0 rfl [.int .i64 p, .int .i64 m, .int .i64 hh, .slice (some ⟨gc, 0, none⟩) n c3, .slice (some ⟨gr, 0, none⟩) n c4, .slice (some ⟨gt, 0, none⟩) n c6] _ (fun W hSW => fun j v hv => by rw [(HR12.out.below' hSW).cell, Nat.zero_add]; exact hv) Tryd.underlying31 rfl size6) (by assumption) ?_
              try simp only [Act.put, List.setIfInBounds_toArray, List.set_cons_zero, List.set_cons_succ]
              refine wpAnyL_ready (rs := [6]) (by kernel_rfl) (by simp) ?_
              refine AllReadyL.cons (o := { dst := some 129, op := Op.buildSlice 74 1 #[(0, Operand.tmp 128)], type := 74, pos := "ref.go:257", after := #[{ on := 5, ground := Ground.data }], guard := none }) rfl (fun K hK => ?_) AllReadyL.nil
              go_simp
              obtain ⟨g171, hg171⟩ : ∃ x, wd.heap.size = x := ⟨_, rfl⟩
              have r171 := IsRow.new wd 31 [.int .i64 p, .int .i64 m, .int .i64 hh, .slice (some ⟨gc, 0, none⟩) n c3, .slice (some ⟨gr, 0, none⟩) n c4, .slice (some ⟨gt, 0, none⟩) n c6]
              obtain ⟨w600, hw600⟩ : ∃ x, wd.alloc (.cells #[.int .i64 p, .int .i64 m, .int .i64 hh, .slice (some ⟨gc, 0, none⟩) n c3, .slice (some ⟨gr, 0, none⟩) n c4, .slice (some ⟨gt, 0, none⟩) n c6] 31) = x := ⟨_, rfl⟩
              rw [show ([.int .i64 p, .int .i64 m, .int .i64 hh, .slice (some ⟨gc, 0, none⟩) n c3, .slice (some ⟨gr, 0, none⟩) n c4, .slice (some ⟨gt, 0, none⟩) n c6] : List Value).toArray = #[.int .i64 p, .int .i64 m, .int .i64 hh, .slice (some ⟨gc, 0, none⟩) n c3, .slice (some ⟨gr, 0, none⟩) n c4, .slice (some ⟨gt, 0, none⟩) n c6] from rfl, hw600, hg171] at r171
              rw [hw600, hg171]
              have b600 : Below wd.heap.size wd w600 := by rw [← hw600]; exact (Below.refl _ _).alloc (Nat.le_refl _) _
              have hv600 : Below w25.heap.size w25 w600 := hv0.trans (b600.mono hv0.size)
              clear hw600 b600 hg171
              refine hK.out _ _ (hv600) (fun hHeld => ?_)
              clear hK K
              try simp only [Act.put, List.setIfInBounds_toArray, List.set_cons_zero, List.set_cons_succ]
              refine wpAnyL_ready (rs := [7]) (by kernel_rfl) (by simp) ?_
              refine AllReadyL.late (o := { dst := some 130, op := Op.call { callee := Callee.builtin Builtin.append, args := #[Operand.tmp 127, Operand.tmp 129], argTypes := #[74, 74] }, type := 74, pos := "ref.go:257", after := #[{ on := 4, ground := Ground.data }, { on := 6, ground := Ground.data }], guard := none }) rfl (by rfl) (fun K hK => ?_) AllReadyL.nil
              rw [if_pos (by rfl)]
              have hlat := HLT.out.below hv600
              have hkr := hlat.krow
              replace hkr : ORow w600 31 6 m0.A m0.c (m0.ks.map (RA.bill n)) := by rw [← HNN.out]; exact hkr
              obtain ⟨gk, ok, ck, w601, hrun, hKR, hor, hgr⟩ := run_oapp billT hkr [.int .i64 p, .int .i64 m, .int .i64 hh, .slice (some ⟨gc, 0, none⟩) n c3, .slice (some ⟨gr, 0, none⟩) n c4, .slice (some ⟨gt, 0, none⟩) n c6] rfl (by intro u hu; simp only [List.mem_cons, List.not_mem_nil, or_false] at hu; rcases hu with rfl | rfl | rfl | rfl | rfl | rfl <;> rfl) g171 (fun j u hu => by rw [r171.cell]; exact hu) (by rw [List.length_map]; have := hlat.len; omega) (by rw [List.length_map]; have := hlat.len; omega) 74
              rw [List.length_map, HLK.out] at hrun
              refine wp_arun (.tmp 127) (.tmp 129) 74 rfl _ _ _ rfl rfl hrun ?_
              have HRW := hlat.row
              have hnb : gk ≠ bl := fun e => Or.elim hor (fun ⟨o, ho⟩ => by have h1 : col gk = 4 := hlat.cka _ ho; have h2 := hlat.cbl; rw [e] at h1; omega) (fun ho => by have := HRW.lt; omega)
              have hrw := HRW.grown hgr (by intro e; exact hnb (Option.some.inj e))
              have hk1 : w601.cell? ⟨bl, 20, none⟩ = some _ := (hrw.cell 20).trans (RM.cells_tail hlat.h16 2)
              have hf1 : w601.frozen? ⟨bl, 20, none⟩ = false := hrw.frozen 20
              have hKR' : ORow w601 31 6 (some ⟨gk, ok, none⟩) ck (m0.ks.map (RA.bill l.n) ++ [[.int .i64 p, .int .i64 m, .int .i64 hh, .slice (some ⟨gc, 0, none⟩) n c3, .slice (some ⟨gr, 0, none⟩) n c4, .slice (some ⟨gt, 0, none⟩) n c6]]) := by rw [HNN.out]; exact hKR
              have HPF0 := Lib.hid (rp26_of HLT.out hv600 hgr hKR' hor)
              have hv601 := hgr
              clear hKR hKR' hor hrun hkr hlat HRW hrw r171
              refine hK.out _ _ ?_
              clear hK K
              try simp only [Act.put, List.setIfInBounds_toArray, List.set_cons_zero, List.set_cons_succ]
              refine wpAnyL_takeE (i := 8) (oi := { dst := some 131, op := Op.nilCheck (Operand.tmp 123), type := 0, pos := "ref.go:257", after := #[{ on := 0, ground := Ground.data }, { on := 0, ground := Ground.phase }, { on := 1, ground := Ground.phase }, { on := 2, ground := Ground.phase }, { on := 3, ground := Ground.phase }, { on := 4, ground := Ground.phase }, { on := 5, ground := Ground.phase }, { on := 6, ground := Ground.phase }, { on := 7, ground := Ground.phase }], guard := none }) (v := ?v8_607) rfl (by kernel_rfl) (by kernel_rfl) (by kernel_rfl) (by kernel_rfl) (fun _ _ _ h => h) (Or.inl ⟨by rfl, ?h8_607⟩) ?r8_607
              case h8_607 =>
                intro W
                go_simp
                try with_reducible rfl
              try simp only [Act.put, List.setIfInBounds_toArray, List.set_cons_zero, List.set_cons_succ]
              refine wpAnyL_takeE (i := 9) (oi := { dst := some 132, op := Op.fieldAddr 76 (Operand.tmp 131) 5, type := 0, pos := "ref.go:257", after := #[{ on := 8, ground := Ground.data }, { on := 0, ground := Ground.phase }, { on := 1, ground := Ground.phase }, { on := 2, ground := Ground.phase }, { on := 3, ground := Ground.phase }, { on := 4, ground := Ground.phase }, { on := 5, ground := Ground.phase }, { on := 6, ground := Ground.phase }, { on := 7, ground := Ground.phase }], guard := none }) (v := ?v9_608) rfl (by kernel_rfl) (by kernel_rfl) (by kernel_rfl) (by kernel_rfl) (fun _ _ _ h => h) (Or.inl ⟨by rfl, ?h9_608⟩) ?r9_608
              case h9_608 =>
                intro W
                go_simp
                try with_reducible rfl
              try simp only [Act.put, List.setIfInBounds_toArray, List.set_cons_zero, List.set_cons_succ]
              refine wpAnyL_ready (rs := [10]) (by kernel_rfl) (by simp) ?_
              refine AllReadyL.late (o := { dst := none, op := Op.store 74 (Operand.tmp 132) (Operand.tmp 130), type := 0, pos := "ref.go:257", after := #[{ on := 9, ground := Ground.data }, { on := 7, ground := Ground.data }, { on := 7, ground := Ground.chain }, { on := 0, ground := Ground.phase }, { on := 1, ground := Ground.phase }, { on := 2, ground := Ground.phase }, { on := 3, ground := Ground.phase }, { on := 4, ground := Ground.phase }, { on := 5, ground := Ground.phase }, { on := 6, ground := Ground.phase }, { on := 7, ground := Ground.phase }], guard := none }) rfl (by rfl) (fun K hK => ?_) AllReadyL.nil
              go_simp
              obtain ⟨w602, hw602⟩ : ∃ x, w601.setCell ⟨bl, 20, none⟩ (.slice (some ⟨gk, ok, none⟩) (Lk + 1) ck) = x := ⟨_, rfl⟩
              rw [hw602]
              have HPF : Hid (RP26 w25 w602 bl n l.periods l.head gk ok ck m0 [.int .i64 p, .int .i64 m, .int .i64 hh, .slice (some ⟨gc, 0, none⟩) n c3, .slice (some ⟨gr, 0, none⟩) n c4, .slice (some ⟨gt, 0, none⟩) n c6]) := Lib.hid (by have h1 := HPF0.out; rw [HLK.out, hw602, HNN.out] at h1; exact h1)
              have hv602 := HPF
              clear hw602
              refine hK.out _ _ ?_
              clear hK K
              try simp only [Act.put, List.setIfInBounds_toArray, List.set_cons_zero, List.set_cons_succ]
              refine wpAnyL_done (by kernel_rfl) ?_ _
              go_wp2_with fail
              go_meet
              exact ⟨gk, ok, ck, HPF⟩
            case rest =>
              obtain ⟨gk, ok, ck, HP⟩ := hcut
              obtain ⟨w26, hw26⟩ : ∃ x, wc = x := ⟨_, rfl⟩
              try rw [hw26] at HP ⊢
              clear hw26 HR1 HR12
              have h16 := HLT.out.h16
              have c21 : w26.cell? ⟨bl, 21, none⟩ = some (.slice m0.G Lk m0.d) := by rw [← HLK.out]; exact (rcell_g HP.out.row h16).1
              have hmg : ∀ a, m0.G = some a → a.block < w26.heap.size ∧ a.block ≠ bl := fun a ha => ⟨Nat.lt_of_lt_of_le (HLT.out.grow.lt ha) HP.out.keep.size, fun e => by have h1 := HLT.out.cga a ha; have h2 := HLT.out.cbl; rw [e] at h1; omega⟩
              have hgr26 : ORow w26 29 1 m0.G m0.d (m0.ks.map (RA.gr n)) := by
                have h3 : ORow w25 29 1 m0.G m0.d (m0.ks.map (RA.gr l.n)) := HLT.out.grow
                rw [HNN.out] at h3
                refine h3.keep fun a ha => HP.out.keep.block a.block (HLT.out.grow.lt ha) fun e => ?_
                have h2 := HLT.out.cga a ha
                rcases e with e | ⟨a', ha', e⟩
                · have := HLT.out.cbl; rw [e] at h2; omega
                · have := HLT.out.cka a' ha'; rw [e] at h2; omega
              have r80 := IsRow.new w26 29 [.slice (some ⟨gg, 0, none⟩) n c5]
              rw [show ([.slice (some ⟨gg, 0, none⟩) n c5] : List Value).toArray = #[.slice (some ⟨gg, 0, none⟩) n c5] from rfl] at r80
              have hbw : Below w26.heap.size w26 (w26.alloc (.cells #[.slice (some ⟨gg, 0, none⟩) n c5] 29)) := (Below.refl _ _).alloc (Nat.le_refl _) _
              obtain ⟨w27, hw27⟩ : ∃ x, w26.alloc (.cells #[.slice (some ⟨gg, 0, none⟩) n c5] 29) = x := ⟨_, rfl⟩
              rw [hw27] at r80 hbw
              have hlen := HLT.out.len
              obtain ⟨gq, og, cq, w28, hrun, hKR, hor, hgr⟩ := run_oapp rintsT (hgr26.below hbw) [.slice (some ⟨gg, 0, none⟩) n c5] rfl (by intro u hu; obtain rfl := List.mem_singleton.1 hu; rfl) w26.heap.size (fun j u hu => by rw [r80.cell]; exact hu) (by rw [List.length_map]; omega) (by rw [List.length_map]; omega) 39
              rw [List.length_map, HLK.out] at hrun
              have HRW := HP.out.row.below' hbw
              have hnb : gq ≠ bl := fun e => by
                rcases hor with ⟨o, ho⟩ | ho
                · exact (hmg _ ho).2 e
                · have := HRW.lt; omega
              have hrw := HRW.grown hgr (by intro e; exact hnb (Option.some.inj e))
              have hk1 := (rcell_g hrw h16).1
              have hf1 := (rcell_g hrw h16).2
              have HPG := Lib.hid (rpg_of h16 HP.out.row hmg hbw hgr hKR hor)
              rw [HLK.out] at HPG
              have HW27 := Lib.hid hw27
              have HRUN := Lib.hid hrun
              clear r80 hbw hlen hgr26 hmg hrun hKR hor hgr HRW hnb hrw hw27 h16
              go_wp2_with (at_builtin; rw [show _ = w27 from HW27.out]; refine wpList_arun rfl (.tmp 137) (.tmp 139) 39 rfl _ _ _ rfl rfl HRUN.out ?_)
              refine bodyPost_end (results_none rfl _ _ _) rfl ?_
              have hp26 := HP.out
              have hpg := HPG.out
              rw [← HLK.out] at hpg
              have hls := HLEN.out
              have hbb := HC1.out.hb
              have hso := HC1.out.s.o
              have htz := HTS.out
              have hft := HFT.out
              obtain ⟨col', m', hl', hc', hk'⟩ := rb_mem HLT.out HNN.out hso.2.2.2 hls.1 hls.2.1 HSU.out.2.2.1 hls.2.2 HC1.out.fc HC1.out.fr hft.2 HC1.out.fg ⟨by omega, hbb.2.1, hbb.2.2.1, by omega⟩ HKS.out hp26 hpg (by rw [hso.1] at htz; exact htz)
              rw [HLK.out] at hl' hk'
              have hac : (Bil.acct b p n).2 = (b5, e') := by
                by_cases hz : e' = 0
                · rw [HQ0.out hz, hz]
                · rw [HQ.out hz]
              refine ⟨rfl, col', m', _, hl', rfl, rfl, fun b hb => ?_, ?_, ?_, fun hz => ?_⟩
              · rw [hso.1]; exact hc' b hb
              · rw [hac]; exact HC1.out.s.st.keeps hk' (fun q hq hS => by have := HCB.out q hS; omega)
              · exact (HC1.out.s.k.mono fun k _ e => .inl e).trans (hk'.mono fun k _ e => .inr e)
              · rw [hac] at hz
                rw [HQ0.out hz]
end Go.Proofs.YtkjomnakolhdcaaDoor
