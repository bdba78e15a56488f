/- Joined texts: BilU, BilU2, BilU3. Conditions: as each part says. -/
import Derived.Test.YtkjomnakolhdcaaDoorBilRB
import Derived.Test.YtkjomnakolhdcaaDoorBilLX
import Derived.Test.YtkjomnakolhdcaaDoorBilY
namespace Go.Proofs.YtkjomnakolhdcaaDoor
set_option linter.unusedVariables false
set_option linter.unusedSimpArgs false
/-! Layer 35's reference: what its Close leaves of a ledger in memory: a kept bill more, the eldest dropped; the state of its Close's second loop. Conditions: the ledger reads as told. -/
section
open Go.RowKit
section
variable {w w' W wd : World} {col : Nat → Nat} {n bl : Nat} {m : RM} {l : Bil.Lg}
theorem RAt.reper (h : RAt w bl col m l) (p : Nat) (hp : p ≤ 65536) : RAt (w.setCell ⟨bl, 1, none⟩ (.int .i64 (p : Int))) bl col m { l with periods := p } := by
  have hk : Keep (fun k => k = bl) w (w.setCell ⟨bl, 1, none⟩ (.int .i64 (p : Int))) := Keep.of_grown (grown_setCell _ _ _ _) (fun k e => (Option.some.inj e).symm)
  have f : ∀ b q, col b = q → q ≠ 1 → ¬ b = bl := fun b q hq h0 hS => by subst hS; rw [h.cbl] at hq; omega
  have kat : ∀ k ∈ m.ks, RKat (w.setCell ⟨bl, 1, none⟩ (.int .i64 (p : Int))) col l.n k := fun k hk' => by
    have x := h.kat k hk'
    exact ⟨x.c.keeps hk (f _ _ x.qc (by omega)), x.r.keeps hk (f _ _ x.qr (by omega)), x.t.keeps hk (f _ _ x.qt (by omega)), x.g.keeps hk (f _ _ x.qg (by omega)), x.lc, x.lr, x.lt, x.lg, x.qc, x.qr, x.qt, x.qg⟩
  have hr : IsRow (w.setCell ⟨bl, 1, none⟩ (.int .i64 (p : Int))) bl 76 (m.cells { l with periods := p }) := h.row.set 1 _
  exact ⟨hr, h.h16, h.n1, h.n2, hp, h.len, h.pend.keeps hk (f _ _ h.cbp (by omega)), h.paid.keeps hk (f _ _ h.cbq (by omega)), h.lp, h.lq, h.kept,
    h.krow.keep fun a ha => hk.block a.block (h.krow.lt ha) (f _ _ (h.cka a ha) (by omega)), h.grow.keep fun a ha => hk.block a.block (h.grow.lt ha) (f _ _ (h.cga a ha) (by omega)), kat, h.cbl, h.cbp, h.cbq, h.cka, h.cga, fun k hc => Nat.lt_of_lt_of_le (h.lt k hc) hk.size, h.tab⟩
/-- where the lists of a new bill lie: not in the blocks gk and gq -/
structure RNew (wd : World) (Bs n gk gq : Nat) (kn : RA) : Prop where
  c : FRow wd kn.bc n (fun t => kn.a.bill.charges.getD t 0)
  r : FRow wd kn.br n (fun t => kn.a.bill.credits.getD t 0)
  t : FRow wd kn.bt n (fun t => kn.a.bill.nets.getD t 0)
  g : FRow wd kn.bg n (fun t => kn.a.granted.getD t 0)
  lc : kn.a.bill.charges.length = n
  lr : kn.a.bill.credits.length = n
  lt : kn.a.bill.nets.length = n
  lg : kn.a.granted.length = n
  bc : Bs ≤ kn.bc
  br : Bs ≤ kn.br
  bt : Bs ≤ kn.bt
  bg : Bs ≤ kn.bg
  nc : kn.bc ≠ gk ∧ kn.bc ≠ gq ∧ kn.bg ≠ kn.bc
  nr : kn.br ≠ gk ∧ kn.br ≠ gq ∧ kn.bg ≠ kn.br
  nt : kn.bt ≠ gk ∧ kn.bt ≠ gq ∧ kn.bg ≠ kn.bt
  ng : kn.bg ≠ gk ∧ kn.bg ≠ gq
theorem RAt.pushed (h : RAt W bl col m l) (hk : Keep (fun q => q = bl ∨ (∃ a, m.A = some a ∧ q = a.block) ∨ ∃ a, m.G = some a ∧ q = a.block) W wd) (Bs : Nat) (hz : ∀ b, Bs ≤ b → col b = 0)
    (ht : 2 < Bs ∧ 0 < Bs ∧ 1 < Bs) (kn : RA) (g off c' gg goff gc d : Nat) (hn : RNew wd Bs l.n g gg kn)
    (krow : ORow wd 31 6 (some ⟨g, off, none⟩) c' (((m.ks ++ [kn]).drop d).map (RA.bill l.n))) (grow : ORow wd 29 1 (some ⟨gg, goff, none⟩) gc (((m.ks ++ [kn]).drop d).map (RA.gr l.n)))
    (hlen : ((m.ks ++ [kn]).drop d).length ≤ 16) (hg : (∃ o, m.A = some ⟨g, o, none⟩) ∨ Bs ≤ g) (hgg : (∃ o, m.G = some ⟨gg, o, none⟩) ∨ Bs ≤ gg) (hne : g ≠ gg) 
    (hr : IsRow wd bl 76 (RM.cells ⟨some ⟨g, off, none⟩, c', some ⟨gg, goff, none⟩, gc, (m.ks ++ [kn]).drop d, m.bp, m.cp, m.bq, m.cq⟩ l)) :
    ∃ col', RAt wd bl col' ⟨some ⟨g, off, none⟩, c', some ⟨gg, goff, none⟩, gc, (m.ks ++ [kn]).drop d, m.bp, m.cp, m.bq, m.cq⟩ { l with kept := (l.kept ++ [kn.a]).drop d } ∧ (∀ b, col' b ≠ 0 → col b ≠ 0 ∨ Bs ≤ b) ∧ (∀ b, col b = 6 → col' b = 6) ∧ col' kn.bc = 6 ∧ col' kn.br = 6 ∧ col' kn.bt = 6 := by
  have hg4 : col g = 4 ∨ col g = 0 := by
    rcases hg with ⟨o, ho⟩ | hg
    · exact .inl (h.cka _ ho)
    · exact .inr (hz g hg)
  have hg5 : col gg = 5 ∨ col gg = 0 := by
    rcases hgg with ⟨o, ho⟩ | hg
    · exact .inl (h.cga _ ho)
    · exact .inr (hz gg hg)
  have hgl : g < wd.heap.size := krow.lt rfl
  have hggl : gg < wd.heap.size := grow.lt rfl
  have z1 := hz _ hn.bc
  have z2 := hz _ hn.br
  have z3 := hz _ hn.bt
  have z4 := hz _ hn.bg
  obtain ⟨nc1, nc2, nc3⟩ := hn.nc
  obtain ⟨nr1, nr2, nr3⟩ := hn.nr
  obtain ⟨nt1, nt2, nt3⟩ := hn.nt
  obtain ⟨ng1, ng2⟩ := hn.ng
  let col' : Nat → Nat := fun b => if b = g then 4 else if b = gg then 5 else if b = kn.bc ∨ b = kn.br ∨ b = kn.bt then 6 else if b = kn.bg then 7 + kn.a.bill.period.toNat else col b
  have hdef : ∀ b, col' b = if b = g then 4 else if b = gg then 5 else if b = kn.bc ∨ b = kn.br ∨ b = kn.bt then 6 else if b = kn.bg then 7 + kn.a.bill.period.toNat else col b := fun b => rfl
  have hoth : ∀ b, b ≠ g → b ≠ gg → ¬ (b = kn.bc ∨ b = kn.br ∨ b = kn.bt) → b ≠ kn.bg → col' b = col b := fun b e1 e2 e3 e4 => by rw [hdef, if_neg e1, if_neg e2, if_neg e3, if_neg e4]
  have hc : ∀ b q, col b = q → q ≠ 0 → q ≠ 4 → q ≠ 5 → col' b = q := fun b q hq h0 h4 h5 => by
    have e1 : b ≠ g := fun e => by subst e; omega
    have e0 : b ≠ gg := fun e => by subst e; omega
    have e2 : ¬ (b = kn.bc ∨ b = kn.br ∨ b = kn.bt) := fun e => by rcases e with e | e | e <;> (subst e; omega)
    have e3 : b ≠ kn.bg := fun e => by subst e; omega
    rw [hoth b e1 e0 e2 e3, hq]
  have h6 : ∀ b, b ≠ g → b ≠ gg → (b = kn.bc ∨ b = kn.br ∨ b = kn.bt) → col' b = 6 := fun b e1 e0 e2 => by rw [hdef, if_neg e1, if_neg e0, if_pos e2]
  have h7 : col' kn.bg = 7 + kn.a.bill.period.toNat := by
    have e2 : ¬ (kn.bg = kn.bc ∨ kn.bg = kn.br ∨ kn.bg = kn.bt) := fun e => by rcases e with e | e | e; · exact nc3 e
                                                                               · exact nr3 e
                                                                               · exact nt3 e
    rw [hdef, if_neg ng1, if_neg ng2, if_neg e2, if_pos rfl]
  have hg' : col' g = 4 := by rw [hdef, if_pos rfl]
  have hgg' : col' gg = 5 := by rw [hdef, if_neg (fun e => hne e.symm), if_pos rfl]
  have f : ∀ b q, col b = q → q ≠ 1 → q ≠ 4 → q ≠ 5 → ¬ (b = bl ∨ (∃ a, m.A = some a ∧ b = a.block) ∨ ∃ a, m.G = some a ∧ b = a.block) := fun b q hq h0 h4 h5 hS => by
    rcases hS with e | ⟨a, ha, e⟩ | ⟨a, ha, e⟩
    · subst e; rw [h.cbl] at hq; omega
    · subst e; rw [h.cka a ha] at hq; omega
    · subst e; rw [h.cga a ha] at hq; omega
  have hkl : l.kept ++ [kn.a] = (m.ks ++ [kn]).map RA.a := by rw [h.kept]; simp
  refine ⟨col', ⟨hr, h.h16, h.n1, h.n2, h.per, hlen, h.pend.keeps hk (f _ _ h.cbp (by omega) (by omega) (by omega)), h.paid.keeps hk (f _ _ h.cbq (by omega) (by omega) (by omega)), h.lp, h.lq, ?_, krow, grow, fun k hk' => ?_, hc _ _ h.cbl (by omega) (by omega) (by omega), hc _ _ h.cbp (by omega) (by omega) (by omega), hc _ _ h.cbq (by omega) (by omega) (by omega), fun a ha => ?_, fun a ha => ?_, fun k hk' => ?_, ?_⟩, fun b hb => ?_, fun b hb => hc b 6 hb (by omega) (by omega) (by omega), h6 _ nc1 nc2 (.inl rfl), h6 _ nr1 nr2 (.inr (.inl rfl)), h6 _ nt1 nt2 (.inr (.inr rfl))⟩
  · show (l.kept ++ [kn.a]).drop d = List.map RA.a ((m.ks ++ [kn]).drop d)
    rw [hkl, List.map_drop]
  · have hk2 := List.mem_of_mem_drop hk'
    rcases List.mem_append.1 hk2 with hm | hm
    · have x := h.kat k hm
      exact ⟨x.c.keeps hk (f _ _ x.qc (by omega) (by omega) (by omega)), x.r.keeps hk (f _ _ x.qr (by omega) (by omega) (by omega)), x.t.keeps hk (f _ _ x.qt (by omega) (by omega) (by omega)), x.g.keeps hk (f _ _ x.qg (by omega) (by omega) (by omega)), x.lc, x.lr, x.lt, x.lg, hc _ _ x.qc (by omega) (by omega) (by omega), hc _ _ x.qr (by omega) (by omega) (by omega), hc _ _ x.qt (by omega) (by omega) (by omega), hc _ _ x.qg (by omega) (by omega) (by omega)⟩
    · obtain rfl := List.mem_singleton.1 hm
      exact ⟨hn.c, hn.r, hn.t, hn.g, hn.lc, hn.lr, hn.lt, hn.lg, h6 _ nc1 nc2 (.inl rfl), h6 _ nr1 nr2 (.inr (.inl rfl)), h6 _ nt1 nt2 (.inr (.inr rfl)), h7⟩
  · obtain rfl := Option.some.inj ha; exact hg'
  · obtain rfl := Option.some.inj ha; exact hgg'
  · by_cases e1 : k = g
    · subst e1; exact hgl
    · by_cases e0 : k = gg
      · subst e0; exact hggl
      · by_cases e2 : k = kn.bc ∨ k = kn.br ∨ k = kn.bt
        · rcases e2 with e | e | e <;> subst e
          · exact hn.c.lt
          · exact hn.r.lt
          · exact hn.t.lt
        · by_cases e3 : k = kn.bg
          · subst e3; exact hn.g.lt
          · rw [hoth k e1 e0 e2 e3] at hk'
            exact Nat.lt_of_lt_of_le (h.lt k hk') hk.size
  · have t1 := h.tab
    have b1 := hn.bc; have b2 := hn.br; have b3 := hn.bt; have b4 := hn.bg
    have key : ∀ x, x < Bs → col x = 0 → col' x = 0 := fun x hx hx0 => by
      rw [hoth x ?_ ?_ (by omega) (by omega), hx0]
      · intro e
        subst e
        rcases hg with ⟨o, ho⟩ | hg
        · have : col x = 4 := h.cka _ ho
          omega
        · omega
      · intro e
        subst e
        rcases hgg with ⟨o, ho⟩ | hg
        · have : col x = 5 := h.cga _ ho
          omega
        · omega
    exact ⟨key _ ht.1 t1.1, key _ ht.2.1 t1.2.1, key _ ht.2.2 t1.2.2⟩
  · by_cases e1 : b = g
    · subst e1
      rcases hg with ⟨o, ho⟩ | hg
      · exact .inl (by have : col b = 4 := h.cka _ ho; omega)
      · exact .inr hg
    · by_cases e0 : b = gg
      · subst e0
        rcases hgg with ⟨o, ho⟩ | hg
        · exact .inl (by have : col b = 5 := h.cga _ ho; omega)
        · exact .inr hg
      · by_cases e2 : b = kn.bc ∨ b = kn.br ∨ b = kn.bt
        · rcases e2 with e | e | e <;> subst e
          · exact .inr hn.bc
          · exact .inr hn.br
          · exact .inr hn.bt
        · by_cases e3 : b = kn.bg
          · subst e3; exact .inr hn.bg
          · rw [hoth b e1 e0 e2 e3] at hb
            exact .inl hb
/-! The second loop of Close: three rows that grow -/
/-- an owned row of numbers beside one that has grown -/
theorem own_other {B4 k c k' c' : Nat} {A A' : Option Addr} {xs : List Value} (h : W.ownsRow B4 3 1 (.slice A k c) k xs) (hg : W.grownBy wd (Value.slice A' k' c').ownBlock) (hd : ∀ a b, A' = some a → A = some b → a.block ≠ b.block) : wd.ownsRow B4 3 1 (.slice A k c) k xs := h.kept hg (by
  cases hv : (Value.slice A k c).ownBlock with
  | none => exact .inl rfl
  | some q =>
    refine .inr fun e => ?_
    cases A' with
    | none => cases e
    | some a4 =>
      cases A with
      | none => cases hv
      | some a5 => exact hd a4 a5 rfl rfl (by simp [Value.ownBlock] at e hv; omega))
theorem dis_next {B4 k c : Nat} {A A1 A2 : Option Addr} {xs : List Value} (h : W.ownsRow B4 3 1 (.slice A k c) k xs) (hd : ∀ a b, A1 = some a → A = some b → a.block ≠ b.block) (hA : A2 = A1 ∨ ∃ a, A2 = some a ∧ W.heap.size ≤ a.block) : ∀ a b, A2 = some a → A = some b → a.block ≠ b.block := by
  intro a b ha hb
  rcases hA with e | ⟨a', e, hbk⟩
  · exact hd a b (e ▸ ha) hb
  · rw [e] at ha
    obtain rfl := Option.some.inj ha
    subst hb
    have := (own_above h (k := b.block) (by simp [Value.ownBlock])).2
    omega
/-- the state between two rounds: b12: the new bill's variable -/
structure RCSt (w W : World) (bl b12 B4 B0 B : Nat) (col : Nat → Nat) (m : RM) (l : Bil.Lg) (L12 : List Value) (A3 : Option Addr) (k3 c3 : Nat) (X3 : List Int) (A4 : Option Addr) (k4 c4 : Nat) (X4 : List Int) (A5 : Option Addr) (k5 c5 : Nat) (X5 : List Int) (A : Option Addr) (n : Nat) (C : List Int) : Prop where
  lat : RAt W bl col m l
  row : IsRow W b12 31 L12
  own3 : W.ownsRow B4 3 1 (.slice A3 k3 c3) k3 (ivs X3)
  own4 : W.ownsRow B4 3 1 (.slice A4 k4 c4) k4 (ivs X4)
  own5 : W.ownsRow B4 3 1 (.slice A5 k5 c5) k5 (ivs X5)
  d34 : ∀ a b, A3 = some a → A4 = some b → a.block ≠ b.block
  d35 : ∀ a b, A3 = some a → A5 = some b → a.block ≠ b.block
  d45 : ∀ a b, A4 = some a → A5 = some b → a.block ≠ b.block
  rd : Rd W B 1 A n (ivs C)
  rdc : ∀ a, A = some a → col a.block = 0
  keep : Keep (fun q => (col q ≠ 0 ∧ col q ≠ 6) ∨ q = b12) w W
  hB : B ≤ B0
  h12 : B0 ≤ b12
  hw : w.heap.size ≤ B4
  h4 : b12 < B4
  hb4 : B4 ≤ W.heap.size
  hlt : ∀ q, col q ≠ 0 → q < B0
section
variable {b12 B4 B0 B : Nat} {L12 : List Value} {A3 A4 A5 : Option Addr} {k3 c3 k4 c4 k5 c5 : Nat} {X3 X4 X5 : List Int} {A : Option Addr} {C : List Int}
theorem RCSt.ck {bA offA : Nat} (h : RCSt w W bl b12 B4 B0 B col m l L12 A3 k3 c3 X3 A4 k4 c4 X4 A5 k5 c5 X5 (some ⟨bA, offA, none⟩) n C) (hC : C.length = n) {j : Nat} (hj : j < n) {x : Int} (hx : C.getD j 0 = x) : W.cell? ⟨bA, offA + j, none⟩ = some (.int .i64 x) := by
  obtain ⟨b, off, e, _, hc⟩ := rd_int h.rd hC (by omega)
  obtain ⟨rfl, rfl⟩ : bA = b ∧ offA = off := by have e := Option.some.inj e; exact ⟨congrArg (·.block) e, congrArg (·.off) e⟩
  rw [hc j hj, hx]
/-- a step that leaves all old blocks but q0, which lies behind b12 -/
theorem RCSt.turn (h : RCSt w W bl b12 B4 B0 B col m l L12 A3 k3 c3 X3 A4 k4 c4 X4 A5 k5 c5 X5 A n C) {q0 : Option Nat} (hg : W.grownBy wd q0) (hq : ∀ q, q0 = some q → B4 ≤ q) :
    RAt wd bl col m l ∧ IsRow wd b12 31 L12 ∧ Rd wd B 1 A n (ivs C) ∧ Keep (fun q => (col q ≠ 0 ∧ col q ≠ 6) ∨ q = b12) w wd := by
  have hk : Keep (fun k => q0 = some k) W wd := Keep.of_grown hg (fun k e => e)
  have hlt := h.hlt; have h12 := h.h12; have h4 := h.h4; have hB := h.hB; have hw := h.hw; have hb4 := h.hb4
  have hks := h.keep.size
  refine ⟨h.lat.keeps hk fun b hb => ?_, h.row.keep (hk.block b12 h.row.lt fun e => by have := hq _ e; omega), h.rd.keep fun p hp => World.cell?_of_block (hk.block p.block (by omega) fun e => by have := hq _ e; omega), h.keep.grown hg fun k e => .inr (by have := hq k e; omega)⟩
  have := hq b hb
  rcases Nat.eq_zero_or_pos (col b) with h0 | h0
  · exact h0
  · have := hlt b (by omega); omega
theorem RCSt.below (h : RCSt w W bl b12 B4 B0 B col m l L12 A3 k3 c3 X3 A4 k4 c4 X4 A5 k5 c5 X5 A n C) (hb : Below W.heap.size W wd) : RCSt w wd bl b12 B4 B0 B col m l L12 A3 k3 c3 X3 A4 k4 c4 X4 A5 k5 c5 X5 A n C := by
  obtain ⟨h1, h2, h3, h4⟩ := h.turn (grownBy_of_below hb) (fun q e => by cases e)
  exact ⟨h1, h2, own_below h.own3 hb, own_below h.own4 hb, own_below h.own5 hb, h.d34, h.d35, h.d45, h3, h.rdc, h4, h.hB, h.h12, h.hw, h.h4, Nat.le_trans h.hb4 hb.size, h.hlt⟩
theorem RCSt.app4 (h : RCSt w W bl b12 B4 B0 B col m l L12 A3 k3 c3 X3 A4 k4 c4 X4 A5 k5 c5 X5 A n C) {A' : Option Addr} {k' c' : Nat} {X' : List Int} (ho : wd.ownsRow B4 3 1 (.slice A' k' c') k' (ivs X')) (hg : W.grownBy wd (Value.slice A4 k4 c4).ownBlock) (hA : A' = A4 ∨ ∃ a, A' = some a ∧ W.heap.size ≤ a.block) :
    RCSt w wd bl b12 B4 B0 B col m l L12 A3 k3 c3 X3 A' k' c' X' A5 k5 c5 X5 A n C := by
  obtain ⟨h1, h2, h3, h4⟩ := h.turn hg (fun q e => (own_above h.own4 e).1)
  exact ⟨h1, h2, own_other h.own3 hg (fun a b ha hb e => h.d34 b a hb ha e.symm), ho, own_other h.own5 hg h.d45, fun a b ha hb e => dis_next h.own3 (fun a b ha hb e => h.d34 b a hb ha e.symm) hA b a hb ha e.symm, h.d35, dis_next h.own5 h.d45 hA, h3, h.rdc, h4, h.hB, h.h12, h.hw, h.h4, Nat.le_trans h.hb4 hg.size, h.hlt⟩
theorem RCSt.app5 (h : RCSt w W bl b12 B4 B0 B col m l L12 A3 k3 c3 X3 A4 k4 c4 X4 A5 k5 c5 X5 A n C) {A' : Option Addr} {k' c' : Nat} {X' : List Int} (ho : wd.ownsRow B4 3 1 (.slice A' k' c') k' (ivs X')) (hg : W.grownBy wd (Value.slice A5 k5 c5).ownBlock) (hA : A' = A5 ∨ ∃ a, A' = some a ∧ W.heap.size ≤ a.block) :
    RCSt w wd bl b12 B4 B0 B col m l L12 A3 k3 c3 X3 A4 k4 c4 X4 A' k' c' X' A n C := by
  obtain ⟨h1, h2, h3, h4⟩ := h.turn hg (fun q e => (own_above h.own5 e).1)
  exact ⟨h1, h2, own_other h.own3 hg (fun a b ha hb e => h.d35 b a hb ha e.symm), own_other h.own4 hg (fun a b ha hb e => h.d45 b a hb ha e.symm), ho, h.d34, fun a b ha hb e => dis_next h.own3 (fun a b ha hb e => h.d35 b a hb ha e.symm) hA b a hb ha e.symm, fun a b ha hb e => dis_next h.own4 (fun a b ha hb e => h.d45 b a hb ha e.symm) hA b a hb ha e.symm, h3, h.rdc, h4, h.hB, h.h12, h.hw, h.h4, Nat.le_trans h.hb4 hg.size, h.hlt⟩
/-- a store into a block of the ledger's -/
theorem RCSt.setL (h : RCSt w W bl b12 B4 B0 B col m l L12 A3 k3 c3 X3 A4 k4 c4 X4 A5 k5 c5 X5 A n C) {q : Nat} (hq : col q ≠ 0 ∧ col q ≠ 6) (t : Nat) (v : Value) {l' : Bil.Lg} {m' : RM} (hl : RAt (W.setCell ⟨q, t, none⟩ v) bl col m' l') : RCSt w (W.setCell ⟨q, t, none⟩ v) bl b12 B4 B0 B col m' l' L12 A3 k3 c3 X3 A4 k4 c4 X4 A5 k5 c5 X5 A n C := by
  have hk : Keep (fun k => k = q) W (W.setCell ⟨q, t, none⟩ v) := Keep.of_grown (grown_setCell _ _ _ _) (fun k e => (Option.some.inj e).symm)
  have hlt := h.hlt; have h12 := h.h12; have h4 := h.h4; have hB := h.hB; have hw := h.hw; have hb4 := h.hb4
  have hql := hlt q hq.1
  have z : (W.setCell ⟨q, t, none⟩ v).heap.size = W.heap.size := by simp
  have hks := h.keep.size
  refine ⟨hl, h.row.keep (hk.block b12 h.row.lt fun e => by omega), own_far h.own3 (grown_setCell _ _ _ _) (by omega), own_far h.own4 (grown_setCell _ _ _ _) (by omega), own_far h.own5 (grown_setCell _ _ _ _) (by omega), h.d34, h.d35, h.d45, ?_, h.rdc, h.keep.setCell (.inl (.inl hq)) _, hB, h12, hw, h4, by rw [z]; exact h.hb4, hlt⟩
  exact h.rd.keepS hk (by omega) fun a ha e => hq.1 (e ▸ h.rdc a ha)
end
end
end
/-! Layer 35's reference: its Close where its arguments are refused. Conditions: at most 1000 charges, numbers of 64 bits. -/
section
open Go.RowKit
end
/-! Layer 35's reference: the memory behind its Close's second loop: a kept bill and a row of credits more, the eldest ones dropped. Conditions: the ledger reads as told. -/
section
open Go.RowKit
theorem billT : ElemT Tryd.prog 74 31 (.agg #[.int .i64 0, .int .i64 0, .int .i64 0, .slice none 0 0, .slice none 0 0, .slice none 0 0]) 6 96 := ⟨Tryd.underlying74, by kernel_rfl, rfl, by decide, by decide⟩
theorem rintsT : ElemT Tryd.prog 39 29 (.slice none 0 0) 1 24 := ⟨Tryd.underlying39, by kernel_rfl, rfl, by decide, by decide⟩
/-- a bill whose lists can be read -/
def RBillV (w : World) (v : Value) (b : Bil.Bill) : Prop := ∃ A1 A2 A3 n1 n2 n3 c1 c2 c3, v = .agg #[.int .i64 b.period, .int .i64 b.media, .int .i64 b.house, .slice A1 n1 c1, .slice A2 n2 c2, .slice A3 n3 c3] ∧ (b.charges.length = n1 ∧ b.credits.length = n2 ∧ b.nets.length = n3) ∧ Rd w w.heap.size 1 A1 n1 (ivs b.charges) ∧ Rd w w.heap.size 1 A2 n2 (ivs b.credits) ∧ Rd w w.heap.size 1 A3 n3 (ivs b.nets)
/-- a bill whose lists lie in blocks that have a colour -/
def RBillC (w : World) (col : Nat → Nat) (v : Value) (b : Bil.Bill) : Prop := ∃ A1 A2 A3 n1 n2 n3 c1 c2 c3, v = .agg #[.int .i64 b.period, .int .i64 b.media, .int .i64 b.house, .slice A1 n1 c1, .slice A2 n2 c2, .slice A3 n3 c3] ∧ (b.charges.length = n1 ∧ b.credits.length = n2 ∧ b.nets.length = n3) ∧ Rd w w.heap.size 1 A1 n1 (ivs b.charges) ∧ Rd w w.heap.size 1 A2 n2 (ivs b.credits) ∧ Rd w w.heap.size 1 A3 n3 (ivs b.nets) ∧
  (∀ a, A1 = some a → col a.block ≠ 0) ∧ (∀ a, A2 = some a → col a.block ≠ 0) ∧ ∀ a, A3 = some a → col a.block ≠ 0
theorem RBillC.rv {w : World} {col : Nat → Nat} {v : Value} {b : Bil.Bill} (h : RBillC w col v b) : RBillV w v b := by
  obtain ⟨A1, A2, A3, n1, n2, n3, c1, c2, c3, rfl, hl, r1, r2, r3, _⟩ := h
  exact ⟨A1, A2, A3, n1, n2, n3, c1, c2, c3, rfl, hl, r1, r2, r3⟩
theorem RBillC.keeps {S : Nat → Prop} {w w' : World} {col : Nat → Nat} {v : Value} {b : Bil.Bill} (h : RBillC w col v b) (hk : Keep S w w') (hs : ∀ b, S b → col b = 0) : RBillC w' col v b := by
  obtain ⟨A1, A2, A3, n1, n2, n3, c1, c2, c3, rfl, hl, r1, r2, r3, k1, k2, k3⟩ := h
  exact ⟨A1, A2, A3, n1, n2, n3, c1, c2, c3, rfl, hl, (r1.keepS hk (Nat.le_refl _) (fun a ha e => k1 a ha (hs _ e))).more hk.size, (r2.keepS hk (Nat.le_refl _) (fun a ha e => k2 a ha (hs _ e))).more hk.size, (r3.keepS hk (Nat.le_refl _) (fun a ha e => k3 a ha (hs _ e))).more hk.size, k1, k2, k3⟩
/-- what the reference's Close does where its arguments fit -/
def RCloseRes (w : World) (bl : Nat) (col : Nat → Nat) (l : Bil.Lg) (md hs : Int) (C : List Int) (e : Ending) (w' : World) : Prop :=
  (65536 ≤ l.periods ∧ e = .returned (.tuple #[zBill, .int .i64 2]) ∧ Below w.heap.size w w') ∨
  (l.periods < 65536 ∧ ∃ v col' m', e = .returned (.tuple #[v, .int .i64 0]) ∧ RBillC w' col' v (Bil.billOf l md hs C) ∧ RAt w' bl col' m' (Bil.closeOf (bookHead l.head ⟨(encClose md hs C).toArray⟩) l md hs C) ∧ Keep (fun b => col b ≠ 0 ∧ col b ≠ 6) w w' ∧ (∀ b, col' b ≠ 0 → col b ≠ 0 ∨ w.heap.size ≤ b) ∧ ∀ b, col b = 6 → col' b = 6)
/-- the state of the second loop before round k -/
def RLoopR (w14 wr : World) (bl b12 B4 B0 B : Nat) (col : Nat → Nat) (m : RM) (l : Bil.Lg) (md hs : Int) (C U T : List Int) (n : Nat) (A : Option Addr) (k : Nat) : Prop :=
  ∃ A3 c3 A4 c4 A5 c5, RCSt w14 wr bl b12 B4 B0 B col m { l with pending := mixL (· - ·) l.pending U k, paid := mixL (· + ·) l.paid T k } [.int .i64 (l.periods : Int), .int .i64 md, .int .i64 (hs + sumK U k), .slice A3 k c3, .slice A4 k c4, .slice A5 k c5] A3 k c3 (C.take k) A4 k c4 (U.take k) A5 k c5 (T.take k) A n C
/-- the ledger's cells -/
def rcs (n p : Nat) (hd : List UInt8) (bp cp bq cq : Nat) (K G : Value) : List Value := ([.int .i64 (n : Int), .int .i64 (p : Int)] : List Value) ++ bvs hd ++ ([.slice (some ⟨bp, 0, none⟩) n cp, .slice (some ⟨bq, 0, none⟩) n cq, K, G] : List Value)
theorem rcs_set20 {hd : List UInt8} (h : hd.length = 16) (n p bp cp bq cq : Nat) (K G v : Value) : (rcs n p hd bp cp bq cq K G).set 20 v = rcs n p hd bp cp bq cq v G := by
  have hc : (bvs hd).length = 16 := by rw [bvs_len, h]
  unfold rcs
  obtain ⟨a0, a1, a2, a3, a4, a5, a6, a7, a8, a9, a10, a11, a12, a13, a14, a15, e⟩ := list16 (bvs hd) hc
  rw [e]; rfl
theorem rcs_set21 {hd : List UInt8} (h : hd.length = 16) (n p bp cp bq cq : Nat) (K G v : Value) : (rcs n p hd bp cp bq cq K G).set 21 v = rcs n p hd bp cp bq cq K v := by
  have hc : (bvs hd).length = 16 := by rw [bvs_len, h]
  unfold rcs
  obtain ⟨a0, a1, a2, a3, a4, a5, a6, a7, a8, a9, a10, a11, a12, a13, a14, a15, e⟩ := list16 (bvs hd) hc
  rw [e]; rfl
theorem rcs_tail {hd : List UInt8} (h : hd.length = 16) (n p bp cp bq cq : Nat) (K G : Value) (j : Nat) : (rcs n p hd bp cp bq cq K G)[18 + j]? = ([.slice (some ⟨bp, 0, none⟩) n cp, .slice (some ⟨bq, 0, none⟩) n cq, K, G] : List Value)[j]? := by
  unfold rcs
  rw [List.getElem?_append_right (by simp [h])]
  simp [h]
section
variable {w25 w26 W0 W wx : World} {bl n gk ok ck gg og gc : Nat} {col : Nat → Nat} {m : RM} {l : Bil.Lg}
theorem rcell_n {n p bp cp bq cq : Nat} {hd : List UInt8} {K G : Value} (r : IsRow W bl 76 (rcs n p hd bp cp bq cq K G)) : W.cell? ⟨bl, 0, none⟩ = some (.int .i64 (n : Int)) := r.cell 0
theorem rcell_k {n p bp cp bq cq : Nat} {hd : List UInt8} {K G : Value} (r : IsRow W bl 76 (rcs n p hd bp cp bq cq K G)) (h : hd.length = 16) : W.cell? ⟨bl, 20, none⟩ = some K ∧ W.frozen? ⟨bl, 20, none⟩ = false := ⟨(r.cell 20).trans (rcs_tail h n p bp cp bq cq K G 2), r.frozen 20⟩
theorem rcell_g {n p bp cp bq cq : Nat} {hd : List UInt8} {K G : Value} (r : IsRow W bl 76 (rcs n p hd bp cp bq cq K G)) (h : hd.length = 16) : W.cell? ⟨bl, 21, none⟩ = some G ∧ W.frozen? ⟨bl, 21, none⟩ = false := ⟨(r.cell 21).trans (rcs_tail h n p bp cp bq cq K G 3), r.frozen 21⟩
theorem RAt.rcs (h : RAt W bl col m l) : IsRow W bl 76 (rcs l.n l.periods l.head m.bp m.cp m.bq m.cq (.slice m.A m.ks.length m.c) (.slice m.G m.ks.length m.d)) := h.row
/-- behind the append to the kept bills -/
structure RP26 (w25 wx : World) (bl n P1 : Nat) (hd : List UInt8) (gk ok ck : Nat) (m : RM) (L6 : List Value) : Prop where
  row : IsRow wx bl 76 (rcs n P1 hd m.bp m.cp m.bq m.cq (.slice (some ⟨gk, ok, none⟩) (m.ks.length + 1) ck) (.slice m.G m.ks.length m.d))
  kr : ORow wx 31 6 (some ⟨gk, ok, none⟩) ck (m.ks.map (RA.bill n) ++ [L6])
  hor : (∃ o, m.A = some ⟨gk, o, none⟩) ∨ w25.heap.size ≤ gk
  keep : Keep (fun q => q = bl ∨ ∃ a, m.A = some a ∧ q = a.block) w25 wx
theorem rp26_of {L6 : List Value} (h : RAt w25 bl col m l) (hb : Below w25.heap.size w25 W0) (hg : W0.grownBy W (some gk)) (hK : ORow W 31 6 (some ⟨gk, ok, none⟩) ck (m.ks.map (RA.bill l.n) ++ [L6])) (hor : (∃ o, m.A = some ⟨gk, o, none⟩) ∨ gk = W0.heap.size) :
    RP26 w25 (W.setCell ⟨bl, 20, none⟩ (.slice (some ⟨gk, ok, none⟩) (m.ks.length + 1) ck)) bl l.n l.periods l.head gk ok ck m L6 := by
  have hrw := h.rcs
  have hbl := hrw.lt
  have hz := hb.size
  have hz2 := hg.size
  have hold : (∃ o, m.A = some ⟨gk, o, none⟩) → col gk = 4 ∧ gk < w25.heap.size := fun ⟨o, ho⟩ => ⟨h.cka _ ho, h.krow.lt ho⟩
  have hnb : gk ≠ bl := fun e => by
    rcases hor with ho | ho
    · have h1 := (hold ho).1; have h2 := h.cbl; rw [e] at h1; omega
    · omega
  have hgs := grown_setCell W bl 20 (.slice (some ⟨gk, ok, none⟩) (m.ks.length + 1) ck)
  refine ⟨?_, ?_, ?_, ?_⟩
  · have := ((hrw.below' hb).grown hg (by intro e; exact hnb (Option.some.inj e))).set 20 (.slice (some ⟨gk, ok, none⟩) (m.ks.length + 1) ck)
    rw [rcs_set20 h.h16] at this; exact this
  · exact hK.keep fun a ha => by
      have hal := hK.lt ha
      obtain rfl := Option.some.inj ha
      exact hgs.block _ hal (fun e => hnb (Option.some.inj e))
  · rcases hor with ho | ho
    · exact .inl ho
    · exact .inr (by omega)
  · refine ((Keep.of_below hb).grown hg fun k e => ?_).grown hgs fun k e => .inl (.inl (Option.some.inj e).symm)
    have e := Option.some.inj e
    subst e
    rcases hor with ⟨o, ho⟩ | ho
    · exact .inl (.inr ⟨_, ho, rfl⟩)
    · exact .inr (by omega)
/-- behind the append to the granted credits -/
structure RP27 (w26 wx : World) (bl n P1 : Nat) (hd : List UInt8) (K : Value) (gg og gc : Nat) (m : RM) (bg : Nat) : Prop where
  row : IsRow wx bl 76 (rcs n P1 hd m.bp m.cp m.bq m.cq K (.slice (some ⟨gg, og, none⟩) (m.ks.length + 1) gc))
  gr : ORow wx 29 1 (some ⟨gg, og, none⟩) gc (m.ks.map (RA.gr n) ++ [[.slice (some ⟨bg, 0, none⟩) n n]])
  hor : (∃ o, m.G = some ⟨gg, o, none⟩) ∨ w26.heap.size ≤ gg
  keep : Keep (fun q => q = bl ∨ ∃ a, m.G = some a ∧ q = a.block) w26 wx
  fg : FRow wx bg n (fun _ => 0)
  lb : w26.heap.size ≤ bg
  ne : bg ≠ gg
end
end
end Go.Proofs.YtkjomnakolhdcaaDoor
