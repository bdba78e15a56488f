/- Layer 35: what Close leaves of a ledger in memory: a kept account more, the eldest dropped; the state of Close's second loop. Conditions: the ledger reads as told. -/
import Derived.Test.YtkjomnakolhdcaaDoorBilC
namespace Go.Proofs.YtkjomnakolhdcaaDoor
set_option linter.unusedVariables false
set_option linter.unusedSimpArgs false
open Go.RowKit
section
variable {w w' W wd : World} {col : Nat → Nat} {n bl : Nat} {m : LM} {l : Bil.Lg}
/-- where the lists of a new account lie -/
structure KNew (wd : World) (Bs n gk : Nat) (kn : KA) : Prop where
  c : FRow wd kn.bc n (fun t => kn.a.bill.charges.getD t 0)
  r : FRow wd kn.br n (fun t => kn.a.bill.credits.getD t 0)
  t : FRow wd kn.bt n (fun t => kn.a.bill.nets.getD t 0)
  g : FRow wd kn.bg n (fun t => kn.a.granted.getD t 0)
  lc : kn.a.bill.charges.length = n
  lr : kn.a.bill.credits.length = n
  lt : kn.a.bill.nets.length = n
  lg : kn.a.granted.length = n
  bc : Bs ≤ kn.bc
  br : Bs ≤ kn.br
  bt : Bs ≤ kn.bt
  bg : Bs ≤ kn.bg
  ncg : kn.bc ≠ gk
  nrg : kn.br ≠ gk
  ntg : kn.bt ≠ gk
  ngg : kn.bg ≠ gk
  ncb : kn.bg ≠ kn.bc
  nrb : kn.bg ≠ kn.br
  ntb : kn.bg ≠ kn.bt
theorem LAt.pushed (h : LAt W bl col m l) (hk : Keep (fun q => q = bl ∨ ∃ a, m.A = some a ∧ q = a.block) W wd) (Bs : Nat) (hz : ∀ b, Bs ≤ b → col b = 0)
    (ht : 2 < Bs ∧ 0 < Bs ∧ 1 < Bs) (kn : KA) (g off c' d : Nat) (hn : KNew wd Bs l.n g kn)
    (hrow' : KRow wd l.n (some ⟨g, off, none⟩) c' ((m.ks ++ [kn]).drop d)) (hlen : ((m.ks ++ [kn]).drop d).length ≤ 16) (hg : (∃ o, m.A = some ⟨g, o, none⟩) ∨ Bs ≤ g) (hgl : g < wd.heap.size)
    (hr : IsRow wd bl 71 (.int .i64 (l.periods : Int) :: .slice (some ⟨g, off, none⟩) ((m.ks ++ [kn]).drop d).length c' :: .slice (some ⟨m.bp, 0, none⟩) l.n m.cp :: .slice (some ⟨m.bq, 0, none⟩) l.n m.cq :: bvs l.head)) :
    ∃ col', LAt wd bl col' ⟨some ⟨g, off, none⟩, c', (m.ks ++ [kn]).drop d, m.bp, m.cp, m.bq, m.cq⟩ { l with kept := (l.kept ++ [kn.a]).drop d } ∧ ∀ b, col' b ≠ 0 → col b ≠ 0 ∨ (Bs ≤ b ∧ (b = g ∨ b = kn.bc ∨ b = kn.br ∨ b = kn.bt ∨ b = kn.bg)) := by
  have hg4 : col g = 4 ∨ col g = 0 := by
    rcases hg with ⟨o, ho⟩ | hg
    · exact .inl (h.cka _ ho)
    · exact .inr (hz g hg)
  have z1 := hz _ hn.bc
  have z2 := hz _ hn.br
  have z3 := hz _ hn.bt
  have z4 := hz _ hn.bg
  let col' : Nat → Nat := fun b => if b = g then 4 else if b = kn.bc ∨ b = kn.br ∨ b = kn.bt then 5 else if b = kn.bg then 6 + kn.a.bill.period.toNat else col b
  have hc : ∀ b q, col b = q → q ≠ 0 → q ≠ 4 → col' b = q := fun b q hq h0 h4 => by
    have e1 : b ≠ g := fun e => by subst e; omega
    have e2 : ¬ (b = kn.bc ∨ b = kn.br ∨ b = kn.bt) := fun e => by rcases e with e | e | e <;> (subst e; omega)
    have e3 : b ≠ kn.bg := fun e => by subst e; omega
    show (if b = g then 4 else if b = kn.bc ∨ b = kn.br ∨ b = kn.bt then 5 else if b = kn.bg then 6 + kn.a.bill.period.toNat else col b) = q
    rw [if_neg e1, if_neg e2, if_neg e3, hq]
  have h5 : ∀ b, b ≠ g → (b = kn.bc ∨ b = kn.br ∨ b = kn.bt) → col' b = 5 := fun b e1 e2 => by
    show (if b = g then 4 else if b = kn.bc ∨ b = kn.br ∨ b = kn.bt then 5 else if b = kn.bg then 6 + kn.a.bill.period.toNat else col b) = 5
    rw [if_neg e1, if_pos e2]
  have h6 : col' kn.bg = 6 + kn.a.bill.period.toNat := by
    have e2 : ¬ (kn.bg = kn.bc ∨ kn.bg = kn.br ∨ kn.bg = kn.bt) := fun e => by rcases e with e | e | e; · exact hn.ncb e
                                                                               · exact hn.nrb e
                                                                               · exact hn.ntb e
    show (if kn.bg = g then 4 else if kn.bg = kn.bc ∨ kn.bg = kn.br ∨ kn.bg = kn.bt then 5 else if kn.bg = kn.bg then 6 + kn.a.bill.period.toNat else col kn.bg) = _
    rw [if_neg hn.ngg, if_neg e2, if_pos rfl]
  have hg' : col' g = 4 := by show (if g = g then 4 else _) = 4; rw [if_pos rfl]
  have f : ∀ b q, col b = q → q ≠ 1 → q ≠ 4 → ¬ (b = bl ∨ ∃ a, m.A = some a ∧ b = a.block) := fun b q hq h0 h4 hS => by
    rcases hS with e | ⟨a, ha, e⟩
    · subst e; rw [h.cbl] at hq; omega
    · subst e; rw [h.cka a ha] at hq; omega
  have hkl : l.kept ++ [kn.a] = (m.ks ++ [kn]).map KA.a := by rw [h.kept]; simp
  refine ⟨col', ⟨hr, h.h16, h.n1, h.n2, h.per, hlen, h.pend.keeps hk (f _ _ h.cbp (by omega) (by omega)), h.paid.keeps hk (f _ _ h.cbq (by omega) (by omega)), h.lp, h.lq, ?_, hrow', fun k hk' => ?_, hc _ _ h.cbl (by omega) (by omega), hc _ _ h.cbp (by omega) (by omega), hc _ _ h.cbq (by omega) (by omega), fun a ha => ?_, fun k hk' => ?_, ?_, ?_, ?_⟩, fun b hb => ?_⟩
  · show (l.kept ++ [kn.a]).drop d = List.map KA.a ((m.ks ++ [kn]).drop d)
    rw [hkl, List.map_drop]
  · have hk2 := List.mem_of_mem_drop hk'
    rcases List.mem_append.1 hk2 with hm | hm
    · have x := h.kat k hm
      exact ⟨x.c.keeps hk (f _ _ x.qc (by omega) (by omega)), x.r.keeps hk (f _ _ x.qr (by omega) (by omega)), x.t.keeps hk (f _ _ x.qt (by omega) (by omega)), x.g.keeps hk (f _ _ x.qg (by omega) (by omega)), x.lc, x.lr, x.lt, x.lg, hc _ _ x.qc (by omega) (by omega), hc _ _ x.qr (by omega) (by omega), hc _ _ x.qt (by omega) (by omega), hc _ _ x.qg (by omega) (by omega)⟩
    · obtain rfl := List.mem_singleton.1 hm
      exact ⟨hn.c, hn.r, hn.t, hn.g, hn.lc, hn.lr, hn.lt, hn.lg, h5 _ hn.ncg (.inl rfl), h5 _ hn.nrg (.inr (.inl rfl)), h5 _ hn.ntg (.inr (.inr rfl)), h6⟩
  · obtain rfl := Option.some.inj ha; exact hg'
  · by_cases e1 : k = g
    · subst e1; exact hgl
    · by_cases e2 : k = kn.bc ∨ k = kn.br ∨ k = kn.bt
      · rcases e2 with e | e | e <;> subst e
        · exact hn.c.lt
        · exact hn.r.lt
        · exact hn.t.lt
      · by_cases e3 : k = kn.bg
        · subst e3; exact hn.g.lt
        · have : col' k = col k := by
            show (if k = g then 4 else if k = kn.bc ∨ k = kn.br ∨ k = kn.bt then 5 else if k = kn.bg then 6 + kn.a.bill.period.toNat else col k) = _
            rw [if_neg e1, if_neg e2, if_neg e3]
          rw [this] at hk'
          exact Nat.lt_of_lt_of_le (h.lt k hk') hk.size
  all_goals first
    | (have hgb := hg4
       have t1 := h.tab
       have b1 := hn.bc; have b2 := hn.br; have b3 := hn.bt; have b4 := hn.bg
       have hgn : ∀ x, x < Bs → col x = 0 → x ≠ g := fun x hx hx0 e => by
         subst e
         rcases hg with ⟨o, ho⟩ | hg
         · have := h.cka _ ho
           simp only at this
           omega
         · omega
       have key : ∀ x, x < Bs → col x = 0 → col' x = 0 := fun x hx hx0 => by
         show (if x = g then 4 else if x = kn.bc ∨ x = kn.br ∨ x = kn.bt then 5 else if x = kn.bg then 6 + kn.a.bill.period.toNat else col x) = 0
         rw [if_neg (hgn x hx hx0), if_neg (by omega), if_neg (by omega), hx0]
       first
         | exact key _ ht.1 t1.1
         | exact key _ ht.2.1 t1.2.1
         | exact key _ ht.2.2 t1.2.2)
    | (by_cases e1 : b = g
       · subst e1
         rcases hg with ⟨o, ho⟩ | hg
         · exact .inl (by have := h.cka _ ho; simp only at this; omega)
         · exact .inr ⟨hg, .inl rfl⟩
       · by_cases e2 : b = kn.bc ∨ b = kn.br ∨ b = kn.bt
         · rcases e2 with e | e | e <;> subst e
           · exact .inr ⟨hn.bc, .inr (.inl rfl)⟩
           · exact .inr ⟨hn.br, .inr (.inr (.inl rfl))⟩
           · exact .inr ⟨hn.bt, .inr (.inr (.inr (.inl rfl)))⟩
         · by_cases e3 : b = kn.bg
           · subst e3; exact .inr ⟨hn.bg, .inr (.inr (.inr (.inr rfl)))⟩
           · have : col' b = col b := by
               show (if b = g then 4 else if b = kn.bc ∨ b = kn.br ∨ b = kn.bt then 5 else if b = kn.bg then 6 + kn.a.bill.period.toNat else col b) = _
               rw [if_neg e1, if_neg e2, if_neg e3]
             rw [this] at hb
             exact .inl hb)
/-! The second loop of Close -/
/-- the first k elements turned -/
def mixL (f : Int → Int → Int) (a b : List Int) (k : Nat) : List Int := (List.zipWith f a b).take k ++ a.drop k
theorem mixL_get (f : Int → Int → Int) (a b : List Int) (k : Nat) (h : a.length = b.length) (hk : k < a.length) : (mixL f a b k).getD k 0 = a.getD k 0 := by
  unfold mixL List.getD
  rw [List.getElem?_append_right (by simp only [List.length_take, List.length_zipWith]; omega), List.length_take, List.length_zipWith, List.getElem?_drop, show k + (k - min k (min a.length b.length)) = k by omega]
theorem mixL_step (f : Int → Int → Int) (a b : List Int) (k : Nat) (h : a.length = b.length) (hk : k < a.length) : (mixL f a b k).set k (f (a.getD k 0) (b.getD k 0)) = mixL f a b (k + 1) := by
  have h1 : ((List.zipWith f a b).take k).length = k := by simp only [List.length_take, List.length_zipWith]; omega
  have hz : k < (List.zipWith f a b).length := by rw [List.length_zipWith]; omega
  unfold mixL
  rw [List.set_append_right _ _ (by omega), h1, Nat.sub_self, List.drop_eq_getElem_cons hk, List.set_cons_zero, List.take_succ_eq_append_getElem hz, List.append_assoc, List.getElem_zipWith]
  simp [List.getD, hk, show k < b.length by omega]
theorem mixL_zero (f : Int → Int → Int) (a b : List Int) : mixL f a b 0 = a := by simp [mixL]
theorem mixL_full (f : Int → Int → Int) (a b : List Int) (h : a.length = b.length) (k : Nat) (hk : k = a.length) : mixL f a b k = List.zipWith f a b := by
  subst hk; simp [mixL, List.take_of_length_le, h]
/-- the state between two rounds: base Bs: the memory that was there at the call; b15: the new bill -/
structure CSt (w W : World) (bl b15 B4 B0 B : Nat) (col : Nat → Nat) (m : LM) (l : Bil.Lg) (L15 : List Value) (A4 : Option Addr) (k4 c4 : Nat) (X4 : List Int) (A5 : Option Addr) (k5 c5 : Nat) (X5 : List Int) (A : Option Addr) (n : Nat) (C : List Int) : Prop where
  lat : LAt W bl col m l
  row : IsRow W b15 31 L15
  own4 : W.ownsRow B4 3 1 (.slice A4 k4 c4) k4 (ivs X4)
  own5 : W.ownsRow B4 3 1 (.slice A5 k5 c5) k5 (ivs X5)
  d45 : ∀ a b, A4 = some a → A5 = some b → a.block ≠ b.block
  rd : Rd W B 1 A n (ivs C)
  rdc : ∀ a, A = some a → col a.block = 0
  keep : Keep (fun q => col q ≠ 0 ∨ q = b15) w W
  hB : B ≤ B0
  h15 : B0 ≤ b15
  hw : w.heap.size ≤ B4
  h4 : b15 < B4
  hb4 : B4 ≤ W.heap.size
  hlt : ∀ q, col q ≠ 0 → q < B0
section
variable {b15 B4 B0 B : Nat} {L15 : List Value} {A4 A5 : Option Addr} {k4 c4 k5 c5 : Nat} {X4 X5 : List Int} {A : Option Addr} {C : List Int}
theorem own_above {base size n c : Nat} {e : TypeId} {A : Option Addr} {xs : List Value} (h : w.ownsRow base e size (.slice A n c) n xs) {k : Nat} (hk : (Value.slice A n c).ownBlock = some k) : base ≤ k ∧ k < w.heap.size := by
  have := h.lt k hk
  exact ⟨this.1, this.2⟩
/-- a step that leaves all old blocks but q0, which lies behind b15 -/
theorem CSt.turn (h : CSt w W bl b15 B4 B0 B col m l L15 A4 k4 c4 X4 A5 k5 c5 X5 A n C) {q0 : Option Nat} (hg : W.grownBy wd q0) (hq : ∀ q, q0 = some q → B4 ≤ q) :
    LAt wd bl col m l ∧ IsRow wd b15 31 L15 ∧ Rd wd B 1 A n (ivs C) ∧ Keep (fun q => col q ≠ 0 ∨ q = b15) w wd := by
  have hk : Keep (fun k => q0 = some k) W wd := Keep.of_grown hg (fun k e => e)
  have hlt := h.hlt; have h15 := h.h15; have h4 := h.h4; have hB := h.hB; have hw := h.hw; have hb4 := h.hb4
  have hks := h.keep.size
  refine ⟨h.lat.keeps hk fun b hb => ?_, h.row.keep (hk.block b15 h.row.lt fun e => by have := hq _ e; omega), h.rd.keep fun p hp => World.cell?_of_block (hk.block p.block (by omega) fun e => by have := hq _ e; omega), h.keep.grown hg fun k e => .inr (by have := hq k e; omega)⟩
  have := hq b hb
  rcases Nat.eq_zero_or_pos (col b) with h0 | h0
  · exact h0
  · have := hlt b (by omega); omega
theorem CSt.below (h : CSt w W bl b15 B4 B0 B col m l L15 A4 k4 c4 X4 A5 k5 c5 X5 A n C) (hb : Below W.heap.size W wd) : CSt w wd bl b15 B4 B0 B col m l L15 A4 k4 c4 X4 A5 k5 c5 X5 A n C := by
  obtain ⟨h1, h2, h3, h4⟩ := h.turn (grownBy_of_below hb) (fun q e => by cases e)
  exact ⟨h1, h2, own_below h.own4 hb, own_below h.own5 hb, h.d45, h3, h.rdc, h4, h.hB, h.h15, h.hw, h.h4, Nat.le_trans h.hb4 hb.size, h.hlt⟩
theorem CSt.app4 (h : CSt w W bl b15 B4 B0 B col m l L15 A4 k4 c4 X4 A5 k5 c5 X5 A n C) {A' : Option Addr} {k' c' : Nat} {X' : List Int} (ho : wd.ownsRow B4 3 1 (.slice A' k' c') k' (ivs X')) (hg : W.grownBy wd (Value.slice A4 k4 c4).ownBlock) (hA : A' = A4 ∨ ∃ a, A' = some a ∧ a.block = W.heap.size) :
    CSt w wd bl b15 B4 B0 B col m l L15 A' k' c' X' A5 k5 c5 X5 A n C := by
  obtain ⟨h1, h2, h3, h4⟩ := h.turn hg (fun q e => (own_above h.own4 e).1)
  have o5 : wd.ownsRow B4 3 1 (.slice A5 k5 c5) k5 (ivs X5) := h.own5.kept hg (by
    cases hv : (Value.slice A5 k5 c5).ownBlock with
    | none => exact .inl rfl
    | some k =>
      refine .inr fun e => ?_
      cases A4 with
      | none => cases e
      | some a4 =>
        cases A5 with
        | none => cases hv
        | some a5 => exact h.d45 a4 a5 rfl rfl (by simp [Value.ownBlock] at e hv; omega))
  refine ⟨h1, h2, ho, o5, fun a b ha hb => ?_, h3, h.rdc, h4, h.hB, h.h15, h.hw, h.h4, Nat.le_trans h.hb4 hg.size, h.hlt⟩
  rcases hA with e | ⟨a', e, hbk⟩
  · exact h.d45 a b (e ▸ ha) hb
  · rw [e] at ha
    obtain rfl := Option.some.inj ha
    rw [hbk]
    subst hb
    have := (own_above h.own5 (k := b.block) (by simp [Value.ownBlock])).2
    omega
theorem CSt.app5 (h : CSt w W bl b15 B4 B0 B col m l L15 A4 k4 c4 X4 A5 k5 c5 X5 A n C) {A' : Option Addr} {k' c' : Nat} {X' : List Int} (ho : wd.ownsRow B4 3 1 (.slice A' k' c') k' (ivs X')) (hg : W.grownBy wd (Value.slice A5 k5 c5).ownBlock) (hA : A' = A5 ∨ ∃ a, A' = some a ∧ a.block = W.heap.size) :
    CSt w wd bl b15 B4 B0 B col m l L15 A4 k4 c4 X4 A' k' c' X' A n C := by
  obtain ⟨h1, h2, h3, h4⟩ := h.turn hg (fun q e => (own_above h.own5 e).1)
  have o4 : wd.ownsRow B4 3 1 (.slice A4 k4 c4) k4 (ivs X4) := h.own4.kept hg (by
    cases hv : (Value.slice A4 k4 c4).ownBlock with
    | none => exact .inl rfl
    | some k =>
      refine .inr fun e => ?_
      cases A4 with
      | none => cases hv
      | some a4 =>
        cases A5 with
        | none => cases e
        | some a5 => exact h.d45 a4 a5 rfl rfl (by simp [Value.ownBlock] at e hv; omega))
  refine ⟨h1, h2, o4, ho, fun a b ha hb => ?_, h3, h.rdc, h4, h.hB, h.h15, h.hw, h.h4, Nat.le_trans h.hb4 hg.size, h.hlt⟩
  rcases hA with e | ⟨a', e, hbk⟩
  · exact h.d45 a b ha (e ▸ hb)
  · rw [e] at hb
    obtain rfl := Option.some.inj hb
    rw [hbk]
    subst ha
    have := (own_above h.own4 (k := a.block) (by simp [Value.ownBlock])).2
    omega
theorem CSt.set15 (h : CSt w W bl b15 B4 B0 B col m l L15 A4 k4 c4 X4 A5 k5 c5 X5 A n C) (o : Nat) (v : Value) : CSt w (W.setCell ⟨b15, o, none⟩ v) bl b15 B4 B0 B col m l (L15.set o v) A4 k4 c4 X4 A5 k5 c5 X5 A n C := by
  have hk : Keep (fun k => k = b15) W (W.setCell ⟨b15, o, none⟩ v) := Keep.of_grown (grown_setCell _ _ _ _) (fun k e => (Option.some.inj e).symm)
  have hlt := h.hlt; have h15 := h.h15; have h4 := h.h4; have hB := h.hB; have hw := h.hw; have hb4 := h.hb4
  have hks := h.keep.size
  have z : (W.setCell ⟨b15, o, none⟩ v).heap.size = W.heap.size := by simp
  refine ⟨h.lat.keeps hk fun b hb => ?_, h.row.set o v, own_far h.own4 (grown_setCell _ _ _ _) h4, own_far h.own5 (grown_setCell _ _ _ _) h4, h.d45, h.rd.keep fun p hp => World.cell?_of_block (hk.block p.block (by omega) fun e => by omega), h.rdc, h.keep.setCell (.inl (.inr rfl)) _, hB, h15, hw, h4, by rw [z]; exact h.hb4, hlt⟩
  rcases Nat.eq_zero_or_pos (col b) with h0 | h0
  · exact h0
  · have := hlt b (by omega); omega
/-- a store into a block of the ledger's -/
theorem CSt.setL (h : CSt w W bl b15 B4 B0 B col m l L15 A4 k4 c4 X4 A5 k5 c5 X5 A n C) {q : Nat} (hq : col q ≠ 0) (t : Nat) (v : Value) {l' : Bil.Lg} {m' : LM} (hl : LAt (W.setCell ⟨q, t, none⟩ v) bl col m' l') : CSt w (W.setCell ⟨q, t, none⟩ v) bl b15 B4 B0 B col m' l' L15 A4 k4 c4 X4 A5 k5 c5 X5 A n C := by
  have hk : Keep (fun k => k = q) W (W.setCell ⟨q, t, none⟩ v) := Keep.of_grown (grown_setCell _ _ _ _) (fun k e => (Option.some.inj e).symm)
  have hlt := h.hlt; have h15 := h.h15; have h4 := h.h4; have hB := h.hB; have hw := h.hw; have hb4 := h.hb4
  have hql := hlt q hq
  have z : (W.setCell ⟨q, t, none⟩ v).heap.size = W.heap.size := by simp
  have hks := h.keep.size
  refine ⟨hl, h.row.keep (hk.block b15 h.row.lt fun e => by omega), own_far h.own4 (grown_setCell _ _ _ _) (by omega), own_far h.own5 (grown_setCell _ _ _ _) (by omega), h.d45, ?_, h.rdc, h.keep.setCell (.inl (.inl hq)) _, hB, h15, hw, h4, by rw [z]; exact h.hb4, hlt⟩
  exact h.rd.keepS hk (by omega) fun a ha e => hq (e ▸ h.rdc a ha)
end
end
end Go.Proofs.YtkjomnakolhdcaaDoor
