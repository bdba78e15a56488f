/- A ledger of bills and credits as plain data: closing a period, granting a credit; what these keep. No program in sight. -/
namespace Go.Proofs.YtkjomnakolhdcaaDoor
set_option linter.unusedVariables false
set_option linter.unusedSimpArgs false
namespace Bil
structure Bill where
  period : Int
  media : Int
  house : Int
  charges : List Int
  credits : List Int
  nets : List Int
/-- a kept bill with the credits that were granted for its period -/
structure Acc where
  bill : Bill
  granted : List Int
structure Lg where
  n : Nat
  periods : Nat
  kept : List Acc
  pending : List Int
  paid : List Int
  head : List UInt8
def fits (x : Int) : Bool := decide (0 ≤ x ∧ x ≤ 1099511627776)
def usedL (charges pending : List Int) : List Int := List.zipWith min charges pending
def netL (charges used : List Int) : List Int := List.zipWith (· - ·) charges used
def CloseOk (l : Lg) (media house : Int) (charges : List Int) : Prop := charges.length = l.n ∧ fits media = true ∧ fits house = true ∧ (∀ c ∈ charges, fits c = true) ∧ house + charges.sum = media
/-- the error of a closing with valid arguments: 0, or 2 (the limit of periods) -/
def closeErr (l : Lg) : Int := if 65536 ≤ l.periods then 2 else 0
def billOf (l : Lg) (media house : Int) (charges : List Int) : Bill := ⟨l.periods, media, house + (usedL charges l.pending).sum, charges, usedL charges l.pending, netL charges (usedL charges l.pending)⟩
def keep16 (k : List Acc) : List Acc := k.drop (k.length - 16)
def closeOf (hd : List UInt8) (l : Lg) (media house : Int) (charges : List Int) : Lg :=
  { n := l.n, periods := l.periods + 1, kept := keep16 (l.kept ++ [⟨billOf l media house charges, List.replicate l.n 0⟩]), pending := List.zipWith (· - ·) l.pending (usedL charges l.pending), paid := List.zipWith (· + ·) l.paid (netL charges (usedL charges l.pending)), head := hd }
/-- the place of a period among the kept ones -/
def idx (l : Lg) (period : Int) : Option Nat := if 0 ≤ period ∧ period < l.periods ∧ 0 ≤ period - l.periods + l.kept.length then some (period - l.periods + l.kept.length).toNat else none
def accAt (l : Lg) (i : Nat) : Acc := l.kept.getD i ⟨⟨0, 0, 0, [], [], []⟩, []⟩
/-- the error of a credit: 0, 12 (no such period), 1 (an argument), 2 (more than was charged) -/
def creditErr (l : Lg) (period tenant units : Int) : Int :=
  match idx l period with
  | none => 12
  | some i => if tenant < 0 ∨ (l.n : Int) ≤ tenant ∨ units < 1 then 1 else if (accAt l i).bill.charges.getD tenant.toNat 0 - (accAt l i).granted.getD tenant.toNat 0 < units then 2 else 0
def addAt (l : List Int) (t : Nat) (x : Int) : List Int := l.set t (l.getD t 0 + x)
def creditOf (hd : List UInt8) (l : Lg) (i t : Nat) (units : Int) : Lg :=
  { l with kept := l.kept.set i ⟨(accAt l i).bill, addAt (accAt l i).granted t units⟩, pending := addAt l.pending t units, head := hd }

/-! Lists told by their elements -/
theorem zip_get (f : Int → Int → Int) {a b : List Int} (h : a.length = b.length) {t : Nat} (ht : t < a.length) : (List.zipWith f a b).getD t 0 = f (a.getD t 0) (b.getD t 0) := by
  simp [List.getD, List.getElem?_zipWith, ht, show t < b.length by omega]
theorem used_get {c p : List Int} (h : c.length = p.length) {t : Nat} (ht : t < c.length) : (usedL c p).getD t 0 = min (c.getD t 0) (p.getD t 0) := zip_get _ h ht
theorem used_len {c p : List Int} (h : c.length = p.length) : (usedL c p).length = c.length := by simp [usedL, h]
theorem net_get {c p : List Int} (h : c.length = p.length) {t : Nat} (ht : t < c.length) : (netL c (usedL c p)).getD t 0 = c.getD t 0 - min (c.getD t 0) (p.getD t 0) := by
  unfold netL; rw [zip_get _ (used_len h).symm ht, used_get h ht]
theorem net_len {c p : List Int} (h : c.length = p.length) : (netL c (usedL c p)).length = c.length := by simp [netL, usedL, h]
theorem net_sum : ∀ (c p : List Int), c.length = p.length → (netL c (usedL c p)).sum + (usedL c p).sum = c.sum
  | [], p, h => by cases p; rfl; simp at h
  | a :: c, [], h => by simp at h
  | a :: c, b :: p, h => by
    have := net_sum c p (by simpa using h)
    simp only [netL, usedL, List.zipWith_cons_cons, List.sum_cons] at *
    omega
theorem addAt_len (l : List Int) (t : Nat) (x : Int) : (addAt l t x).length = l.length := by simp [addAt]
theorem addAt_get {l : List Int} {t : Nat} (ht : t < l.length) (x : Int) (s : Nat) : (addAt l t x).getD s 0 = l.getD s 0 + if s = t then x else 0 := by
  unfold addAt
  by_cases e : t = s
  · subst e; rw [if_pos rfl]; simp only [List.getD, List.getElem?_set_self ht, Option.getD_some]
  · rw [if_neg (fun h => e h.symm)]; simp only [List.getD, List.getElem?_set_ne e]; omega
theorem getD_mem {l : List Int} {t : Nat} (h : t < l.length) : l.getD t 0 ∈ l := by simp [List.getD, h]

/-! What a ledger keeps -/
/-- an account of n tenants -/
structure AccOk (n : Nat) (a : Acc) : Prop where
  c : a.bill.charges.length = n
  r : a.bill.credits.length = n
  t : a.bill.nets.length = n
  g : a.granted.length = n
  f : ∀ c ∈ a.bill.charges, fits c = true
  d : ∀ t : Nat, 0 ≤ a.granted.getD t 0 ∧ a.granted.getD t 0 ≤ a.bill.charges.getD t 0
structure Ok (l : Lg) : Prop where
  p : l.pending.length = l.n
  q : l.paid.length = l.n
  k : l.kept.length = min l.periods 16
  a : ∀ i, i < l.kept.length → AccOk l.n (accAt l i) ∧ (accAt l i).bill.period = (l.periods : Int) - l.kept.length + i
  nn : ∀ t : Nat, 0 ≤ l.pending.getD t 0
theorem charges_nonneg {c : List Int} (h : ∀ x ∈ c, fits x = true) (t : Nat) : 0 ≤ c.getD t 0 ∧ c.getD t 0 ≤ 1099511627776 := by
  rcases Nat.lt_or_ge t c.length with ht | ht
  · have := h _ (getD_mem ht)
    simpa [fits] using this
  · have : c.getD t 0 = 0 := by simp [List.getD, List.getElem?_eq_none ht]
    omega
/-- P35.9: the bill of a closing adds up -/
theorem bill_adds {l : Lg} (hl : Ok l) {media house : Int} {charges : List Int} (h : CloseOk l media house charges) :
    (billOf l media house charges).house + (billOf l media house charges).nets.sum = media ∧ 0 ≤ (billOf l media house charges).house ∧
    ∀ t, t < l.n → (billOf l media house charges).nets.getD t 0 = charges.getD t 0 - (billOf l media house charges).credits.getD t 0 ∧ 0 ≤ (billOf l media house charges).nets.getD t 0 ∧ 0 ≤ (billOf l media house charges).credits.getD t 0 := by
  obtain ⟨h1, h2, h3, h4, h5⟩ := h
  have hlen : charges.length = l.pending.length := by rw [h1, hl.p]
  have hs := net_sum charges l.pending hlen
  have hu : ∀ (c p : List Int), c.length = p.length → (∀ t : Nat, 0 ≤ c.getD t 0) → (∀ t : Nat, 0 ≤ p.getD t 0) → 0 ≤ (usedL c p).sum := by
    intro c
    induction c with
    | nil => intro p _ _ _; simp [usedL]
    | cons a c ih =>
      intro p hp ha hb
      cases p with
      | nil => simp at hp
      | cons b p =>
        have := ih p (by simpa using hp) (fun t => by have := ha (t + 1); simpa using this) (fun t => by have := hb (t + 1); simpa using this)
        have := ha 0
        have := hb 0
        simp only [usedL, List.zipWith_cons_cons, List.sum_cons, List.getD_cons_zero] at *
        omega
  have hus := hu charges l.pending hlen (fun t => (charges_nonneg h4 t).1) hl.nn
  have hh : 0 ≤ house := by simp [fits] at h3; omega
  refine ⟨?_, ?_, fun t ht => ?_⟩
  · show house + (usedL charges l.pending).sum + (netL charges (usedL charges l.pending)).sum = media
    omega
  · show 0 ≤ house + (usedL charges l.pending).sum
    omega
  · have ht' : t < charges.length := by omega
    have e1 := net_get hlen ht'
    have e2 := used_get hlen ht'
    have e3 := (charges_nonneg h4 t).1
    have e4 := hl.nn t
    show (netL charges (usedL charges l.pending)).getD t 0 = charges.getD t 0 - (usedL charges l.pending).getD t 0 ∧ _ ∧ 0 ≤ (usedL charges l.pending).getD t 0
    refine ⟨by rw [e1, e2], ?_, by rw [e2]; omega⟩
    show 0 ≤ (netL charges (usedL charges l.pending)).getD t 0
    rw [e1]; omega
theorem keep16_len (k : List Acc) : (keep16 k).length = min k.length 16 := by simp [keep16]; omega
theorem keep16_get (k : List Acc) (i : Nat) (z : Acc) : (keep16 k).getD i z = k.getD (k.length - 16 + i) z := by simp [keep16, List.getD, List.getElem?_drop]
theorem ok_close {l : Lg} (hl : Ok l) {media house : Int} {charges : List Int} (h : CloseOk l media house charges) (hd : List UInt8) : Ok (closeOf hd l media house charges) := by
  obtain ⟨h1, h2, h3, h4, h5⟩ := h
  have hlen : charges.length = l.pending.length := by rw [h1, hl.p]
  have hkl : (closeOf hd l media house charges).kept.length = min (l.periods + 1) 16 := by
    show (keep16 _).length = _
    rw [keep16_len, List.length_append, hl.k]; simp; omega
  refine ⟨?_, ?_, hkl, fun i hi => ?_, fun t => ?_⟩
  · show (List.zipWith _ l.pending (usedL charges l.pending)).length = l.n
    rw [List.length_zipWith, used_len hlen, h1, hl.p]; omega
  · show (List.zipWith _ l.paid (netL charges (usedL charges l.pending))).length = l.n
    rw [List.length_zipWith, net_len hlen, h1, hl.q]; omega
  · rw [hkl] at hi
    have hk := hl.k
    have he : accAt (closeOf hd l media house charges) i = (l.kept ++ [(⟨billOf l media house charges, List.replicate l.n 0⟩ : Acc)]).getD (l.kept.length + 1 - 16 + i) ⟨⟨0, 0, 0, [], [], []⟩, []⟩ := by
      show (keep16 _).getD i _ = _
      rw [keep16_get]; simp
    rw [he, hkl]
    show AccOk l.n _ ∧ _ = ((l.periods + 1 : Nat) : Int) - _ + i
    rcases Nat.lt_or_ge (l.kept.length + 1 - 16 + i) l.kept.length with hlt | hge
    · have e1 : (l.kept ++ [(⟨billOf l media house charges, List.replicate l.n 0⟩ : Acc)]).getD (l.kept.length + 1 - 16 + i) ⟨⟨0, 0, 0, [], [], []⟩, []⟩ = accAt l (l.kept.length + 1 - 16 + i) := by
        simp only [accAt, List.getD, List.getElem?_append_left hlt]
      rw [e1]
      obtain ⟨a1, a2⟩ := hl.a _ hlt
      refine ⟨a1, ?_⟩
      rw [a2]; omega
    · have e0 : l.kept.length + 1 - 16 + i = l.kept.length := by omega
      have e1 : (l.kept ++ [(⟨billOf l media house charges, List.replicate l.n 0⟩ : Acc)]).getD (l.kept.length + 1 - 16 + i) ⟨⟨0, 0, 0, [], [], []⟩, []⟩ = ⟨billOf l media house charges, List.replicate l.n 0⟩ := by
        rw [e0]; simp [List.getD]
      rw [e1]
      refine ⟨⟨h1, by show (usedL charges l.pending).length = l.n; rw [used_len hlen, h1], by show (netL charges (usedL charges l.pending)).length = l.n; rw [net_len hlen, h1], by simp, h4, fun t => ?_⟩, ?_⟩
      · have e2 : (List.replicate l.n (0 : Int)).getD t 0 = 0 := by
          simp only [List.getD, List.getElem?_replicate]; split <;> rfl
        show 0 ≤ (List.replicate l.n (0 : Int)).getD t 0 ∧ (List.replicate l.n (0 : Int)).getD t 0 ≤ charges.getD t 0
        rw [e2]; exact ⟨Int.le_refl _, (charges_nonneg h4 t).1⟩
      · show (l.periods : Int) = _
        omega
  · show 0 ≤ (List.zipWith _ l.pending (usedL charges l.pending)).getD t 0
    rcases Nat.lt_or_ge t l.pending.length with ht | ht
    · rw [zip_get _ (by rw [used_len hlen, hlen]) ht, used_get hlen (by omega)]
      have := hl.nn t
      omega
    · have : (List.zipWith (· - ·) l.pending (usedL charges l.pending)).getD t 0 = 0 := by
        simp only [List.getD]; rw [List.getElem?_eq_none (by rw [List.length_zipWith]; omega)]; rfl
      omega
theorem idx_some {l : Lg} {period : Int} {i : Nat} (h : idx l period = some i) : 0 ≤ period ∧ period < l.periods ∧ i < l.kept.length ∧ period = (l.periods : Int) - l.kept.length + i := by
  unfold idx at h
  split at h
  · rename_i hc
    have := Option.some.inj h
    omega
  · cases h
theorem creditErr_zero {l : Lg} {period tenant units : Int} (h : creditErr l period tenant units = 0) : ∃ (i t : Nat), idx l period = some i ∧ tenant = (t : Int) ∧ t < l.n ∧ 1 ≤ units ∧ units ≤ (accAt l i).bill.charges.getD t 0 - (accAt l i).granted.getD t 0 := by
  unfold creditErr at h
  split at h
  · cases h
  · rename_i i hi
    split at h
    · cases h
    · rename_i hc
      split at h
      · cases h
      · rename_i hd
        exact ⟨i, tenant.toNat, hi, by omega, by omega, by omega, by omega⟩
theorem ok_credit {l : Lg} (hl : Ok l) {i t : Nat} {units : Int} (hi : i < l.kept.length) (ht : t < l.n) (hu : 1 ≤ units) (hm : units ≤ (accAt l i).bill.charges.getD t 0 - (accAt l i).granted.getD t 0) (hd : List UInt8) : Ok (creditOf hd l i t units) := by
  have hkl : (creditOf hd l i t units).kept.length = l.kept.length := by show (l.kept.set _ _).length = _; rw [List.length_set]
  have hpt : t < l.pending.length := by rw [hl.p]; exact ht
  refine ⟨?_, hl.q, by rw [hkl]; exact hl.k, fun j hj => ?_, fun s => ?_⟩
  · show (addAt l.pending t units).length = l.n
    rw [addAt_len]; exact hl.p
  · rw [hkl] at hj
    rw [hkl]
    show AccOk l.n _ ∧ _ = (l.periods : Int) - l.kept.length + j
    by_cases e : i = j
    · subst e
      have e1 : accAt (creditOf hd l i t units) i = ⟨(accAt l i).bill, addAt (accAt l i).granted t units⟩ := by
        show (l.kept.set i _).getD i _ = _
        simp only [List.getD, List.getElem?_set_self hi, Option.getD_some]
      rw [e1]
      obtain ⟨a1, a2⟩ := hl.a i hi
      refine ⟨⟨a1.c, a1.r, a1.t, by show (addAt _ _ _).length = _; rw [addAt_len]; exact a1.g, a1.f, fun s => ?_⟩, a2⟩
      show 0 ≤ (addAt (accAt l i).granted t units).getD s 0 ∧ (addAt (accAt l i).granted t units).getD s 0 ≤ (accAt l i).bill.charges.getD s 0
      rw [addAt_get (by rw [a1.g]; exact ht)]
      have := a1.d s
      by_cases es : s = t
      · subst es; rw [if_pos rfl]; omega
      · rw [if_neg es]; omega
    · have e1 : accAt (creditOf hd l i t units) j = accAt l j := by
        show (l.kept.set i _).getD j _ = l.kept.getD j _
        simp only [List.getD, List.getElem?_set_ne e]
      rw [e1]; exact hl.a j hj
  · show 0 ≤ (addAt l.pending t units).getD s 0
    rw [addAt_get hpt]
    have := hl.nn s
    split <;> omega
/-- an empty ledger -/
def newOf (n : Nat) (hd : List UInt8) : Lg := ⟨n, 0, [], List.replicate n 0, List.replicate n 0, hd⟩
theorem rep_zero (n t : Nat) : (List.replicate n (0 : Int)).getD t 0 = 0 := by
  simp only [List.getD, List.getElem?_replicate]; split <;> rfl
theorem ok_new (n : Nat) (hd : List UInt8) : Ok (newOf n hd) := ⟨by simp [newOf], by simp [newOf], by simp [newOf], fun i hi => by simp [newOf] at hi, fun t => by show 0 ≤ (List.replicate n (0 : Int)).getD t 0; rw [rep_zero]; exact Int.le_refl _⟩

/-! The laws -/
theorem pending_credit {l : Lg} (hl : Ok l) (hd : List UInt8) (i : Nat) {t : Nat} (ht : t < l.n) (units : Int) (s : Nat) : (creditOf hd l i t units).pending.getD s 0 = l.pending.getD s 0 + if s = t then units else 0 := addAt_get (by rw [hl.p]; exact ht) _ _
/-- what is left of the charges of each period: of a kept one, what was charged less what was granted -/
def LeftOk (l : Lg) (left : List (List Int)) : Prop := left.length = l.periods ∧ ∀ i, i < l.kept.length → (left.getD (l.periods - l.kept.length + i) []).length = l.n ∧ ∀ t, t < l.n → (left.getD (l.periods - l.kept.length + i) []).getD t 0 = (accAt l i).bill.charges.getD t 0 - (accAt l i).granted.getD t 0
end Bil
end Go.Proofs.YtkjomnakolhdcaaDoor
