/- Layer 35's decoding, in plain: what Decode reads; a ledger that it gives is well formed and has this encoding. No program in sight. -/
import Derived.Test.YtkjomnakolhdcaaDoorBilRd
namespace Go.Proofs.YtkjomnakolhdcaaDoor
set_option linter.unusedVariables false
set_option linter.unusedSimpArgs false
namespace Bil
/-- a list from the front: n numbers, each from 0 to mx i -/
def lst (b : List UInt8) (e : Int) (n : Nat) (mx : Nat → Int) : List Int × List UInt8 × Int :=
  if e = 0 then
    if (Wire.decI b).2.2 = 0 then
      if (Wire.decI b).1.length = n ∧ ∀ i, i < n → 0 ≤ (Wire.decI b).1.getD i 0 ∧ (Wire.decI b).1.getD i 0 ≤ mx i then ((Wire.decI b).1, b.drop (Wire.decI b).2.1, 0) else ([], b, 6)
    else ([], b, (Wire.decI b).2.2)
  else ([], b, e)
def MX : Int := 1099511627776
def zacc : Acc := ⟨⟨0, 0, 0, [], [], []⟩, []⟩
/-- the account of a period -/
def acct (b : List UInt8) (period : Int) (n : Nat) : Acc × List UInt8 × Int :=
  let m := num b 0 0 MX
  let h := num m.2.1 m.2.2 0 m.1
  let c := lst h.2.1 h.2.2 n fun _ => MX
  let r := lst c.2.1 c.2.2 n fun i => c.1.getD i 0
  let g := lst r.2.1 r.2.2 n fun i => c.1.getD i 0
  if g.2.2 = 0 then
    if r.1.sum ≤ h.1 ∧ h.1 + (netL c.1 r.1).sum = m.1 then (⟨⟨period, m.1, h.1, c.1, r.1, netL c.1 r.1⟩, g.1⟩, g.2.1, 0) else (zacc, g.2.1, 6)
  else (zacc, g.2.1, g.2.2)
/-- the accounts of k periods, up to the first error -/
def accts : Nat → Int → List UInt8 → Nat → List Acc × List UInt8 × Int
  | 0, _, b, _ => ([], b, 0)
  | k + 1, p, b, n => if (acct b p n).2.2 = 0 then ((acct b p n).1 :: (accts k (p + 1) (acct b p n).2.1 n).1, (accts k (p + 1) (acct b p n).2.1 n).2) else ([], (acct b p n).2)
/-- the ledger with an encoding, or the error -/
def dec (b : List UInt8) : Lg ⊕ Int :=
  let n := num b 0 1 16
  let p := num n.2.1 n.2.2 0 65536
  if p.2.2 = 0 then
    if p.2.1.length < 16 then .inr 5
    else
      let x := lst (p.2.1.drop 16) 0 n.1.toNat fun _ => 9223372036854775807
      let y := lst x.2.1 x.2.2 n.1.toNat fun _ => 9223372036854775807
      if y.2.2 = 0 then
        let k := accts (min p.1.toNat 16) (p.1 - (min p.1.toNat 16 : Nat)) y.2.1 n.1.toNat
        if k.2.2 = 0 then
          if k.2.1 = [] then (.inl ⟨n.1.toNat, p.1.toNat, k.1, x.1, y.1, p.2.1.take 16⟩) else .inr 6
        else .inr k.2.2
      else .inr y.2.2
  else .inr p.2.2
/-! what an answer without an error says -/
theorem num_ok {b : List UInt8} {e lo hi : Int} (h : (num b e lo hi).2.2 = 0) : e = 0 ∧ lo ≤ (num b e lo hi).1 ∧ (num b e lo hi).1 ≤ hi ∧ i64 (num b e lo hi).1 ∧ b = Wire.enc (num b e lo hi).1 ++ (num b e lo hi).2.1 := by
  unfold num at h ⊢
  by_cases he : e = 0
  · rw [if_pos he] at h ⊢
    obtain ⟨x, u, er, hd⟩ : ∃ x u e, Wire.dec b = (x, u, e) := ⟨_, _, _, rfl⟩
    rw [hd] at h ⊢
    simp only at h ⊢
    by_cases hz : er = 0
    · subst hz
      rw [if_pos rfl] at h ⊢
      have h0 := Wire.dec_ok hd
      by_cases hr : x < lo ∨ hi < x
      · rw [if_pos hr] at h; cases h
      · rw [if_neg hr]
        refine ⟨he, by simp only; omega, by simp only; omega, ⟨h0.1, h0.2.1⟩, ?_⟩
        simp only
        rw [← h0.2.2.2.2.2, List.take_append_drop]
    · rw [if_neg hz] at h; exact absurd h hz
  · rw [if_neg he] at h; exact absurd h he
theorem lst_ok {b : List UInt8} {e : Int} {n : Nat} {mx : Nat → Int} (h : (lst b e n mx).2.2 = 0) : e = 0 ∧ (lst b e n mx).1.length = n ∧ (∀ i, i < n → 0 ≤ (lst b e n mx).1.getD i 0 ∧ (lst b e n mx).1.getD i 0 ≤ mx i) ∧ I64s (lst b e n mx).1 ∧ b = Wire.encI (lst b e n mx).1 ++ (lst b e n mx).2.1 := by
  unfold lst at h ⊢
  by_cases he : e = 0
  · rw [if_pos he] at h ⊢
    obtain ⟨l, u, er, hd⟩ : ∃ x u e, Wire.decI b = (x, u, e) := ⟨_, _, _, rfl⟩
    rw [hd] at h ⊢
    simp only at h ⊢
    by_cases hz : er = 0
    · subst hz
      rw [if_pos rfl] at h ⊢
      have h0 := Wire.decI_ok hd
      by_cases hr : l.length = n ∧ ∀ i, i < n → 0 ≤ l.getD i 0 ∧ l.getD i 0 ≤ mx i
      · rw [if_pos hr]
        refine ⟨he, hr.1, hr.2, h0.2.2.1, ?_⟩
        simp only
        rw [← h0.2.2.2, List.take_append_drop]
      · rw [if_neg hr] at h; cases h
    · rw [if_neg hz] at h; exact absurd h hz
  · rw [if_neg he] at h; exact absurd h he
theorem acct_ok {b : List UInt8} {p : Int} {n : Nat} (h : (acct b p n).2.2 = 0) : AccOk n (acct b p n).1 ∧ (acct b p n).1.bill.period = p ∧ AEnc (acct b p n).1 ∧ b = encA (acct b p n).1 ++ (acct b p n).2.1 := by
  obtain ⟨m, hm⟩ : ∃ x, num b 0 0 MX = x := ⟨_, rfl⟩
  obtain ⟨hh, hhh⟩ : ∃ x, num m.2.1 m.2.2 0 m.1 = x := ⟨_, rfl⟩
  obtain ⟨c, hc⟩ : ∃ x, (lst hh.2.1 hh.2.2 n fun _ => MX) = x := ⟨_, rfl⟩
  obtain ⟨r, hr⟩ : ∃ x, (lst c.2.1 c.2.2 n fun i => c.1.getD i 0) = x := ⟨_, rfl⟩
  obtain ⟨g, hg⟩ : ∃ x, (lst r.2.1 r.2.2 n fun i => c.1.getD i 0) = x := ⟨_, rfl⟩
  have hdef : acct b p n = if g.2.2 = 0 then (if r.1.sum ≤ hh.1 ∧ hh.1 + (netL c.1 r.1).sum = m.1 then (⟨⟨p, m.1, hh.1, c.1, r.1, netL c.1 r.1⟩, g.1⟩, g.2.1, 0) else (zacc, g.2.1, 6)) else (zacc, g.2.1, g.2.2) := by
    unfold acct
    simp only [hm, hhh, hc, hr, hg]
  rw [hdef] at h ⊢
  by_cases he : g.2.2 = 0
  · rw [if_pos he] at h ⊢
    by_cases hs : r.1.sum ≤ hh.1 ∧ hh.1 + (netL c.1 r.1).sum = m.1
    · rw [if_pos hs]
      have g1 := lst_ok (b := r.2.1) (e := r.2.2) (n := n) (mx := fun i => c.1.getD i 0) (by rw [hg]; exact he)
      rw [hg] at g1
      have r1 := lst_ok (b := c.2.1) (e := c.2.2) (n := n) (mx := fun i => c.1.getD i 0) (by rw [hr]; exact g1.1)
      rw [hr] at r1
      have c1 := lst_ok (b := hh.2.1) (e := hh.2.2) (n := n) (mx := fun _ => MX) (by rw [hc]; exact r1.1)
      rw [hc] at c1
      have h1 := num_ok (b := m.2.1) (e := m.2.2) (lo := 0) (hi := m.1) (by rw [hhh]; exact c1.1)
      rw [hhh] at h1
      have m1 := num_ok (b := b) (e := 0) (lo := 0) (hi := MX) (by rw [hm]; exact h1.1)
      rw [hm] at m1
      refine ⟨⟨c1.2.1, r1.2.1, ?_, g1.2.1, fun x hx => ?_, fun t => ?_⟩, rfl, ?_, ?_⟩
      · show (netL c.1 r.1).length = n
        unfold netL
        rw [List.length_zipWith, c1.2.1, r1.2.1, Nat.min_self]
      · obtain ⟨t, ht, e⟩ := List.mem_iff_getElem.1 hx
        have htn : t < n := by have h5 := c1.2.1; simp only at ht; omega
        have := c1.2.2.1 t htn
        have hge : c.1.getD t 0 = x := by rw [← e]; simp [List.getD, List.getElem?_eq_getElem ht]
        rw [hge] at this
        unfold fits
        unfold MX at this
        simpa using this
      · rcases Nat.lt_or_ge t n with ht | ht
        · exact g1.2.2.1 t ht
        · have e1 : g.1.getD t 0 = 0 := by simp [List.getD, List.getElem?_eq_none (show g.1.length ≤ t by rw [g1.2.1]; exact ht)]
          have e2 : c.1.getD t 0 = 0 := by simp [List.getD, List.getElem?_eq_none (show c.1.length ≤ t by rw [c1.2.1]; exact ht)]
          show 0 ≤ g.1.getD t 0 ∧ g.1.getD t 0 ≤ c.1.getD t 0
          rw [e1, e2]; omega
      · exact ⟨m1.2.2.2.1, h1.2.2.2.1, c1.2.2.2.1, r1.2.2.2.1, g1.2.2.2.1⟩
      · show b = encA ⟨⟨p, m.1, hh.1, c.1, r.1, netL c.1 r.1⟩, g.1⟩ ++ g.2.1
        unfold encA
        simp only
        conv => lhs; rw [m1.2.2.2.2, h1.2.2.2.2, c1.2.2.2.2, r1.2.2.2.2, g1.2.2.2.2]
        simp only [List.append_assoc]
    · rw [if_neg hs] at h; cases h
  · rw [if_neg he] at h; exact absurd h he
theorem accts_ok : ∀ {k : Nat} {p : Int} {b : List UInt8} {n : Nat}, (accts k p b n).2.2 = 0 → (accts k p b n).1.length = k ∧ (∀ i (hi : i < (accts k p b n).1.length), AccOk n (accts k p b n).1[i] ∧ (accts k p b n).1[i].bill.period = p + i ∧ AEnc (accts k p b n).1[i]) ∧ b = (accts k p b n).1.flatMap encA ++ (accts k p b n).2.1
  | 0, p, b, n, _ => ⟨rfl, fun i hi => absurd hi (Nat.not_lt_zero _), rfl⟩
  | k + 1, p, b, n, h => by
    by_cases h0 : (acct b p n).2.2 = 0
    · have e : accts (k + 1) p b n = ((acct b p n).1 :: (accts k (p + 1) (acct b p n).2.1 n).1, (accts k (p + 1) (acct b p n).2.1 n).2) := by
        show (if (acct b p n).2.2 = 0 then _ else _) = _
        rw [if_pos h0]
      rw [e] at h ⊢
      obtain ⟨i1, i2, i3⟩ := accts_ok h
      have a := acct_ok h0
      refine ⟨by simp [i1], fun i hi => ?_, ?_⟩
      · cases i with
        | zero => exact ⟨a.1, by rw [show ((0 : Nat) : Int) = 0 from rfl, Int.add_zero]; exact a.2.1, a.2.2.1⟩
        | succ i =>
          have := i2 i (by simpa using hi)
          refine ⟨this.1, ?_, this.2.2⟩
          have h2 := this.2.1
          simp only [List.getElem_cons_succ]
          rw [h2]; omega
      · show b = ((acct b p n).1 :: (accts k (p + 1) (acct b p n).2.1 n).1).flatMap encA ++ (accts k (p + 1) (acct b p n).2.1 n).2.1
        rw [List.flatMap_cons, List.append_assoc, ← i3]
        exact a.2.2.2
    · have e : accts (k + 1) p b n = ([], (acct b p n).2) := by
        show (if (acct b p n).2.2 = 0 then _ else _) = _
        rw [if_neg h0]
      rw [e] at h
      exact absurd h h0
structure DecOk (b : List UInt8) (l : Lg) : Prop where
  n1 : 1 ≤ l.n
  n2 : l.n ≤ 16
  per : l.periods ≤ 65536
  h16 : l.head.length = 16
  ok : Ok l
  p : I64s l.pending
  q : I64s l.paid
  ke : KEnc l
  en : enc l = b
theorem dec_ok {b : List UInt8} {l : Lg} (h : dec b = .inl l) : DecOk b l := by
  obtain ⟨n, hn⟩ : ∃ x, num b 0 1 16 = x := ⟨_, rfl⟩
  obtain ⟨p, hp⟩ : ∃ x, num n.2.1 n.2.2 0 65536 = x := ⟨_, rfl⟩
  obtain ⟨x, hx⟩ : ∃ y, (lst (p.2.1.drop 16) 0 n.1.toNat fun _ => 9223372036854775807) = y := ⟨_, rfl⟩
  obtain ⟨y, hy⟩ : ∃ z, (lst x.2.1 x.2.2 n.1.toNat fun _ => 9223372036854775807) = z := ⟨_, rfl⟩
  obtain ⟨k, hk⟩ : ∃ z, accts (min p.1.toNat 16) (p.1 - (min p.1.toNat 16 : Nat)) y.2.1 n.1.toNat = z := ⟨_, rfl⟩
  unfold dec at h
  simp only [hn, hp, hx, hy, hk] at h
  by_cases h1 : p.2.2 = 0
  · rw [if_pos h1] at h
    by_cases h2 : p.2.1.length < 16
    · rw [if_pos h2] at h; cases h
    · rw [if_neg h2] at h
      by_cases h3 : y.2.2 = 0
      · rw [if_pos h3] at h
        by_cases h4 : k.2.2 = 0
        · rw [if_pos h4] at h
          by_cases h5 : k.2.1 = []
          · rw [if_pos h5] at h
            have h := Sum.inl.inj h
            subst h
            have y1 := lst_ok (b := x.2.1) (e := x.2.2) (n := n.1.toNat) (mx := fun _ => 9223372036854775807) (by rw [hy]; exact h3)
            rw [hy] at y1
            have x1 := lst_ok (b := p.2.1.drop 16) (e := 0) (n := n.1.toNat) (mx := fun _ => 9223372036854775807) (by rw [hx]; exact y1.1)
            rw [hx] at x1
            have p1 := num_ok (b := n.2.1) (e := n.2.2) (lo := 0) (hi := 65536) (by rw [hp]; exact h1)
            rw [hp] at p1
            have n1 := num_ok (b := b) (e := 0) (lo := 1) (hi := 16) (by rw [hn]; exact p1.1)
            rw [hn] at n1
            have k1 := accts_ok (k := min p.1.toNat 16) (p := p.1 - (min p.1.toNat 16 : Nat)) (b := y.2.1) (n := n.1.toNat) (by rw [hk]; exact h4)
            rw [hk] at k1
            have hmin := k1.1
            refine ⟨by simp only; omega, by simp only; omega, by simp only; omega, by simp only [List.length_take]; omega, ⟨x1.2.1, y1.2.1, k1.1, fun i hi => ?_, fun t => ?_⟩, x1.2.2.2.1, y1.2.2.2.1, fun a ha => ?_, ?_⟩
            · have hac : accAt ⟨n.1.toNat, p.1.toNat, k.1, x.1, y.1, p.2.1.take 16⟩ i = k.1[i]'hi := by
                unfold accAt
                simp [List.getD, List.getElem?_eq_getElem hi]
              rw [hac]
              have := k1.2.1 i hi
              refine ⟨this.1, ?_⟩
              rw [this.2.1]
              simp only
              omega
            · rcases Nat.lt_or_ge t n.1.toNat with ht | ht
              · exact (x1.2.2.1 t ht).1
              · have e1 : x.1.getD t 0 = 0 := by simp [List.getD, List.getElem?_eq_none (show x.1.length ≤ t by rw [x1.2.1]; exact ht)]
                show 0 ≤ x.1.getD t 0
                rw [e1]; omega
            · obtain ⟨i, hi, e⟩ := List.mem_iff_getElem.1 ha
              have := (k1.2.1 i hi).2.2
              rw [e] at this; exact this
            · have hbn : b = Wire.enc n.1 ++ n.2.1 := n1.2.2.2.2
              have hbp : n.2.1 = Wire.enc p.1 ++ p.2.1 := p1.2.2.2.2
              have hbx : p.2.1.drop 16 = Wire.encI x.1 ++ x.2.1 := x1.2.2.2.2
              have hby : x.2.1 = Wire.encI y.1 ++ y.2.1 := y1.2.2.2.2
              have hbk : y.2.1 = k.1.flatMap encA := by have := k1.2.2; rwa [h5, List.append_nil] at this
              have e1 : ((n.1.toNat : Nat) : Int) = n.1 := Int.toNat_of_nonneg (by omega)
              have e2 : ((p.1.toNat : Nat) : Int) = p.1 := Int.toNat_of_nonneg (by omega)
              unfold enc encH
              simp only
              rw [e1, e2, hbn, hbp]
              conv => rhs; rw [← List.take_append_drop 16 p.2.1, hbx, hby, hbk]
              simp only [List.append_assoc]
          · rw [if_neg h5] at h; cases h
        · rw [if_neg h4] at h; cases h
      · rw [if_neg h3] at h; cases h
  · rw [if_neg h1] at h; cases h
end Bil
end Go.Proofs.YtkjomnakolhdcaaDoor
