/- The two Clash functions, whatever the proofs: what they return. Conditions: the digests have 16 bytes. -/
import Derived.Test.YtfnbcchmembomaaDoorRefClash
namespace Go.Proofs.YtfnbcchmembomaaDoor
set_option linter.unusedVariables false
set_option linter.unusedSimpArgs false
open Go.RowKit
namespace Mk
/-- the inputs of a proof, the last one -/
def lastIn (n i : Nat) (d : List UInt8) (p : List (List UInt8)) : List UInt8 := climb (leaf d) ((sides n i).zip p)
/-- the right number of elements, and the index within bounds -/
def inOk (n i : Int) (p : List (List UInt8)) : Prop := 0 ≤ i ∧ i < n ∧ p.length = (steps 0 n.toNat i.toNat).length
instance (n i : Int) (p : List (List UInt8)) : Decidable (inOk n i p) := by unfold inOk; infer_instance
def clash (n i : Int) (a b : List UInt8) (p q : List (List UInt8)) : Option (List UInt8 × List UInt8) :=
  if inOk n i p ∧ inOk n i q ∧ short (lastIn n.toNat i.toNat a p) = short (lastIn n.toNat i.toNat b q) then
    (clashF (ins a (sides n.toNat i.toNat) p p.length) (ins b (sides n.toNat i.toNat) q p.length) (p.length + 1)).map fun t => ((ins a (sides n.toNat i.toNat) p p.length).getD t [], (ins b (sides n.toNat i.toNat) q p.length).getD t [])
  else none
theorem clash_pair {n i : Int} {a b x y : List UInt8} {p q : List (List UInt8)} (hp : D16 p) (hq : D16 q) (h : clash n i a b p q = some (x, y)) : x ≠ y ∧ short x = short y := by
  unfold clash at h
  by_cases hc : inOk n i p ∧ inOk n i q ∧ short (lastIn n.toNat i.toNat a p) = short (lastIn n.toNat i.toNat b q)
  · rw [if_pos hc] at h
    obtain ⟨⟨h1, h2, h3⟩, ⟨h4, h5, h6⟩, h7⟩ := hc
    obtain ⟨t, ht, he⟩ := Option.map_eq_some_iff.1 h
    have hsl : (sides n.toNat i.toNat).length = p.length := by rw [sides_count, h3]
    have hs : short ((ins a (sides n.toNat i.toNat) p p.length).getD p.length []) = short ((ins b (sides n.toNat i.toNat) q p.length).getD p.length []) := by
      rw [ins_getD _ _ _ _ _ (Nat.le_refl _), ins_getD _ _ _ _ _ (Nat.le_refl _), climb_done _ _ _ _ (Nat.le_refl _), climb_done _ _ _ _ (by omega)]; exact h7
    obtain ⟨_, e1, e2⟩ := clash_short a b _ p q p.length t hsl rfl (by omega) hp hq hs ht
    injection he with hx hy
    subst hx hy
    exact ⟨e1, e2⟩
  · rw [if_neg hc] at h; cases h
theorem clash_isSome {n i : Int} {a b : List UInt8} {p q : List (List UInt8)} (ha : a.length = 16) (hb : b.length = 16) (hp : D16 p) (hq : D16 q) (hi : inOk n i p) :
    (clash n i a b p q).isSome = (verify (short (lastIn n.toNat i.toNat a p)) n i a p && (verify (short (lastIn n.toNat i.toNat a p)) n i b q && !(decide (a = b) && decide (p = q)))) := by
  have v1 : verify (short (lastIn n.toNat i.toNat a p)) n i a p = true := by
    unfold verify; rw [if_pos ⟨hi.1, hi.2.1⟩, if_pos hi.2.2]; exact beq_self_eq_true _
  rw [v1, Bool.true_and]
  have hsl : (sides n.toNat i.toNat).length = p.length := by rw [sides_count, hi.2.2]
  unfold clash
  by_cases hc : inOk n i q ∧ short (lastIn n.toNat i.toNat a p) = short (lastIn n.toNat i.toNat b q)
  · rw [if_pos ⟨hi, hc⟩]
    have hql : q.length = p.length := by rw [hi.2.2, hc.1.2.2]
    have v2 : verify (short (lastIn n.toNat i.toNat a p)) n i b q = true := by
      unfold verify; rw [if_pos ⟨hi.1, hi.2.1⟩, if_pos hc.1.2.2]
      show (short (lastIn n.toNat i.toNat b q) == _) = true
      rw [hc.2]; exact beq_self_eq_true _
    rw [v2, Bool.true_and, Option.isSome_map]
    have hn := clash_none a b (sides n.toNat i.toNat) p q p.length hsl rfl hql hp hq ha hb
    cases hcf : clashF (ins a (sides n.toNat i.toNat) p p.length) (ins b (sides n.toNat i.toNat) q p.length) (p.length + 1) with
    | none =>
      obtain ⟨rfl, rfl⟩ := hn.1 hcf
      simp
    | some t =>
      have : ¬ (a = b ∧ p = q) := fun e => by rw [hn.2 e] at hcf; cases hcf
      simp only [Option.isSome_some]
      by_cases e1 : a = b
      · have e2 : p ≠ q := fun e2 => this ⟨e1, e2⟩
        simp [e2]
      · simp [e1]
  · rw [if_neg fun e => hc e.2]
    have v2 : verify (short (lastIn n.toNat i.toNat a p)) n i b q = false := by
      unfold verify; rw [if_pos ⟨hi.1, hi.2.1⟩]
      by_cases hq : q.length = (steps 0 n.toNat i.toNat).length
      · rw [if_pos hq]
        have : short (lastIn n.toNat i.toNat b q) ≠ short (lastIn n.toNat i.toNat a p) := fun e => hc ⟨⟨hi.1, hi.2.1, hq⟩, e.symm⟩
        simpa [lastIn] using this
      · rw [if_neg hq]
    rw [v2]; rfl
theorem clash_out {n i : Int} {a b : List UInt8} {p q : List (List UInt8)} (hi : ¬ inOk n i p) : clash n i a b p q = none := by unfold clash; rw [if_neg fun e => hi e.1]
end Mk
/-- what the program's Clash returns -/
def CRes (o : Option (List UInt8 × List UInt8)) (w : World) (e : Ending) (w' : World) : Prop := ∃ (A : Option Addr) (N c : Nat) (A' : Option Addr) (N' c' : Nat),
  e = .returned (.tuple #[.slice A N c, .slice A' N' c', .bool o.isSome]) ∧ Below w.heap.size w w' ∧ N = ((o.map Prod.fst).getD []).length ∧ Rd w' w'.heap.size 1 A N (bvs ((o.map Prod.fst).getD [])) ∧ N' = ((o.map Prod.snd).getD []).length ∧ Rd w' w'.heap.size 1 A' N' (bvs ((o.map Prod.snd).getD []))
/-- what the reference's Clash returns -/
def RCRes (o : Option (List UInt8 × List UInt8)) (w : World) (e : Ending) (w' : World) : Prop := ∃ (A : Option Addr) (N c : Nat) (A' : Option Addr) (N' c' : Nat),
  e = .returned (.agg #[.slice A N c, .slice A' N' c', .bool o.isSome]) ∧ Below w.heap.size w w' ∧ N = ((o.map Prod.fst).getD []).length ∧ Rd w' w'.heap.size 1 A N (bvs ((o.map Prod.fst).getD [])) ∧ N' = ((o.map Prod.snd).getD []).length ∧ Rd w' w'.heap.size 1 A' N' (bvs ((o.map Prod.snd).getD []))
theorem NoColl.res {w w' : World} {e : Ending} (h : NoColl w e w') : CRes none w e w' := ⟨none, 0, 0, none, 0, 0, h.1, h.2, rfl, Rd.nil_ _ _ _ _, rfl, Rd.nil_ _ _ _ _⟩
theorem RNoColl.res {w w' : World} {e : Ending} (h : RNoColl w e w') : RCRes none w e w' := ⟨none, 0, 0, none, 0, 0, h.1, h.2, rfl, Rd.nil_ _ _ _ _, rfl, Rd.nil_ _ _ _ _⟩
theorem ClashR.res {L1 L2 : List (List UInt8)} {o : Option Nat} {w w' : World} {e : Ending} (h : ClashR L1 L2 o w e w') : CRes (o.map fun t => (L1.getD t [], L2.getD t [])) w e w' := by
  cases o with
  | none => exact (h.1 rfl).res
  | some t => obtain ⟨A, N, c, A', N', c', r⟩ := h.2 t rfl; exact ⟨A, N, c, A', N', c', r⟩
theorem RClashR.res {L1 L2 : List (List UInt8)} {o : Option Nat} {w w' : World} {e : Ending} (h : RClashR L1 L2 o w e w') : RCRes (o.map fun t => (L1.getD t [], L2.getD t [])) w e w' := by
  cases o with
  | none => exact (h.1 rfl).res
  | some t => obtain ⟨A, N, c, A', N', c', r⟩ := h.2 t rfl; exact ⟨A, N, c, A', N', c', r⟩
theorem ins_le (d : List UInt8) (hd : d.length = 16) (sd : List Bool) (p : List (List UInt8)) (hp : D16 p) (m : Nat) (h1 : m ≤ sd.length) (h2 : m ≤ p.length) (k : Nat) : ((Mk.ins d sd p m).getD k []).length ≤ 1000 := by
  by_cases hk : k ≤ m
  · rw [Mk.ins_getD _ _ _ _ _ hk]; exact Mk.climb_le d hd sd p hp k (by omega) (by omega)
  · rw [List.getD, List.getElem?_eq_none (by rw [Mk.ins_len]; omega)]; decide
/-- digest.inputs: nil, or the inputs -/
theorem clash_any (n i : Int) (hn : n ≤ 9223372036854775807) (a b : List UInt8) (ha : a.length = 16) (hb : b.length = 16) (A : Option Addr) (m c : Nat) (p : List (List UInt8)) (hpl : p.length = m) (hp : D16 p) (A' : Option Addr) (m' c' : Nat) (q : List (List UInt8)) (hql : q.length = m') (hq : D16 q)
    (B : Nat) (w : World) (hr : Rd w B 16 A m (dvs p)) (hr' : Rd w B 16 A' m' (dvs q)) (hB : B ≤ w.heap.size) (hT : Tabs w) :
    Calls Tryd.prog 22 #[.int .i64 n, .int .i64 i, dv a, dv b, .slice A m c, .slice A' m' c'] w (CRes (Mk.clash n i a b p q) w) := by
  by_cases hi : 0 ≤ i ∧ i < n
  · obtain ⟨n', rfl⟩ : ∃ n' : Nat, n = n' := ⟨n.toNat, by omega⟩
    obtain ⟨i', rfl⟩ : ∃ i' : Nat, i = i' := ⟨i.toNat, by omega⟩
    have hi' : i' < n' := by omega
    have h63 := Mk.steps_63 0 n' i' (by omega)
    by_cases hl : m = (Mk.steps 0 n' i').length
    · have H1 := fun (W : World) (hW : Below w.heap.size w W) => inputs_any n' i' hi' (by omega) a ha A m c p hpl hp hl B W (hr.below (hW.mono hB)) (by have := hW.size; omega) (hT.below hW)
      by_cases hl' : m' = (Mk.steps 0 n' i').length
      · have H2 := fun (W : World) (hW : Below w.heap.size w W) => inputs_any n' i' hi' (by omega) b hb A' m' c' q hql hq hl' B W (hr'.below (hW.mono hB)) (by have := hW.size; omega) (hT.below hW)
        obtain rfl : m = m' := by omega
        have hsl : (Mk.sides n' i').length = m := by rw [Mk.sides_count, hl]
        have hx := Mk.ins_get a (Mk.sides n' i') p m m (Nat.le_refl _)
        have hy := Mk.ins_get b (Mk.sides n' i') q m m (Nat.le_refl _)
        have hxl := Mk.climb_le a ha (Mk.sides n' i') p hp m (by omega) (by omega)
        have hyl := Mk.climb_le b hb (Mk.sides n' i') q hq m (by omega) (by omega)
        rw [Mk.climb_done _ _ _ _ (by omega)] at hx hy hxl hyl
        unfold Mk.clash
        rw [Int.toNat_natCast, Int.toNat_natCast]
        have i1 : Mk.inOk n' i' p := ⟨hi.1, hi.2, by rw [Int.toNat_natCast, Int.toNat_natCast, hpl, hl]⟩
        have i2 : Mk.inOk n' i' q := ⟨hi.1, hi.2, by rw [Int.toNat_natCast, Int.toNat_natCast, hql, hl]⟩
        by_cases hs : Mk.short (Mk.lastIn n' i' a p) = Mk.short (Mk.lastIn n' i' b q)
        · rw [if_pos ⟨i1, i2, hs⟩, hpl]
          exact (clash_yes n' i' a b ha hb _ _ w m (by omega) _ _ _ _ hx hy hxl hyl hs (Mk.ins_len _ _ _ _) (Mk.ins_len _ _ _ _) (ins_le a ha _ p hp m (by omega) (by omega)) hT H1 H2).mono fun e w' h => ClashR.res h
        · rw [if_neg fun e => hs e.2.2]
          exact (clash_no3 n' i' a b ha hb _ _ w m (by omega) _ _ _ _ hx hy hxl hyl hs hT H1 H2).mono fun e w' h => h.res
      · have H2 := fun (W : World) (hW : Below w.heap.size w W) => inputs_len n' i' hi' (by omega) b A' m' c' hl' W
        rw [show Mk.clash n' i' a b p q = none from by unfold Mk.clash; rw [if_neg fun e => hl' (by have := e.2.1.2.2; rw [Int.toNat_natCast, Int.toNat_natCast] at this; omega)]]
        exact (clash_no2 n' i' a b ha hb _ _ w m _ H1 H2).mono fun e w' h => h.res
    · have H1 := fun (W : World) (hW : Below w.heap.size w W) => inputs_len n' i' hi' (by omega) a A m c hl W
      rw [Mk.clash_out fun e => hl (by have := e.2.2; rw [Int.toNat_natCast, Int.toNat_natCast] at this; omega)]
      refine (clash_no1 n' i' a b ha hb _ _ w H1 (fun W hW => ?_)).mono fun e w' h => h.res
      by_cases hl' : m' = (Mk.steps 0 n' i').length
      · exact (inputs_any n' i' hi' (by omega) b hb A' m' c' q hql hq hl' B W (hr'.below (hW.mono hB)) (by have := hW.size; omega) (hT.below hW)).mono fun e w' ⟨_, _, _, h1, h2, _⟩ => ⟨⟨_, h1⟩, h2⟩
      · exact (inputs_len n' i' hi' (by omega) b A' m' c' hl' W).mono fun e w' h => ⟨⟨_, h.1⟩, h.2⟩
  · rw [Mk.clash_out fun e => hi ⟨e.1, e.2.1⟩]
    exact (clash_no1 n i a b ha hb _ _ w (fun W _ => inputs_out n i (by omega) a ha _ W) (fun W _ => (inputs_out n i (by omega) b hb _ W).mono fun e w' h => ⟨⟨_, h.1⟩, h.2⟩)).mono fun e w' h => h.res
theorem refClash_any (n i : Int) (hn : n ≤ 9223372036854775807) (a b : List UInt8) (ha : a.length = 16) (hb : b.length = 16) (A : Option Addr) (m c : Nat) (p : List (List UInt8)) (hpl : p.length = m) (hp : D16 p) (hmc : m ≤ c) (hc : c ≤ 9223372036854775807) (hm40 : m ≤ 1099511627776) (A' : Option Addr) (m' c' : Nat) (q : List (List UInt8)) (hql : q.length = m') (hq : D16 q) (hmc' : m' ≤ c') (hc' : c' ≤ 9223372036854775807) (hm40' : m' ≤ 1099511627776)
    (B : Nat) (w : World) (hr : Rd w B 16 A m (dvs p)) (hr' : Rd w B 16 A' m' (dvs q)) (hB : B ≤ w.heap.size) (hT : RTab w) :
    Calls Tryd.prog 23 #[.int .i64 n, .int .i64 i, dv a, dv b, .slice A m c, .slice A' m' c'] w (RCRes (Mk.clash n i a b p q) w) := by
  by_cases hi : 0 ≤ i ∧ i < n
  · obtain ⟨n', rfl⟩ : ∃ n' : Nat, n = n' := ⟨n.toNat, by omega⟩
    obtain ⟨i', rfl⟩ : ∃ i' : Nat, i = i' := ⟨i.toNat, by omega⟩
    have hi' : i' < n' := by omega
    have h63 := Mk.steps_63 0 n' i' (by omega)
    have I1 := fun (W : World) (hW : Below w.heap.size w W) => refInputs_any a ha n' i' m c A p hpl hp hi' (by omega) hmc (by omega) (by omega) B W (hr.below (hW.mono hB)) (by have := hW.size; omega) (hT.below hW)
    have I2 := fun (W : World) (hW : Below w.heap.size w W) => refInputs_any b hb n' i' m' c' A' q hql hq hi' (by omega) hmc' (by omega) (by omega) B W (hr'.below (hW.mono hB)) (by have := hW.size; omega) (hT.below hW)
    by_cases hl : m = (Mk.steps 0 n' i').length
    · have H1 := fun (W : World) (hW : Below w.heap.size w W) => (I1 W hW).1 hl
      by_cases hl' : m' = (Mk.steps 0 n' i').length
      · have H2 := fun (W : World) (hW : Below w.heap.size w W) => (I2 W hW).1 hl'
        obtain rfl : m = m' := by omega
        have hsl : (Mk.sides n' i').length = m := by rw [Mk.sides_count, hl]
        have hx := Mk.ins_get a (Mk.sides n' i') p m m (Nat.le_refl _)
        have hy := Mk.ins_get b (Mk.sides n' i') q m m (Nat.le_refl _)
        have hxl := Mk.climb_le a ha (Mk.sides n' i') p hp m (by omega) (by omega)
        have hyl := Mk.climb_le b hb (Mk.sides n' i') q hq m (by omega) (by omega)
        rw [Mk.climb_done _ _ _ _ (by omega)] at hx hy hxl hyl
        unfold Mk.clash
        rw [Int.toNat_natCast, Int.toNat_natCast]
        have i1 : Mk.inOk n' i' p := ⟨hi.1, hi.2, by rw [Int.toNat_natCast, Int.toNat_natCast, hpl, hl]⟩
        have i2 : Mk.inOk n' i' q := ⟨hi.1, hi.2, by rw [Int.toNat_natCast, Int.toNat_natCast, hql, hl]⟩
        by_cases hs : Mk.short (Mk.lastIn n' i' a p) = Mk.short (Mk.lastIn n' i' b q)
        · rw [if_pos ⟨i1, i2, hs⟩, hpl]
          exact (refClash_yes n' i' a b ha hb _ _ w m (by omega) _ _ _ _ hx hy hxl hyl hs (Mk.ins_len _ _ _ _) (Mk.ins_len _ _ _ _) (fun k => ⟨ins_le a ha _ p hp m (by omega) (by omega) k, ins_le b hb _ q hq m (by omega) (by omega) k⟩) hT H1 H2).mono fun e w' h => RClashR.res h
        · rw [if_neg fun e => hs e.2.2]
          exact (refClash_no3 n' i' a b ha hb _ _ w m (by omega) _ _ _ _ hx hy hxl hyl hs hT H1 H2).mono fun e w' h => h.res
      · rw [show Mk.clash n' i' a b p q = none from by unfold Mk.clash; rw [if_neg fun e => hl' (by have := e.2.1.2.2; rw [Int.toNat_natCast, Int.toNat_natCast] at this; omega)]]
        refine (refClash_no2 n' i' a b ha hb _ _ w (fun W hW => (H1 W hW).mono fun e w' ⟨_, _, _, h1, h2, _⟩ => ⟨⟨_, h1⟩, h2⟩) (fun W hW => ((I2 W hW).2 hl').mono fun e w' ⟨_, h1, h2⟩ => ⟨⟨_, h1⟩, h2⟩)).mono fun e w' h => h.res
    · rw [Mk.clash_out fun e => hl (by have := e.2.2; rw [Int.toNat_natCast, Int.toNat_natCast] at this; omega)]
      refine (refClash_no1 n' i' a b ha hb _ _ w (fun W hW => ((I1 W hW).2 hl).mono fun e w' ⟨_, h1, h2⟩ => ⟨⟨_, h1⟩, h2⟩) (fun W hW => ?_)).mono fun e w' h => h.res
      by_cases hl' : m' = (Mk.steps 0 n' i').length
      · exact ((I2 W hW).1 hl').mono fun e w' ⟨_, _, _, h1, h2, _⟩ => ⟨⟨_, _, h1⟩, h2⟩
      · exact ((I2 W hW).2 hl').mono fun e w' ⟨_, h1, h2⟩ => ⟨⟨_, _, h1⟩, h2⟩
  · rw [Mk.clash_out fun e => hi ⟨e.1, e.2.1⟩]
    exact (refClash_no1 n i a b ha hb _ _ w (fun W _ => (refIn_out n i (by omega) a _ W).mono fun e w' ⟨_, h1, h2⟩ => ⟨⟨_, h1⟩, h2⟩) (fun W _ => (refIn_out n i (by omega) b _ W).mono fun e w' ⟨_, h1, h2⟩ => ⟨⟨_, _, h1⟩, h2⟩)).mono fun e w' h => h.res
theorem clash_len {n i : Int} {a b x y : List UInt8} {p q : List (List UInt8)} (ha : a.length = 16) (hb : b.length = 16) (hp : D16 p) (hq : D16 q) (h : Mk.clash n i a b p q = some (x, y)) : x.length ≤ 1000 ∧ y.length ≤ 1000 := by
  unfold Mk.clash at h
  by_cases hc : Mk.inOk n i p ∧ Mk.inOk n i q ∧ Mk.short (Mk.lastIn n.toNat i.toNat a p) = Mk.short (Mk.lastIn n.toNat i.toNat b q)
  · rw [if_pos hc] at h
    obtain ⟨⟨h1, h2, h3⟩, ⟨h4, h5, h6⟩, h7⟩ := hc
    obtain ⟨t, ht, he⟩ := Option.map_eq_some_iff.1 h
    have hsl : (Mk.sides n.toNat i.toNat).length = p.length := by rw [Mk.sides_count, h3]
    injection he with hx hy
    subst hx hy
    exact ⟨ins_le a ha _ p hp _ (by omega) (Nat.le_refl _) t, ins_le b hb _ q hq _ (by omega) (by omega) t⟩
  · rw [if_neg hc] at h; cases h
end Go.Proofs.YtfnbcchmembomaaDoor
