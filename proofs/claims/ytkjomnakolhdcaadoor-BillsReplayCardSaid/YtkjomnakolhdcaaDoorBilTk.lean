/- Joined texts: BilTk, BilTz. Conditions: as each part says. -/
import Derived.Test.YtkjomnakolhdcaaDoorBilQT
import Derived.Test.YtkjomnakolhdcaaDoorWireDecPlain
import Derived.Test.YtkjomnakolhdcaaDoorWireLaws
namespace Go.Proofs.YtkjomnakolhdcaaDoor
set_option linter.unusedVariables false
set_option linter.unusedSimpArgs false
/-! Layer 35's bookings decoded, in plain: what Take and Replay read. No program in sight. -/
section
namespace Bil
/-- k integers from the front, and what follows them -/
def rdN : Nat → List UInt8 → Option (List Int × List UInt8)
  | 0, b => some ([], b)
  | k + 1, b =>
    match rdN k b with
    | none => none
    | some (l, r) => if (Wire.dec r).2.2 = 0 then some (l ++ [(Wire.dec r).1], r.drop (Wire.dec r).2.1) else none
theorem rdN_ok {k : Nat} {b r : List UInt8} {l : List Int} {x : Int} {u : Nat} (h : rdN k b = some (l, r)) (hd : Wire.dec r = (x, u, 0)) : rdN (k + 1) b = some (l ++ [x], r.drop u) := by
  simp [rdN, h, hd]
theorem rdN_err {k : Nat} {b r : List UInt8} {l : List Int} {x e : Int} {u : Nat} (h : rdN k b = some (l, r)) (hd : Wire.dec r = (x, u, e)) (he : e ≠ 0) : rdN (k + 1) b = none := by
  simp [rdN, h, hd, he]
theorem rdN_none {k : Nat} {b : List UInt8} (h : rdN k b = none) : ∀ j, rdN (k + j) b = none
  | 0 => h
  | j + 1 => by
    have := rdN_none h j
    show rdN (k + j + 1) b = none
    simp [rdN, this]
theorem rdN_len : ∀ {k : Nat} {b r : List UInt8} {l : List Int}, rdN k b = some (l, r) → l.length = k ∧ r.length ≤ b.length ∧ (∀ x ∈ l, -9223372036854775808 ≤ x ∧ x ≤ 9223372036854775807) ∧ b = b.take (b.length - r.length) ++ r
  | 0, b, r, l, h => by
    simp only [rdN, Option.some.injEq, Prod.mk.injEq] at h
    obtain ⟨rfl, rfl⟩ := h
    simp
  | k + 1, b, r, l, h => by
    cases h0 : rdN k b with
    | none => simp [rdN, h0] at h
    | some p =>
      obtain ⟨l0, r0⟩ := p
      obtain ⟨h1, h2, h3, h4⟩ := rdN_len h0
      obtain ⟨x, u, e, hd⟩ : ∃ x u e, Wire.dec r0 = (x, u, e) := ⟨_, _, _, rfl⟩
      by_cases he : e = 0
      · subst he
        have hx := Wire.dec_ok hd
        rw [rdN_ok h0 hd, Option.some.injEq, Prod.mk.injEq] at h
        obtain ⟨rfl, rfl⟩ := h
        refine ⟨by simp [h1], by simp; omega, fun y hy => ?_, ?_⟩
        · rcases List.mem_append.1 hy with hy | hy
          · exact h3 y hy
          · obtain rfl := List.mem_singleton.1 hy
            exact ⟨hx.1, hx.2.1⟩
        · have e1 : b.drop (b.length - r0.length) = r0 := by
            have := congrArg (List.drop (b.length - r0.length)) h4
            rw [this, List.drop_append_of_le_length (by simp), List.drop_of_length_le (by simp)]
            rfl
          have e2 : r0.drop u = b.drop (b.length - (r0.drop u).length) := by
            conv => lhs; rw [← e1]
            rw [List.drop_drop]
            congr 1
            simp; omega
          conv => lhs; rw [← List.take_append_drop (b.length - (r0.drop u).length) b]
          rw [← e2]
      · rw [rdN_err h0 hd he] at h; cases h
/-- the booking that a string encodes -/
def take (b : List UInt8) : Option Bk :=
  match rdN 1 b with
  | none => none
  | some (k, r) =>
    if k = [1] then
      match rdN 2 r with
      | none => none
      | some (x, r2) => if (Wire.decI r2).2.2 = 0 ∧ (Wire.decI r2).2.1 = r2.length then some ⟨1, x.getD 0 0, x.getD 1 0, 0, (Wire.decI r2).1⟩ else none
    else if k = [2] then
      match rdN 3 r with
      | none => none
      | some (x, r2) => if r2 = [] then some ⟨2, x.getD 0 0, x.getD 1 0, x.getD 2 0, []⟩ else none
    else none
/-- replaying: the ledger, or the place and the error -/
def replay : Lg → Nat → List (List UInt8) → Lg ⊕ (Nat × Int)
  | l, _, [] => .inl l
  | l, i, s :: hs =>
    match take s with
    | none => .inr (i, 6)
    | some x => if doErr l x = 0 then replay (doSt l x) (i + 1) hs else .inr (i, doErr l x)
end Bil
end
/-! Layer 35's bookings decoded, in plain: what is read has 64 bits; what was encoded is read back. No program in sight. -/
section
namespace Bil
theorem getD_i64 {l : List Int} (h : ∀ x ∈ l, -9223372036854775808 ≤ x ∧ x ≤ 9223372036854775807) (t : Nat) : i64 (l.getD t 0) := by
  rcases Nat.lt_or_ge t l.length with ht | ht
  · exact h _ (getD_mem ht)
  · have : l.getD t 0 = 0 := by simp [List.getD, List.getElem?_eq_none ht]
    rw [this]; exact ⟨by decide, by decide⟩
theorem take_ok {b : List UInt8} {x : Bk} (h : take b = some x) : i64 x.a ∧ i64 x.b ∧ i64 x.c ∧ x.ch.length ≤ b.length := by
  unfold take at h
  cases h1 : rdN 1 b with
  | none => rw [h1] at h; cases h
  | some p =>
    obtain ⟨k, r⟩ := p
    rw [h1] at h
    simp only at h
    have l1 := rdN_len h1
    by_cases hk : k = [1]
    · rw [if_pos hk] at h
      cases h2 : rdN 2 r with
      | none => rw [h2] at h; cases h
      | some p2 =>
        obtain ⟨y, r2⟩ := p2
        rw [h2] at h
        simp only at h
        have l2 := rdN_len h2
        split at h
        · obtain rfl := Option.some.inj h
          have := Wire.decI_len (b := r2) (l := (Wire.decI r2).1) (v := (Wire.decI r2).2.1) (e := (Wire.decI r2).2.2) rfl
          exact ⟨getD_i64 l2.2.2.1 0, getD_i64 l2.2.2.1 1, (by show i64 0; exact ⟨by decide, by decide⟩), by show (Wire.decI r2).1.length ≤ b.length; have := l1.2.1; have := l2.2.1; omega⟩
        · cases h
    · rw [if_neg hk] at h
      split at h
      · cases h2 : rdN 3 r with
        | none => rw [h2] at h; cases h
        | some p2 =>
          obtain ⟨y, r2⟩ := p2
          rw [h2] at h
          simp only at h
          have l2 := rdN_len h2
          split at h
          · obtain rfl := Option.some.inj h
            exact ⟨getD_i64 l2.2.2.1 0, getD_i64 l2.2.2.1 1, getD_i64 l2.2.2.1 2, Nat.zero_le _⟩
          · cases h
      · cases h
theorem rdN_enc {k : Nat} {b r : List UInt8} {l : List Int} {x : Int} (h : rdN k b = some (l, Wire.enc x ++ r)) (hx : i64 x) : rdN (k + 1) b = some (l ++ [x], r) := by
  rw [rdN_ok h (Wire.dec_enc hx.1 hx.2 r)]
  simp
theorem take_credit {p t u : Int} (hp : i64 p) (ht : i64 t) (hu : i64 u) : take (encCredit p t u) = some ⟨2, p, t, u, []⟩ := by
  unfold encCredit
  have h1 : rdN 1 (Wire.enc 2 ++ (Wire.enc p ++ (Wire.enc t ++ Wire.enc u))) = some ([2], Wire.enc p ++ (Wire.enc t ++ Wire.enc u)) := rdN_enc (k := 0) (l := []) rfl ⟨by decide, by decide⟩
  have h2 : rdN 1 (Wire.enc p ++ (Wire.enc t ++ Wire.enc u)) = some ([p], Wire.enc t ++ Wire.enc u) := rdN_enc (k := 0) (l := []) rfl hp
  have h3 : rdN 2 (Wire.enc p ++ (Wire.enc t ++ Wire.enc u)) = some ([p, t], Wire.enc u) := rdN_enc h2 ht
  have h4 : rdN 3 (Wire.enc p ++ (Wire.enc t ++ Wire.enc u)) = some ([p, t, u], []) := rdN_enc (r := []) (by rw [List.append_nil]; exact h3) hu
  simp [take, h1, h4]
theorem take_close {md hs : Int} {C : List Int} (hm : i64 md) (hh : i64 hs) (hC : I64s C) (hl : C.length ≤ 9223372036854775807) : take (encClose md hs C) = some ⟨1, md, hs, 0, C⟩ := by
  unfold encClose
  have h1 : rdN 1 (Wire.enc 1 ++ (Wire.enc md ++ (Wire.enc hs ++ Wire.encI C))) = some ([1], Wire.enc md ++ (Wire.enc hs ++ Wire.encI C)) := rdN_enc (k := 0) (l := []) rfl ⟨by decide, by decide⟩
  have h2 : rdN 1 (Wire.enc md ++ (Wire.enc hs ++ Wire.encI C)) = some ([md], Wire.enc hs ++ Wire.encI C) := rdN_enc (k := 0) (l := []) rfl hm
  have h3 : rdN 2 (Wire.enc md ++ (Wire.enc hs ++ Wire.encI C)) = some ([md, hs], Wire.encI C) := rdN_enc h2 hh
  have h4 := Wire.decI_enc (l := C) (fun x hx => hC x hx) hl []
  rw [List.append_nil] at h4
  simp [take, h1, h3, h4]
end Bil
end
end Go.Proofs.YtkjomnakolhdcaaDoor
