/- Layer 35's laws: Close at whatever arguments, 'do'. Conditions: at most 1000 charges; the ledger keeps what it keeps; the tables are in memory. -/
import Derived.Test.YtkjomnakolhdcaaDoorBilZ
namespace Go.Proofs.YtkjomnakolhdcaaDoor
set_option linter.unusedVariables false
set_option linter.unusedSimpArgs false
open Go.RowKit
namespace Bil
instance (l : Lg) (md hs : Int) (C : List Int) : Decidable (CloseOk l md hs C) := by unfold CloseOk; infer_instance
/-- a booking -/
structure Bk where
  kind : Int
  a : Int
  b : Int
  c : Int
  ch : List Int
def closeE (l : Lg) (md hs : Int) (C : List Int) : Int := if CloseOk l md hs C then (if 65536 ≤ l.periods then 2 else 0) else 1
def doErr (l : Lg) (x : Bk) : Int := if x.kind = 1 then closeE l x.a x.b x.ch else creditErr l x.a x.b x.c
def closeS (l : Lg) (md hs : Int) (C : List Int) : Lg := if closeE l md hs C = 0 then closeOf (bookHead l.head ⟨(encClose md hs C).toArray⟩) l md hs C else l
def doSt (l : Lg) (x : Bk) : Lg := if x.kind = 1 then closeS l x.a x.b x.ch else creditSt l x.a x.b x.c
end Bil
/-- what a booking gives: the bill, the error, the ledger -/
def DoRes (w : World) (bl : Nat) (col : Nat → Nat) (l : Bil.Lg) (x : Bil.Bk) (e : Ending) (w' : World) : Prop :=
  ∃ v col' m', e = .returned (.tuple #[v, .int .i64 (Bil.doErr l x)]) ∧ ((Bil.doErr l x = 0 ∧ x.kind = 1) → BillV w' w.heap.size v (Bil.billOf l x.a x.b x.ch)) ∧ (¬ (Bil.doErr l x = 0 ∧ x.kind = 1) → v = zBill) ∧
    LAt w' bl col' m' (Bil.doSt l x) ∧ Keep (fun b => col b ≠ 0) w w' ∧ ∀ b, col' b ≠ 0 → col b ≠ 0 ∨ w.heap.size ≤ b
section
variable (bl : Nat) (col : Nat → Nat) (m : LM) (l : Bil.Lg)
theorem close_any (x : Bil.Bk) (hk : x.kind = 1) (h2 : i64 x.b) (A : Option Addr) (n0 c : Nat) (hC : x.ch.length = n0) (hn : n0 ≤ 1000) (B : Nat) (w : World) (h : LAt w bl col m l) (hO : Bil.Ok l) (hS : Bil.Sm l 1152921504606846976) (hT : Tabs w) (hR : RG w) (rd : Rd w B 1 A n0 (ivs x.ch)) (hB : B ≤ w.heap.size) (hA : 0 < n0 → ∀ a, A = some a → col a.block = 0) :
    Calls Tryd.prog 29 #[.pointer (some ⟨bl, 0, none⟩), .int .i64 x.a, .int .i64 x.b, .slice A n0 c] w (DoRes w bl col l x) := by
  by_cases hok : Bil.CloseOk l x.a x.b x.ch
  · have hn0 : 0 < n0 := by have := hok.1; have := h.n1; omega
    refine (close_good bl col m l x.a x.b A n0 c x.ch hC B w h hO hS hT hR rd hB (hA hn0) hok).mono ?_
    intro e w' he
    have hst : Bil.doSt l x = Bil.closeS l x.a x.b x.ch := by unfold Bil.doSt; rw [if_pos hk]
    rcases he with ⟨hp, rfl, hb⟩ | ⟨hp, v, col', m', rfl, hbv, hl, hkp, hc⟩
    · have he : Bil.doErr l x = 2 := by unfold Bil.doErr Bil.closeE; rw [if_pos hk, if_pos hok, if_pos hp]
      have hcs : Bil.closeS l x.a x.b x.ch = l := by unfold Bil.closeS Bil.closeE; rw [if_pos hok, if_pos hp, if_neg (by decide)]
      exact ⟨zBill, col, m, by rw [he], fun hh => by rw [he] at hh; exact absurd hh.1 (by decide), fun _ => rfl, by rw [hst, hcs]; exact h.below hb, Keep.of_below hb, fun b hb => .inl hb⟩
    · have he : Bil.doErr l x = 0 := by unfold Bil.doErr Bil.closeE; rw [if_pos hk, if_pos hok, if_neg (by omega)]
      have hcs : Bil.closeS l x.a x.b x.ch = Bil.closeOf (bookHead l.head ⟨(encClose x.a x.b x.ch).toArray⟩) l x.a x.b x.ch := by unfold Bil.closeS Bil.closeE; rw [if_pos hok, if_neg (show ¬ 65536 ≤ l.periods by omega), if_pos rfl]
      exact ⟨v, col', m', by rw [he], fun _ => hbv, fun hh => absurd ⟨he, hk⟩ hh, by rw [hst, hcs]; exact hl, hkp, hc⟩
  · refine (close_bad bl col m l x.a x.b h2.1 h2.2 A n0 c x.ch hC hn B w h rd hB hok).mono ?_
    rintro e w' ⟨rfl, hb⟩
    have he : Bil.doErr l x = 1 := by unfold Bil.doErr Bil.closeE; rw [if_pos hk, if_neg hok]
    have hst : Bil.doSt l x = l := by unfold Bil.doSt Bil.closeS Bil.closeE; rw [if_pos hk, if_neg hok, if_neg (by decide)]
    exact ⟨zBill, col, m, by rw [he], fun hh => by rw [he] at hh; exact absurd hh.1 (by decide), fun _ => rfl, by rw [hst]; exact h.below hb, Keep.of_below hb, fun b hb => .inl hb⟩
/-- a booking among the arguments -/
structure BkM where
  x : Bil.Bk
  A : Option Addr
  n : Nat
  c : Nat
def bkc (y : BkM) : List Value := [.int .i64 y.x.kind, .int .i64 y.x.a, .int .i64 y.x.b, .int .i64 y.x.c, .slice y.A y.n y.c]
structure BkOk (w : World) (B : Nat) (y : BkM) : Prop where
  a : i64 y.x.a
  b : i64 y.x.b
  c : i64 y.x.c
  len : y.x.ch.length = y.n
  rd : Rd w B 1 y.A y.n (ivs y.x.ch)
end
end Go.Proofs.YtkjomnakolhdcaaDoor
