/- Layer 35's laws: Close at whatever arguments, 'do'. Conditions: at most 1000 charges; the ledger keeps what it keeps; the tables are in memory. -/
import Derived.Test.YtkjomnakolhdcaaDoorBilZ
namespace Go.Proofs.YtkjomnakolhdcaaDoor
set_option linter.unusedVariables false
set_option linter.unusedSimpArgs false
open Go.RowKit
namespace Bil
instance (l : Lg) (md hs : Int) (C : List Int) : Decidable (CloseOk l md hs C) := by unfold CloseOk; infer_instance
/-- a booking -/
structure Bk where
  kind : Int
  a : Int
  b : Int
  c : Int
  ch : List Int
def closeE (l : Lg) (md hs : Int) (C : List Int) : Int := if CloseOk l md hs C then (if 65536 ≤ l.periods then 2 else 0) else 1
def doErr (l : Lg) (x : Bk) : Int := if x.kind = 1 then closeE l x.a x.b x.ch else creditErr l x.a x.b x.c
def closeS (l : Lg) (md hs : Int) (C : List Int) : Lg := if closeE l md hs C = 0 then closeOf (bookHead l.head ⟨(encClose md hs C).toArray⟩) l md hs C else l
def doSt (l : Lg) (x : Bk) : Lg := if x.kind = 1 then closeS l x.a x.b x.ch else creditSt l x.a x.b x.c
end Bil
/-- what a booking gives: the bill, the error, the ledger -/
def DoRes (w : World) (bl : Nat) (col : Nat → Nat) (l : Bil.Lg) (x : Bil.Bk) (e : Ending) (w' : World) : Prop :=
  ∃ v col' m', e = .returned (.tuple #[v, .int .i64 (Bil.doErr l x)]) ∧ ((Bil.doErr l x = 0 ∧ x.kind = 1) → BillV w' w.heap.size v (Bil.billOf l x.a x.b x.ch)) ∧ (¬ (Bil.doErr l x = 0 ∧ x.kind = 1) → v = zBill) ∧
    LAt w' bl col' m' (Bil.doSt l x) ∧ Keep (fun b => col b ≠ 0) w w' ∧ ∀ b, col' b ≠ 0 → col b ≠ 0 ∨ w.heap.size ≤ b
section
variable (bl : Nat) (col : Nat → Nat) (m : LM) (l : Bil.Lg)
theorem close_any (x : Bil.Bk) (hk : x.kind = 1) (h2 : i64 x.b) (A : Option Addr) (n0 c : Nat) (hC : x.ch.length = n0) (hn : n0 ≤ 1000) (B : Nat) (w : World) (h : LAt w bl col m l) (hO : Bil.Ok l) (hS : Bil.Sm l 1152921504606846976) (hT : Tabs w) (hR : RG w) (rd : Rd w B 1 A n0 (ivs x.ch)) (hB : B ≤ w.heap.size) (hA : 0 < n0 → ∀ a, A = some a → col a.block = 0) :
    Calls Tryd.prog 29 #[.pointer (some ⟨bl, 0, none⟩), .int .i64 x.a, .int .i64 x.b, .slice A n0 c] w (DoRes w bl col l x) := by
  by_cases hok : Bil.CloseOk l x.a x.b x.ch
  · have hn0 : 0 < n0 := by have := hok.1; have := h.n1; omega
    refine (close_good bl col m l x.a x.b A n0 c x.ch hC B w h hO hS hT hR rd hB (hA hn0) hok).mono ?_
    intro e w' he
    have hst : Bil.doSt l x = Bil.closeS l x.a x.b x.ch := by unfold Bil.doSt; rw [if_pos hk]
    rcases he with ⟨hp, rfl, hb⟩ | ⟨hp, v, col', m', rfl, hbv, hl, hkp, hc⟩
    · have he : Bil.doErr l x = 2 := by unfold Bil.doErr Bil.closeE; rw [if_pos hk, if_pos hok, if_pos hp]
      have hcs : Bil.closeS l x.a x.b x.ch = l := by unfold Bil.closeS Bil.closeE; rw [if_pos hok, if_pos hp, if_neg (by decide)]
      exact ⟨zBill, col, m, by rw [he], fun hh => by rw [he] at hh; exact absurd hh.1 (by decide), fun _ => rfl, by rw [hst, hcs]; exact h.below hb, Keep.of_below hb, fun b hb => .inl hb⟩
    · have he : Bil.doErr l x = 0 := by unfold Bil.doErr Bil.closeE; rw [if_pos hk, if_pos hok, if_neg (by omega)]
      have hcs : Bil.closeS l x.a x.b x.ch = Bil.closeOf (bookHead l.head ⟨(encClose x.a x.b x.ch).toArray⟩) l x.a x.b x.ch := by unfold Bil.closeS Bil.closeE; rw [if_pos hok, if_neg (show ¬ 65536 ≤ l.periods by omega), if_pos rfl]
      exact ⟨v, col', m', by rw [he], fun _ => hbv, fun hh => absurd ⟨he, hk⟩ hh, by rw [hst, hcs]; exact hl, hkp, hc⟩
  · refine (close_bad bl col m l x.a x.b h2.1 h2.2 A n0 c x.ch hC hn B w h rd hB hok).mono ?_
    rintro e w' ⟨rfl, hb⟩
    have he : Bil.doErr l x = 1 := by unfold Bil.doErr Bil.closeE; rw [if_pos hk, if_neg hok]
    have hst : Bil.doSt l x = l := by unfold Bil.doSt Bil.closeS Bil.closeE; rw [if_pos hk, if_neg hok, if_neg (by decide)]
    exact ⟨zBill, col, m, by rw [he], fun hh => by rw [he] at hh; exact absurd hh.1 (by decide), fun _ => rfl, by rw [hst]; exact h.below hb, Keep.of_below hb, fun b hb => .inl hb⟩
/-- a booking among the arguments -/
structure BkM where
  x : Bil.Bk
  A : Option Addr
  n : Nat
  c : Nat
def bkc (y : BkM) : List Value := [.int .i64 y.x.kind, .int .i64 y.x.a, .int .i64 y.x.b, .int .i64 y.x.c, .slice y.A y.n y.c]
structure BkOk (w : World) (B : Nat) (y : BkM) : Prop where
  a : i64 y.x.a
  b : i64 y.x.b
  c : i64 y.x.c
  len : y.x.ch.length = y.n
  rd : Rd w B 1 y.A y.n (ivs y.x.ch)
theorem size5 : (Tryd.prog.info? 35).map (·.size) = some 5 := by kernel_rfl
set_option maxRecDepth 100000 in
set_option maxHeartbeats 1600000 in
theorem do_any (y : BkM) (hn : y.n ≤ 1000) (B : Nat) (w : World) (hy : BkOk w B y) (h : LAt w bl col m l) (hO : Bil.Ok l) (hS : Bil.Sm l 1152921504606846976) (hT : Tabs w) (hR : RG w) (hB : B ≤ w.heap.size) (hA : 0 < y.n → ∀ a, y.A = some a → col a.block = 0) :
    Calls Tryd.prog 12 #[.pointer (some ⟨bl, 0, none⟩), .agg (bkc y).toArray] w (DoRes w bl col l y.x) := by
  obtain ⟨⟨kd, a, b, c, ch⟩, A, n, cc⟩ := y
  obtain ⟨qx, qy⟩ := rows2 w 35 31 [.int .i64 kd, .int .i64 a, .int .i64 b, .int .i64 c, .slice A n cc] Z6
  have hb2 := ((Below.refl w.heap.size w).alloc (Nat.le_refl _) (.cells [Value.int .i64 kd, .int .i64 a, .int .i64 b, .int .i64 c, .slice A n cc].toArray 35)).alloc (by simp) (.cells Z6.toArray 31)
  obtain ⟨w2, hw2⟩ : ∃ x, (w.alloc (.cells [Value.int .i64 kd, .int .i64 a, .int .i64 b, .int .i64 c, .slice A n cc].toArray 35)).alloc (.cells Z6.toArray 31) = x := ⟨_, rfl⟩
  rw [hw2] at qx qy hb2
  have HW2 := Lib.hid (show (w.alloc (.cells #[Value.int .i64 kd, .int .i64 a, .int .i64 b, .int .i64 c, .slice A n cc] 35)).alloc (.cells #[.int .i64 0, .int .i64 0, .int .i64 0, .slice none 0 0, .slice none 0 0, .slice none 0 0] 31) = w2 from hw2)
  obtain ⟨bx, hbx⟩ : ∃ x, w.heap.size = x := ⟨_, rfl⟩
  obtain ⟨by_, hby⟩ : ∃ x, bx + 1 = x := ⟨_, rfl⟩
  have HBX := Lib.hid (And.intro hbx hby)
  rw [hbx] at qx
  rw [hbx, hby] at qy
  have HQX := Lib.hid qx
  have HQY := Lib.hid qy
  have k0 : w2.cell? ⟨bx, 0, none⟩ = some (.int .i64 kd) := qx.cell 0
  have k1 : w2.cell? ⟨bx, 1, none⟩ = some (.int .i64 a) := qx.cell 1
  have k2 : w2.cell? ⟨bx, 2, none⟩ = some (.int .i64 b) := qx.cell 2
  have k3 : w2.cell? ⟨bx, 3, none⟩ = some (.int .i64 c) := qx.cell 3
  have k4 : w2.cell? ⟨bx, 4, none⟩ = some (.slice A n cc) := qx.cell 4
  have HB2 := Lib.hid hb2
  have HLT := Lib.hid h.lt
  have hl2 := h.below hb2
  have hT2 := hT.below hb2
  have hR2 := hR.below hb2
  have hrd : Rd w2 B 1 A n (ivs ch) := hy.rd.below (hb2.mono hB)
  have hya := hy.a
  have hyb := hy.b
  have hyc := hy.c
  have hyl : ch.length = n := hy.len
  have HST := Lib.hid (fun (w3 w4 : World) (col' : Nat → Nat) (m' : LM) (l' : Bil.Lg) (hl : LAt w3 bl col' m' l') (hc : ∀ q, col' q ≠ 0 → col q ≠ 0 ∨ w2.heap.size ≤ q) (hg : w3.grownBy w4 (some by_)) => hl.keeps (S := fun k => k = by_) (Keep.of_grown hg fun k e => (Option.some.inj e).symm) (fun q e => by
    have e : q = by_ := e
    rcases Nat.eq_zero_or_pos (col' q) with h0 | h0
    · exact h0
    · rcases hc q (by omega) with h1 | h1
      · have := h.lt q h1; omega
      · have := qy.lt; omega))
  by_cases hk : kd = 1
  · subst hk
    have HCL := Lib.hid (close_any bl col m l ⟨1, a, b, c, ch⟩ rfl hyb A n cc hyl hn B w2 hl2 hO hS hT2 hR2 hrd (Nat.le_trans hB hb2.size) hA)
    clear hw2 hbx hby qx qy hb2 h hO hS hT hR hB hA hy hl2 hT2 hR2 hrd hya hyb hyc hyl
    show Calls Tryd.prog 12 #[.pointer (some ⟨bl, 0, none⟩), .agg #[.int .i64 1, .int .i64 a, .int .i64 b, .int .i64 c, .slice A n cc]] w _
    go_enter Tryd.func12, Tryd.ntmps12
    go_upto_region 1 with fail
    rw [show _ = w2 from HW2.out, show w.heap.size = bx from HBX.out.1, show bx + 1 = by_ from HBX.out.2]
    go_wp2_with (first
      | (go_at_call 29; refine HCL.out.mono ?_; rintro e w3 ⟨v, col', m', rfl, hv1, hv2, hl, hkp, hc⟩; obtain ⟨v6, rfl, hv6, ho6⟩ : ∃ L6 : List Value, v = .agg L6.toArray ∧ L6.length = 6 ∧ L6.all (·.oneCell') = true := by
          (by_cases hcc : Bil.doErr l ⟨1, a, b, c, ch⟩ = 0 ∧ (1 : Int) = 1
           · obtain ⟨A1, A2, A3, c1, c2, c3, hv, _⟩ := hv1 hcc
             exact ⟨_, hv, rfl, rfl⟩
           · exact ⟨Z6, hv2 hcc, rfl, rfl⟩)
         have q3 := HQY.out.keep (hkp.block by_ HQY.out.lt (fun hcq => by have := HLT.out by_ hcq; have := HBX.out; omega))
         have HV := Lib.hid (And.intro hv1 (And.intro hv2 (And.intro hl (And.intro hkp hc))))
         clear hv1 hv2 hl hkp hc)
      | (refine wpList_storeRow rfl _ (.tmp 4) (.tmp 17) rfl (l' := v6) q3 rfl rfl (by rw [hv6]; exact size6) (by rw [hv6]; rfl) ho6 ?_; intro w4 r4 g4 z4))
    obtain ⟨hv1, hv2, hl, hkp, hc⟩ := HV.out
    have hs2 := HB2.out.size
    refine bodyPost_ret (resultRowST rfl _ _ r4 rfl Tryd.underlying31 (by rw [hv6]; exact size6)) rfl ⟨_, col', m', rfl, fun hcc => ?_, fun hcc => hv2 (fun hh => hcc ⟨hh.1, rfl⟩), HST.out w3 w4 col' m' _ hl hc g4, ?_, fun q hq => (hc q hq).imp id (by omega)⟩
    · obtain ⟨A1, A2, A3, c1, c2, c3, hv, o1, o2, o3⟩ := hv1 ⟨hcc.1, trivial⟩
      have hby2 : by_ < w2.heap.size := HQY.out.lt
      exact ⟨A1, A2, A3, c1, c2, c3, hv, own_base (own_far o1 g4 hby2) hs2, own_base (own_far o2 g4 hby2) hs2, own_base (own_far o3 g4 hby2) hs2⟩
    · exact ((Keep.of_below HB2.out).trans hkp).grown g4 fun k e => .inr (by have := Option.some.inj e; have := HBX.out; omega)
  · have hk2 : (kd == 1) = false := by rw [beq_eq_false_iff_ne]; exact hk
    have HCR := Lib.hid (credit_any bl col m l a b c w2 hl2 hO hS hT2 hya.1 hya.2 hyc.2)
    have HE : Hid (Bil.doErr l ⟨kd, a, b, c, ch⟩ = Bil.creditErr l a b c ∧ Bil.doSt l ⟨kd, a, b, c, ch⟩ = Bil.creditSt l a b c) := Lib.hid (by unfold Bil.doErr Bil.doSt; rw [if_neg hk, if_neg hk]; exact ⟨rfl, rfl⟩)
    clear hw2 hbx hby qx qy hb2 h hO hS hT hR hB hA hy hl2 hT2 hR2 hrd hya hyb hyc hyl
    show Calls Tryd.prog 12 #[.pointer (some ⟨bl, 0, none⟩), .agg #[.int .i64 kd, .int .i64 a, .int .i64 b, .int .i64 c, .slice A n cc]] w _
    go_enter Tryd.func12, Tryd.ntmps12
    go_upto_region 1 with fail
    rw [show _ = w2 from HW2.out, show w.heap.size = bx from HBX.out.1, show bx + 1 = by_ from HBX.out.2]
    go_wp2_with (first
      | (go_at_call 30; refine HCR.out.mono ?_; rintro e w3 ⟨rfl, hkp, m', hl⟩; have q3 := HQY.out.keep (hkp.block by_ HQY.out.lt (fun hcq => by have := HLT.out by_ hcq; have := HBX.out; omega)); have HV := Lib.hid (And.intro hl hkp); clear hl hkp)
      | (refine wpList_storeRow rfl _ (.tmp 4) (.tmp 19) rfl (l' := Z6) q3 rfl rfl size6 rfl rfl ?_; intro w4 r4 g4 z4))
    obtain ⟨hl, hkp⟩ := HV.out
    refine bodyPost_ret (resultRowST rfl _ _ r4 rfl Tryd.underlying31 size6) rfl ⟨zBill, col, m', by rw [HE.out.1]; rfl, fun hcc => absurd hcc.2 hk, fun _ => rfl, by rw [HE.out.2]; exact HST.out w3 w4 col m' _ hl (fun q hq => .inl hq) g4, ?_, fun q hq => .inl hq⟩
    exact ((Keep.of_below HB2.out).trans hkp).grown g4 fun k e => .inr (by have := Option.some.inj e; have := HBX.out; omega)
end
end Go.Proofs.YtkjomnakolhdcaaDoor
