/- Joined texts: BilLM, BilLP. Conditions: as each part says. -/
import Derived.Test.YtkjomnakolhdcaaDoorBilUB
import Derived.Test.YtkjomnakolhdcaaDoorBilUC
import Derived.Test.YtkjomnakolhdcaaDoorBilT
import Derived.Test.YtkjomnakolhdcaaDoorBilVA
import Derived.Test.YtkjomnakolhdcaaDoorBilG
import Derived.Test.YtkjomnakolhdcaaDoorBilRB
namespace Go.Proofs.YtkjomnakolhdcaaDoor
set_option linter.unusedVariables false
set_option linter.unusedSimpArgs false
/-! Two ledgers side by side, the program's and the reference's, and a copy of each: what a step on one of them leaves of the others. No program text. -/
section
open Go.RowKit
/-- L: the program's ledger; T: the reference's; C: what the copies of both hold -/
structure PIn (w W : World) (bl bt bc bd : Nat) (cl : Nat → Nat) (ml : LM) (ct : Nat → Nat) (mt : RM) (cc : Nat → Nat) (mc : LM) (cd : Nat → Nat) (md : RM) (L T C : Bil.Lg) : Prop where
  l : LAt W bl cl ml L
  t : RAt W bt ct mt T
  c : LAt W bc cc mc C
  d : RAt W bd cd md C
  fl : ∀ b, cl b ≠ 0 → w.heap.size ≤ b
  ft : ∀ b, ct b ≠ 0 → w.heap.size ≤ b
  lt : ∀ b, cl b ≠ 0 → ct b = 0
  lc : ∀ b, cl b ≠ 0 → cc b = 0
  ld : ∀ b, cl b ≠ 0 → cd b = 0
  tc : ∀ b, ct b ≠ 0 → cc b = 0
  td : ∀ b, cd b ≠ 0 → ct b = 0 ∨ ct b = 6
  b : Below w.heap.size w W
section
variable {w W W' : World} {bl bt bc bd : Nat} {cl cl' ct ct' cc cd : Nat → Nat} {ml ml' : LM} {mt mt' : RM} {mc : LM} {md : RM} {L L' T T' C : Bil.Lg}
/-- blocks beyond the memory have no colour -/
theorem PIn.zero (h : PIn w W bl bt bc bd cl ml ct mt cc mc cd md L T C) {b : Nat} (hb : W.heap.size ≤ b) : cl b = 0 ∧ ct b = 0 ∧ cc b = 0 ∧ cd b = 0 := by
  have f : ∀ {c : Nat → Nat}, (∀ k, c k ≠ 0 → k < W.heap.size) → c b = 0 := fun {c} hc => by
    rcases Nat.eq_zero_or_pos (c b) with h0 | h0
    · exact h0
    · have := hc b (by omega); omega
  exact ⟨f h.l.lt, f h.t.lt, f h.c.lt, f h.d.lt⟩
theorem PIn.below (h : PIn w W bl bt bc bd cl ml ct mt cc mc cd md L T C) (hb : Below W.heap.size W W') : PIn w W' bl bt bc bd cl ml ct mt cc mc cd md L T C :=
  ⟨h.l.below hb, h.t.below hb, h.c.below hb, h.d.below hb, h.fl, h.ft, h.lt, h.lc, h.ld, h.tc, h.td, h.b.trans (hb.mono h.b.size)⟩
/-- a store into a block that has no colour -/
theorem PIn.store (h : PIn w W bl bt bc bd cl ml ct mt cc mc cd md L T C) {q : Nat} (hq : cl q = 0 ∧ ct q = 0 ∧ cc q = 0 ∧ cd q = 0) (hw : w.heap.size ≤ q) (hg : W.grownBy W' (some q)) : PIn w W' bl bt bc bd cl ml ct mt cc mc cd md L T C := by
  have hk : Keep (fun k => k = q) W W' := Keep.of_grown hg fun k e => (Option.some.inj e).symm
  exact ⟨h.l.keeps hk (fun b e => by subst e; exact hq.1), h.t.keeps hk (fun b e => by subst e; exact hq.2.1), h.c.keeps hk (fun b e => by subst e; exact hq.2.2.1), h.d.keeps hk (fun b e => by subst e; exact hq.2.2.2), h.fl, h.ft, h.lt, h.lc, h.ld, h.tc, h.td, h.b.grown hg h.b.size (fun j hj => by have := Option.some.inj hj; omega)⟩
theorem keep_below_of {S : Nat → Prop} (h : Below w.heap.size w W) (hk : Keep S W W') (hs : ∀ b, S b → w.heap.size ≤ b) : Below w.heap.size w W' :=
  h.trans (hk.below h.size fun q hq e => by have := hs q e; omega)
/-- a booking with the program's ledger -/
theorem PIn.turnL (h : PIn w W bl bt bc bd cl ml ct mt cc mc cd md L T C) (hk : Keep (fun b => cl b ≠ 0) W W') (hl : LAt W' bl cl' ml' L') (hc : ∀ b, cl' b ≠ 0 → cl b ≠ 0 ∨ W.heap.size ≤ b) : PIn w W' bl bt bc bd cl' ml' ct mt cc mc cd md L' T C := by
  have hz := h.b.size
  have z : ∀ b, cl' b ≠ 0 → ∀ {c : Nat → Nat}, (∀ k, cl k ≠ 0 → c k = 0) → (∀ k, c k ≠ 0 → k < W.heap.size) → c b = 0 := fun b hb {c} h1 h2 => by
    rcases hc b hb with h3 | h3
    · exact h1 b h3
    · rcases Nat.eq_zero_or_pos (c b) with h0 | h0
      · exact h0
      · have := h2 b (by omega); omega
  exact ⟨hl, h.t.keeps hk (fun b hb => h.lt b hb), h.c.keeps hk (fun b hb => h.lc b hb), h.d.keeps hk (fun b hb => h.ld b hb), fun b hb => (hc b hb).elim (h.fl b) (by omega), h.ft, fun b hb => z b hb h.lt h.t.lt, fun b hb => z b hb h.lc h.c.lt, fun b hb => z b hb h.ld h.d.lt, h.tc, h.td, keep_below_of h.b hk h.fl⟩
/-- a booking with the reference's ledger -/
theorem PIn.turnT (h : PIn w W bl bt bc bd cl ml ct mt cc mc cd md L T C) (hk : Keep (fun b => ct b ≠ 0 ∧ ct b ≠ 6) W W') (ht : RAt W' bt ct' mt' T') (hc : ∀ b, ct' b ≠ 0 → ct b ≠ 0 ∨ W.heap.size ≤ b) (h6 : ∀ b, ct b = 6 → ct' b = 6) : PIn w W' bl bt bc bd cl ml ct' mt' cc mc cd md L T' C := by
  have hz := h.b.size
  have zz : ∀ {c : Nat → Nat} b, (∀ k, c k ≠ 0 → k < W.heap.size) → W.heap.size ≤ b → c b = 0 := fun {c} b h2 h3 => by
    rcases Nat.eq_zero_or_pos (c b) with h0 | h0
    · exact h0
    · have := h2 b (by omega); omega
  refine ⟨h.l.keeps hk (fun b hb => ?_), ht, h.c.keeps hk (fun b hb => h.tc b hb.1), h.d.keeps hk (fun b hb => ?_), h.fl, fun b hb => (hc b hb).elim (h.ft b) (by omega), fun b hb => ?_, h.lc, h.ld, fun b hb => (hc b hb).elim (h.tc b) (zz b h.c.lt), fun b hb => ?_, keep_below_of h.b hk (fun b hb => h.ft b hb.1)⟩
  · rcases Nat.eq_zero_or_pos (cl b) with h0 | h0
    · exact h0
    · have := h.lt b (by omega); omega
  · rcases Nat.eq_zero_or_pos (cd b) with h0 | h0
    · exact h0
    · have := h.td b (by omega); omega
  · rcases Nat.eq_zero_or_pos (ct' b) with h0 | h0
    · exact h0
    · rcases hc b (by omega) with h1 | h1
      · have := h.lt b hb; omega
      · have := h.l.lt b hb; omega
  · rcases h.td b hb with h0 | h0
    · rcases Nat.eq_zero_or_pos (ct' b) with h1 | h1
      · exact .inl h1
      · rcases hc b (by omega) with h2 | h2
        · omega
        · have := h.d.lt b hb; omega
    · exact .inr (h6 b h0)
/-- the copies are made anew -/
theorem PIn.copyC (h : PIn w W bl bt bc bd cl ml ct mt cc mc cd md L L C) (hb : Below W.heap.size W W') {bc' bd' : Nat} {cc' cd' : Nat → Nat} {mc' : LM} {md' : RM} (hc : LAt W' bc' cc' mc' L) (hd : RAt W' bd' cd' md' L) (fc : ∀ b, cc' b ≠ 0 → W.heap.size ≤ b) (fd : ∀ b, cd' b ≠ 0 → W.heap.size ≤ b ∨ (ct b = 6 ∧ cd' b = 6)) : PIn w W' bl bt bc' bd' cl ml ct mt cc' mc' cd' md' L L L := by
  have z := @PIn.zero
  have hh := h.below hb
  have hzb : ∀ b, W.heap.size ≤ b → cl b = 0 ∧ ct b = 0 := fun b hb => ⟨(h.zero hb).1, (h.zero hb).2.1⟩
  refine ⟨hh.l, hh.t, hc, hd, h.fl, h.ft, h.lt, fun b hb => ?_, fun b hb => ?_, fun b hb => ?_, fun b hb => ?_, hh.b⟩
  · rcases Nat.eq_zero_or_pos (cc' b) with h0 | h0
    · exact h0
    · have := hzb b (fc b (by omega)); omega
  · rcases Nat.eq_zero_or_pos (cd' b) with h0 | h0
    · exact h0
    · rcases fd b (by omega) with h1 | h1
      · have := hzb b h1; omega
      · have := h.lt b hb; omega
  · rcases Nat.eq_zero_or_pos (cc' b) with h0 | h0
    · exact h0
    · have := hzb b (fc b (by omega)); omega
  · rcases fd b hb with h1 | h1
    · exact .inl (hzb b h1).2
    · exact .inr h1.1
/-- an owned row under a frame -/
theorem own_keepS {S : Nat → Prop} {base e sz n : Nat} {v : Value} {xs : List Value} (h : W.ownsRow base e sz v n xs) (hk : Keep S W W') (hs : ∀ b, base ≤ b → b < W.heap.size → ¬ S b) : W'.ownsRow base e sz v n xs := by
  refine ⟨h.1, ?_⟩
  rcases h.2 with h | ⟨g, cap, cur, hv, hb, hh, r⟩
  · exact .inl h
  · have hlt := (Array.getElem?_eq_some_iff.1 hh).1
    exact .inr ⟨g, cap, cur, hv, hb, (hk.block g hlt (hs g hb hlt)).trans hh, r⟩
/-- the bill that a booking with the program's ledger gives -/
def PBill (W : World) (base : Nat) (v : Value) (B : Bil.Bill) : Prop := BillV W base v B ∨ (v = zBill ∧ B = Bil.zb)
theorem PBill.rv {base : Nat} {v : Value} {B : Bil.Bill} (h : PBill W base v B) : RBillV W v B := by
  rcases h with h | ⟨rfl, rfl⟩
  · exact rbill_own h
  · exact rbill_z W
theorem PBill.keeps {S : Nat → Prop} {base : Nat} {v : Value} {B : Bil.Bill} (h : PBill W base v B) (hk : Keep S W W') (hs : ∀ b, base ≤ b → b < W.heap.size → ¬ S b) : PBill W' base v B := by
  rcases h with ⟨A1, A2, A3, c1, c2, c3, rfl, o1, o2, o3⟩ | h
  · exact .inl ⟨A1, A2, A3, c1, c2, c3, rfl, own_keepS o1 hk hs, own_keepS o2 hk hs, own_keepS o3 hk hs⟩
  · exact .inr h
theorem PBill.of {base : Nat} {v : Value} {l : Bil.Lg} {x : Bil.Bk} (h1 : (Bil.doErr l x = 0 ∧ x.kind = 1) → BillV W base v (Bil.billOf l x.a x.b x.ch)) (h2 : ¬ (Bil.doErr l x = 0 ∧ x.kind = 1) → v = zBill) : PBill W base v (Bil.outB l x) := by
  unfold Bil.outB
  by_cases h : Bil.doErr l x = 0 ∧ x.kind = 1
  · rw [if_pos h]; exact .inl (h1 h)
  · rw [if_neg h]; exact .inr ⟨h2 h, rfl⟩
end
theorem outB_len {l : Bil.Lg} {x : Bil.Bk} (h : l.pending.length = l.n) (hn : l.n ≤ 1000) : (Bil.outB l x).charges.length ≤ 1000 ∧ (Bil.outB l x).credits.length ≤ 1000 ∧ (Bil.outB l x).nets.length ≤ 1000 := by
  unfold Bil.outB
  by_cases hc : Bil.doErr l x = 0 ∧ x.kind = 1
  · rw [if_pos hc]
    have h1 : x.ch.length = l.n := by
      have := hc.1
      unfold Bil.doErr at this
      rw [if_pos hc.2] at this
      exact (Bil.closeE_zero this).1.1
    have hl : x.ch.length = l.pending.length := by omega
    have e1 := Bil.used_len hl
    have e2 := Bil.net_len hl
    show x.ch.length ≤ 1000 ∧ (Bil.usedL x.ch l.pending).length ≤ 1000 ∧ (Bil.netL x.ch (Bil.usedL x.ch l.pending)).length ≤ 1000
    omega
  · rw [if_neg hc]; exact ⟨Nat.zero_le _, Nat.zero_le _, Nat.zero_le _⟩
end
/-! The walk of BillsPlay: it returns true. Conditions: what the arguments are, the tables of SHA-256. -/
section
open Go.RowKit
theorem bkok_below {w W : World} {B : Nat} {y : BkM} (h : BkOk w B y) (hb : Below B w W) : BkOk W B y := ⟨h.a, h.b, h.c, h.len, h.rd.below hb⟩
theorem bk_far2 {w : World} {y : BkM} {col : Nat → Nat} {B : Nat} (h : BkOk w B y) (hc : ∀ b, col b ≠ 0 → B ≤ b) : 0 < y.n → ∀ a, y.A = some a → col a.block = 0 := fun h0 a ha => by
  obtain ⟨b, off, e, hb, _⟩ := h.rd.2 h0
  rw [e] at ha
  obtain rfl := Option.some.inj ha
  rcases Nat.eq_zero_or_pos (col b) with h1 | h1
  · exact h1
  · have := hc b (by omega); omega
theorem inv_k2 {l : Bil.Lg} {k : Nat} (h : Bil.Inv l (1099511627776 * (k : Int) + 1099511627776)) : Bil.Inv l (1099511627776 * ((k + 1 : Nat) : Int)) := by
  have e : (1099511627776 : Int) * (k : Int) + 1099511627776 = 1099511627776 * ((k + 1 : Nat) : Int) := by omega
  rwa [e] at h
theorem inv_big {l : Bil.Lg} {k : Nat} (h : Bil.Inv l (1099511627776 * (k : Int))) (hk : k ≤ 60) : Bil.Inv l 1152921504606846976 := ⟨h.ok, Bil.sm_big h.sm (by omega), h.ke⟩
theorem inv_enc {l : Bil.Lg} (h : Bil.Inv l 1152921504606846976) : I64s l.pending ∧ I64s l.paid := ⟨Bil.i64s_of fun t => by have := h.sm t; omega, Bil.i64s_of fun t => by have := h.sm t; omega⟩
/-- between two bookings -/
def PLoop (w W : World) (bl bt bc bd k : Nat) : Prop := ∃ cl ml ct mt cc mc cd md l C, PIn w W bl bt bc bd cl ml ct mt cc mc cd md l l C ∧ Bil.Inv l (1099511627776 * (k : Int)) ∧ Bil.Inv C 1152921504606846976
theorem pin_start {w w1 w2 w3 w4 w5 : World} {bl bt bc bd : Nat} {cl ct cc cd : Nat → Nat} {ml : LM} {mt : RM} {mc : LM} {md : RM} {l : Bil.Lg} (b1 : Below w.heap.size w w1) (b2 : Below w1.heap.size w1 w2) (b3 : Below w2.heap.size w2 w3) (b4 : Below w3.heap.size w3 w4) (b5 : Below w4.heap.size w4 w5) (hl : LAt w2 bl cl ml l) (ht : RAt w3 bt ct mt l) (hc : LAt w4 bc cc mc l) (hd : RAt w5 bd cd md l)
    (f1 : ∀ b, cl b ≠ 0 → w1.heap.size ≤ b) (f2 : ∀ b, ct b ≠ 0 → w2.heap.size ≤ b) (f3 : ∀ b, cc b ≠ 0 → w3.heap.size ≤ b) (f4 : ∀ b, cd b ≠ 0 → w4.heap.size ≤ b ∨ (ct b = 6 ∧ cd b = 6)) : PIn w w5 bl bt bc bd cl ml ct mt cc mc cd md l l l := by
  have z1 := b1.size; have z2 := b2.size; have z3 := b3.size; have z4 := b4.size; have z5 := b5.size
  have c45 : Below w3.heap.size w3 w5 := b4.trans (b5.mono z4)
  have c35 : Below w2.heap.size w2 w5 := b3.trans (c45.mono z3)
  have c25 : Below w1.heap.size w1 w5 := b2.trans (c35.mono z2)
  have hz : ∀ {c : Nat → Nat} {b : Nat} {m : Nat}, (∀ k, c k ≠ 0 → m ≤ k) → b < m → c b = 0 := fun {c b m} h hb => by
    rcases Nat.eq_zero_or_pos (c b) with h0 | h0
    · exact h0
    · have := h b (by omega); omega
  refine ⟨hl.below c35, ht.below c45, hc.below b5, hd, fun b hb => by have := f1 b hb; omega, fun b hb => by have := f2 b hb; omega, fun b hb => hz f2 (hl.lt b hb), fun b hb => hz f3 (by have := hl.lt b hb; omega), fun b hb => ?_, fun b hb => hz f3 (ht.lt b hb), fun b hb => ?_, b1.trans (c25.mono z1)⟩
  · have h1 := hl.lt b hb
    rcases Nat.eq_zero_or_pos (cd b) with h0 | h0
    · exact h0
    · rcases f4 b (by omega) with h2 | h2
      · omega
      · have := f2 b (by omega); omega
  · rcases f4 b hb with h2 | h2
    · left
      rcases Nat.eq_zero_or_pos (ct b) with h0 | h0
      · exact h0
      · have := ht.lt b (by omega); omega
    · exact .inr h2.1
set_option maxRecDepth 100000 in
set_option maxHeartbeats 16000000 in
theorem lawPlay (tn : Int) (t1 : -9223372036854775808 ≤ tn) (t2 : tn ≤ 9223372036854775807) (A : Option Addr) (n c : Nat) (L : List BkM) (hL : L.length = n) (hnc : n ≤ c) (hcc : c ≤ 140737488355328) (q : Int) (q1 : 0 ≤ q) (q2 : q ≤ 255) (w : World) (hok : ∀ y ∈ L, BkOk w w.heap.size y) (rd : Rd w w.heap.size 5 A n (L.flatMap bkc)) (hT : Tabs w) (hR : RTab w) :
    Calls Tryd.prog 5 #[.int .i64 tn, .slice A n c, .int .u8 q] w fun e w' => e = .returned (.bool true) ∧ Below w.heap.size w w' := by
  have HS := Lib.hid (sanity_any w hT (RG.of hT))
  have HF := Lib.hid (fun W (hW : Below w.heap.size w W) => few_any A n c L hL w.heap.size W (rd.below hW))
  by_cases hfew : fewB L = true
  · rw [hfew] at HF
    by_cases ht1 : 1 ≤ tn ∧ tn ≤ 16
    · obtain ⟨hn60, hy20⟩ := fewB_true hfew
      obtain ⟨N, rfl⟩ : ∃ N : Nat, tn = (N : Int) := ⟨tn.toNat, by omega⟩
      have hN1 : 1 ≤ N := by omega
      have hN2 : N ≤ 16 := by omega
      have HL := Lib.hid hL
      have HOK := Lib.hid hok
      have HRD := Lib.hid rd
      have HTT := Lib.hid hT
      have HRT := Lib.hid hR
      have HY20 := Lib.hid hy20
      have HNW := Lib.hid (fun W (hW : Below w.heap.size w W) => new_any N hN1 hN2 W (hT.below hW) ((RG.of hT).below hW))
      have HNR := Lib.hid (fun W (hW : Below w.heap.size w W) => rNew_any N hN1 hN2 W (hT.below hW) (hR.below hW))
      have HN60 : Hid (n ≤ 60) := Lib.hid (by omega)
      have HQ := Lib.hid (And.intro q1 q2)
      clear hL hnc hcc hok rd hT hR hfew hn60 hy20 hN1 hN2 t1 t2 ht1 q1 q2
      go_enter Tryd.func5, Tryd.ntmps5
      go_upto_region 10 with (first
        | (go_at_call 9; refine HS.out.mono ?_; rintro e w1 ⟨rfl, b1⟩)
        | (go_at_call 10; refine (HF.out w1 b1).mono ?_; rintro e w2 ⟨rfl, hw2⟩; rw [hw2]; clear hw2 w2)
        | (go_at_call 11; refine (HNW.out w1 b1).mono ?_; rintro e w2 ⟨bl, cl, ml, rfl, hl2, hc2, hb2⟩; have HL2 := Lib.hid (And.intro hl2 (And.intro hc2 hb2)); have HB2 := Lib.hid (b1.trans (hb2.mono b1.size)); clear hl2 hc2 hb2)
        | (go_at_call 16; refine (HNR.out w2 HB2.out).mono ?_; rintro e w3 ⟨bt, ct, mt, rfl, hl3, hc3, hb3⟩; have HL3 := Lib.hid (And.intro hl3 (And.intro hc3 hb3)); have HB3 := Lib.hid (HB2.out.trans (hb3.mono HB2.out.size)); clear hl3 hc3 hb3)
        | (go_at_call 17; refine (cloneL_any bl cl ml _ w3 (HL2.out.1.below HL3.out.2.2) (HTT.out.below HB3.out) ((RG.of HTT.out).below HB3.out)).mono ?_; rintro e w4 ⟨bc, cc, mc, rfl, hl4, hc4, hb4⟩; have HL4 := Lib.hid (And.intro hl4 (And.intro hc4 hb4)); have HB4 := Lib.hid (HB3.out.trans (hb4.mono HB3.out.size)); clear hl4 hc4 hb4)
        | (go_at_call 18; refine (rclone_any bt ct mt _ w4 (HL3.out.1.below HL4.out.2.2) (HTT.out.below HB4.out) (HRT.out.below HB4.out)).mono ?_; rintro e w5 ⟨bd, cd, md, rfl, hl5, hc5, h65, hb5⟩; have HL5 := Lib.hid (And.intro hl5 (And.intro hc5 hb5)); clear hl5 hc5 h65 hb5))
      have HP0 : Hid (PLoop w w5 bl bt bc bd 0) := Lib.hid ⟨cl, ml, ct, mt, cc, mc, cd, md, _, _, pin_start b1 HL2.out.2.2 HL3.out.2.2 HL4.out.2.2 HL5.out.2.2 HL2.out.1 HL3.out.1 HL4.out.1 HL5.out.1 HL2.out.2.1 HL3.out.2.1 HL4.out.2.1 HL5.out.2.1, by simpa using Bil.inv_new N (newHead N) 0 (Int.le_refl _), Bil.inv_new N (newHead N) _ (by decide)⟩
      clear HL2 HL3 HL4 HL5 HB2 HB3 HB4 HNW HNR HS HF b1
      go_wp2_with fail
      go_loopw [12, 13, 14] (fun u12 u13 u14 wr => ∃ k bc bd : Nat, k ≤ n ∧ u12 = .pointer (some ⟨bc, 0, none⟩) ∧ u13 = .pointer (some ⟨bd, 0, none⟩) ∧ u14 = .int .i64 k ∧ Hid (PLoop w wr bl bt bc bd k)) (fun _ _ u14 _ => n - (intOf u14).toNat)
      case atStart => exact ⟨0, bc, bd, Nat.zero_le _, rfl, rfl, rfl, HP0⟩
      case round =>
        clear HP0
        obtain ⟨k, bc, bd, hk, rfl, rfl, rfl, HPL⟩ := hrel
        by_cases hlt : k < n
        · obtain ⟨bS, offS, hAS, hbS, hcS⟩ := rdF HRD.out HL.out (by omega)
          rw [hAS]
          have hkl : k < L.length := by rw [HL.out]; exact hlt
          have hcy := hcS k hkl
          have hoky := HOK.out _ (List.getElem_mem hkl)
          have hy20 := HY20.out _ (List.getElem_mem hkl)
          obtain ⟨y, hy⟩ : ∃ y, L[k]'hkl = y := ⟨_, rfl⟩
          rw [hy] at hcy hoky hy20
          have HCY := Lib.hid hcy
          have HOY := Lib.hid (And.intro hoky hy20)
          have HBS := Lib.hid hbS
          have HKN : Hid (k ≤ 60 ∧ k < n) := Lib.hid (by have := HN60.out; omega)
          have i0 : (0 : Int) ≤ (k : Int) := by omega
          have i1 : (k : Int) < (n : Int) := by omega
          have m64 : IntKind.i64.wrap q = q := IntWalk.i64_in _ (by have := HQ.out; omega)
          clear hAS hbS hcS hkl hcy hoky hy20 hy
          go_upto_if 65 with fail
          go_cut [12, 13] from 65 to 69 (fun u12 u13 wx => ∃ bc bd : Nat, u12 = .pointer (some ⟨bc, 0, none⟩) ∧ u13 = .pointer (some ⟨bd, 0, none⟩) ∧ Hid (PLoop w wx bl bt bc bd k))
          case first =>
            by_cases hq : (k : Int) = q
            · have hq2 : ((k : Int) == q) = true := by rw [beq_iff_eq]; exact hq
              obtain ⟨cl, ml, ct, mt, cc, mc, cd, md, l, C, hP, hI, hC⟩ := HPL.out
              have HP := Lib.hid hP
              have HI := Lib.hid hI
              have HC1 := Lib.hid (cloneL_any bl cl ml l wr hP.l (HTT.out.below hP.b) ((RG.of HTT.out).below hP.b))
              clear hP hI hC hq
              go_wp2_with (first
                | (go_at_call 17; refine HC1.out.mono ?_; rintro e w4 ⟨bc', cc', mc', rfl, hl4, hc4, hb4⟩; have HL4 := Lib.hid (And.intro hl4 (And.intro hc4 hb4)); clear hl4 hc4 hb4)
                | (go_at_call 18; refine (rclone_any bt ct mt l w4 (HP.out.t.below HL4.out.2.2) (HTT.out.below (HP.out.below HL4.out.2.2).b) (HRT.out.below (HP.out.below HL4.out.2.2).b)).mono ?_; rintro e w5 ⟨bd', cd', md', rfl, hl5, hc5, h65, hb5⟩; have HL5 := Lib.hid (And.intro hl5 (And.intro hc5 hb5)); clear hl5 hc5 h65 hb5))
              go_meet
              exact ⟨bc', bd', rfl, rfl, Lib.hid ⟨cl, ml, ct, mt, cc', mc', cd', md', l, l, HP.out.copyC (HL4.out.2.2.trans (HL5.out.2.2.mono HL4.out.2.2.size)) (HL4.out.1.below HL5.out.2.2) HL5.out.1 HL4.out.2.1 (fun b hb => (HL5.out.2.1 b hb).imp (fun h => Nat.le_trans HL4.out.2.2.size h) id), HI.out, inv_big HI.out HKN.out.1⟩⟩
            · have hq2 : ((k : Int) == q) = false := by rw [beq_eq_false_iff_ne]; exact hq
              clear hq
              go_wp2_with fail
              go_meet
              exact ⟨bc, bd, rfl, rfl, HPL⟩
          case rest =>
            clear HPL
            obtain ⟨bc, bd, rfl, rfl, HPL⟩ := hcut
            obtain ⟨w15, hw15⟩ : ∃ x, wc = x := ⟨_, rfl⟩
            try rw [hw15] at HPL ⊢
            clear hw15 m64
            obtain ⟨cl, ml, ct, mt, cc, mc, cd, md, l, C, hP, hI, hC⟩ := HPL.out
            have HP := Lib.hid hP
            have HI := Lib.hid hI
            have HC := Lib.hid hC
            have hrg : w15.rangeAt bS (offS + k * 5) (bkc y) := fun j v hv => (hP.b.cell (p := ⟨bS, offS + k * 5 + j, none⟩) HBS.out).trans (HCY.out j v hv)
            have HIB := Lib.hid (inv_big hI HKN.out.1)
            have HDO := Lib.hid (do_any bl cl ml l y (by have := HOY.out.2; omega) w.heap.size w15 (bkok_below HOY.out.1 hP.b) hP.l hI.ok HIB.out.sm (HTT.out.below hP.b) ((RG.of HTT.out).below hP.b) hP.b.size (bk_far2 HOY.out.1 hP.fl))
            obtain ⟨er, her⟩ : ∃ er, Bil.doErr l y.x = er := ⟨_, rfl⟩
            have HER := Lib.hid her
            clear hP hI hC her HPL
            go_upto_region 16 with fail
            go_cut [15, 16] from 70 to 78 (fun u15 u16 wx => ∃ b15 La cl' ml', u15 = .pointer (some ⟨b15, 0, none⟩) ∧ u16 = .int .i64 er ∧ Hid (PIn w wx bl bt bc bd cl' ml' ct mt cc mc cd md (Bil.doSt l y.x) l C ∧ IsRow wx b15 31 La ∧ La.length = 6 ∧ PBill wx w15.heap.size (.agg La.toArray) (Bil.outB l y.x) ∧ w15.heap.size ≤ b15 ∧ w15.heap.size ≤ wx.heap.size))
            case first =>
              go_wp2_with (first
                | (refine wpList_load_mid rfl _ (.tmp 74) rfl bS (offS + k * 5) rfl (bkc y) _ hrg Tryd.underlying35 rfl (by kernel_rfl) ?_)
                | (go_at_call 12; refine HDO.out.mono ?_; rintro e w4 ⟨v, cl', ml', rfl, h1, h2, hl', hk', hc'⟩; rw [HER.out]; have hpb := PBill.of h1 h2; obtain ⟨La, rfl, la6, la1⟩ := (hpb.rv).form; have HPB := Lib.hid hpb; have HL4 := Lib.hid (HP.out.turnL hk' hl' hc'); have HK4 := Lib.hid hk'.size; clear h1 h2 hl' hk' hc' hpb)
                | (have hgd := r5; refine wpList_storeRow rfl _ (.tmp 15) (.tmp 77) rfl (l' := La) r5 rfl rfl (by rw [la6]; exact size6) (by rw [la6]; rfl) la1 ?_; intro w6 r6 g6 z6)
                | (refine wpList_allocRow rfl _ rfl _ info6 ?_; intro w5 r5 b5 z5))
              have hz4 := HK4.out
              have hzw := HP.out.b.size
              have hp5 := HL4.out.below b5
              have hp6 := hp5.store (HL4.out.zero (Nat.le_refl _)) (by omega) g6
              have hk6 : Keep (fun q => q = w4.heap.size) w4 w6 := (Keep.of_below b5).grown g6 fun k e => .inl (Option.some.inj e).symm
              have hpb6 := HPB.out.keeps hk6 (fun b _ hb e => by omega)
              have HF := Lib.hid (And.intro hp6 (And.intro r6 (And.intro la6 (And.intro hpb6 (And.intro hz4 (show w15.heap.size ≤ w6.heap.size from Nat.le_trans hz4 hk6.size))))))
              clear hz4 hzw hp5 hp6 hk6 hpb6 r5 r6 b5 g6 z5 z6
              go_meet
              exact ⟨_, La, cl', ml', rfl, rfl, HF⟩
            case rest =>
              obtain ⟨b15, La, cl', ml', rfl, rfl, H16⟩ := hcut
              obtain ⟨w16, hw16⟩ : ∃ x, wc = x := ⟨_, rfl⟩
              try rw [hw16] at H16 ⊢
              clear hw16 hrg HDO
              have HP16 := Lib.hid H16.out.1
              have HBO := Lib.hid (bkok_below HOY.out.1 HP16.out.b)
              have HTT16 := Lib.hid (HTT.out.below HP16.out.b)
              have HRT16 := Lib.hid (HRT.out.below HP16.out.b)
              have HIS := Lib.hid (inv_k2 (Bil.inv_do HI.out y.x))
              have hkc : w16.cell? ⟨bS, offS + k * 5, none⟩ = some (.int .i64 y.x.kind) := (HP16.out.b.cell (p := ⟨bS, offS + k * 5, none⟩) HBS.out).trans (HCY.out 0 _ rfl)
              have hk60 : k < 61 := by have := HKN.out; omega
              by_cases hkd : y.x.kind = 1
              · rw [hkd] at hkc
                have HKD := Lib.hid hkd
                have HSC : Hid (∀ W, Keep (fun q => ct q ≠ 0 ∧ ct q ≠ 6) w16 W → W.cell? ⟨bS, offS + k * 5 + 1, none⟩ = some (.int .i64 y.x.a) ∧ W.cell? ⟨bS, offS + k * 5 + 2, none⟩ = some (.int .i64 y.x.b) ∧ W.cell? ⟨bS, offS + k * 5 + 4, none⟩ = some (.slice y.A y.n y.c)) := Lib.hid (fun W hW => by
                  have hs : ∀ o, W.cell? ⟨bS, o, none⟩ = w.cell? ⟨bS, o, none⟩ := fun o => (World.cell?_of_block (hW.block bS (by have := HBS.out; have := HP16.out.b.size; omega) (fun e => by have := HP16.out.ft bS e.1; have := HBS.out; omega))).trans (World.cell?_of_block (HP16.out.b.block bS HBS.out))
                  exact ⟨(hs _).trans (HCY.out 1 _ rfl), (hs _).trans (HCY.out 2 _ rfl), (hs _).trans (HCY.out 4 _ rfl)⟩)
                have HCL := Lib.hid (fun W (hW : Below w16.heap.size w16 W) => rclose_any bt ct mt l y.x hkd HBO.out.b y.A y.n y.c HBO.out.len (by have := HOY.out.2; omega) w.heap.size W (HP16.out.t.below hW) HI.out.ok HIB.out.sm (HRT16.out.below hW) (HTT16.out.below hW) (HBO.out.rd.below (hW.mono HP16.out.b.size)) (Nat.le_trans HP16.out.b.size hW.size) (bk_far2 HOY.out.1 HP16.out.ft))
                clear hkd
                go_upto_region 18 with fail
                go_cut [17, 18] from 85 to 104 (fun u17 u18 wx => ∃ b17 Lb ct' mt', u17 = .pointer (some ⟨b17, 0, none⟩) ∧ u18 = .int .i64 er ∧ Hid (PIn w wx bl bt bc bd cl' ml' ct' mt' cc mc cd md (Bil.doSt l y.x) (Bil.doSt l y.x) C ∧ IsRow wx b15 31 La ∧ RBillV wx (.agg La.toArray) (Bil.outB l y.x) ∧ IsRow wx b17 31 Lb ∧ Lb.length = 6 ∧ RBillV wx (.agg Lb.toArray) (Bil.outB l y.x)))
                case first =>
                  have hbl0 : Below w16.heap.size w16 w16.drew := (Below.refl _ _).drew
                  go_wp2_with fail
                  have hv0 : Keep (fun q => ct q ≠ 0 ∧ ct q ≠ 6) w16 w16.drew := Keep.of_below (Below.refl _ _).drew
                  refine wp_region_held_drew (S := fun W => Keep (fun q => ct q ≠ 0 ∧ ct q ≠ 6) w16 W) (by kernel_rfl) (hv0) (fun hHeld => ?_)
                  obtain ⟨wd, hwd⟩ : ∃ x, w16.drew = x := ⟨_, rfl⟩
                  rw [hwd] at hv0 hHeld hbl0 ⊢
                  clear hwd
                  refine wpAnyH_take (i := 0) (oi := { dst := some 86, op := Op.move (Operand.tmp 10), type := 40, pos := "law.go:72", after := #[], guard := none }) (v := ?v0_1801) rfl (by kernel_rfl) (by kernel_rfl) (by kernel_rfl) (fun _ _ _ h => h) (Or.inl ⟨by rfl, ?h0_1801⟩) (by assumption) ?r0_1801
                  case h0_1801 =>
                    intro W hSW
                    try dsimp only at hSW
                    go_simp
                    try with_reducible rfl
                  try simp only [Act.put, List.setIfInBounds_toArray, List.set_cons_zero, List.set_cons_succ]
                  refine wpAnyH_take (i := 1) (oi := { dst := some 87, op := Op.move (Operand.tmp 1), type := 22, pos := "law.go:72", after := #[], guard := none }) (v := ?v1_1802) rfl (by kernel_rfl) (by kernel_rfl) (by kernel_rfl) (fun _ _ _ h => h) (Or.inl ⟨by rfl, ?h1_1802⟩) (by assumption) ?r1_1802
                  case h1_1802 =>
                    intro W hSW
                    try dsimp only at hSW
                    go_simp
                    try with_reducible rfl
                  try simp only [Act.put, List.setIfInBounds_toArray, List.set_cons_zero, List.set_cons_succ]
                  refine wpAnyH_take (i := 2) (oi := { dst := some 88, op := Op.move (Operand.tmp 14), type := 3, pos := "law.go:72", after := #[], guard := none }) (v := ?v2_1803) rfl (by kernel_rfl) (by kernel_rfl) (by kernel_rfl) (fun _ _ _ h => h) (Or.inl ⟨by rfl, ?h2_1803⟩) (by assumption) ?r2_1803
                  case h2_1803 =>
                    intro W hSW
                    try dsimp only at hSW
                    go_simp
                    try with_reducible rfl
                  try simp only [Act.put, List.setIfInBounds_toArray, List.set_cons_zero, List.set_cons_succ]
                  refine wpAnyH_take (i := 3) (oi := { dst := some 89, op := Op.indexAddr 22 (Operand.tmp 87) (Operand.tmp 88), type := 0, pos := "law.go:72", after := #[{ on := 1, ground := Ground.data }, { on := 2, ground := Ground.data }], guard := none }) (v := ?v3_1804) rfl (by kernel_rfl) (by kernel_rfl) (by kernel_rfl) (fun _ _ _ h => h) (Or.inl ⟨by rfl, ?h3_1804⟩) (by assumption) ?r3_1804
                  case h3_1804 =>
                    intro W hSW
                    try dsimp only at hSW
                    go_simp
                    try with_reducible rfl
                  try simp only [Act.put, List.setIfInBounds_toArray, List.set_cons_zero, List.set_cons_succ]
                  refine wpAnyH_take (i := 4) (oi := { dst := some 90, op := Op.fieldAddr 35 (Operand.tmp 89) 1, type := 0, pos := "law.go:72", after := #[{ on := 3, ground := Ground.data }], guard := none }) (v := ?v4_1805) rfl (by kernel_rfl) (by kernel_rfl) (by kernel_rfl) (fun _ _ _ h => h) (Or.inl ⟨by rfl, ?h4_1805⟩) (by assumption) ?r4_1805
                  case h4_1805 =>
                    intro W hSW
                    try dsimp only at hSW
                    go_simp
                    try with_reducible rfl
                  try simp only [Act.put, List.setIfInBounds_toArray, List.set_cons_zero, List.set_cons_succ]
                  refine wpAnyH_take (i := 5) (oi := { dst := some 91, op := Op.load 3 (Operand.tmp 90), type := 3, pos := "law.go:72", after := #[{ on := 4, ground := Ground.data }], guard := none }) (v := ?v5_1806) rfl (by kernel_rfl) (by kernel_rfl) (by kernel_rfl) (fun _ _ _ h => h) (Or.inl ⟨by rfl, ?h5_1806⟩) (by assumption) ?r5_1806
                  case h5_1806 =>
                    intro W hSW
                    try dsimp only at hSW
                    have hcc := (HSC.out W hSW).1
                    go_simp
                    try with_reducible rfl
                  try simp only [Act.put, List.setIfInBounds_toArray, List.set_cons_zero, List.set_cons_succ]
                  refine wpAnyH_take (i := 6) (oi := { dst := some 92, op := Op.move (Operand.tmp 1), type := 22, pos := "law.go:72", after := #[], guard := none }) (v := ?v6_1807) rfl (by kernel_rfl) (by kernel_rfl) (by kernel_rfl) (fun _ _ _ h => h) (Or.inl ⟨by rfl, ?h6_1807⟩) (by assumption) ?r6_1807
                  case h6_1807 =>
                    intro W hSW
                    try dsimp only at hSW
                    go_simp
                    try with_reducible rfl
                  try simp only [Act.put, List.setIfInBounds_toArray, List.set_cons_zero, List.set_cons_succ]
                  refine wpAnyH_take (i := 7) (oi := { dst := some 93, op := Op.move (Operand.tmp 14), type := 3, pos := "law.go:72", after := #[], guard := none }) (v := ?v7_1808) rfl (by kernel_rfl) (by kernel_rfl) (by kernel_rfl) (fun _ _ _ h => h) (Or.inl ⟨by rfl, ?h7_1808⟩) (by assumption) ?r7_1808
                  case h7_1808 =>
                    intro W hSW
                    try dsimp only at hSW
                    go_simp
                    try with_reducible rfl
                  try simp only [Act.put, List.setIfInBounds_toArray, List.set_cons_zero, List.set_cons_succ]
                  refine wpAnyH_take (i := 8) (oi := { dst := some 94, op := Op.indexAddr 22 (Operand.tmp 92) (Operand.tmp 93), type := 0, pos := "law.go:72", after := #[{ on := 6, ground := Ground.data }, { on := 7, ground := Ground.data }], guard := none }) (v := ?v8_1809) rfl (by kernel_rfl) (by kernel_rfl) (by kernel_rfl) (fun _ _ _ h => h) (Or.inl ⟨by rfl, ?h8_1809⟩) (by assumption) ?r8_1809
                  case h8_1809 =>
                    intro W hSW
                    try dsimp only at hSW
                    go_simp
                    try with_reducible rfl
                  try simp only [Act.put, List.setIfInBounds_toArray, List.set_cons_zero, List.set_cons_succ]
                  refine wpAnyH_take (i := 9) (oi := { dst := some 95, op := Op.fieldAddr 35 (Operand.tmp 94) 2, type := 0, pos := "law.go:72", after := #[{ on := 8, ground := Ground.data }], guard := none }) (v := ?v9_1810) rfl (by kernel_rfl) (by kernel_rfl) (by kernel_rfl) (fun _ _ _ h => h) (Or.inl ⟨by rfl, ?h9_1810⟩) (by assumption) ?r9_1810
                  case h9_1810 =>
                    intro W hSW
                    try dsimp only at hSW
                    go_simp
                    try with_reducible rfl
                  try simp only [Act.put, List.setIfInBounds_toArray, List.set_cons_zero, List.set_cons_succ]
                  refine wpAnyH_take (i := 10) (oi := { dst := some 96, op := Op.load 3 (Operand.tmp 95), type := 3, pos := "law.go:72", after := #[{ on := 9, ground := Ground.data }], guard := none }) (v := ?v10_1811) rfl (by kernel_rfl) (by kernel_rfl) (by kernel_rfl) (fun _ _ _ h => h) (Or.inl ⟨by rfl, ?h10_1811⟩) (by assumption) ?r10_1811
                  case h10_1811 =>
                    intro W hSW
                    try dsimp only at hSW
                    have hcc := (HSC.out W hSW).2.1
                    go_simp
                    try with_reducible rfl
                  try simp only [Act.put, List.setIfInBounds_toArray, List.set_cons_zero, List.set_cons_succ]
                  refine wpAnyH_take (i := 11) (oi := { dst := some 97, op := Op.move (Operand.tmp 1), type := 22, pos := "law.go:72", after := #[], guard := none }) (v := ?v11_1812) rfl (by kernel_rfl) (by kernel_rfl) (by kernel_rfl) (fun _ _ _ h => h) (Or.inl ⟨by rfl, ?h11_1812⟩) (by assumption) ?r11_1812
                  case h11_1812 =>
                    intro W hSW
                    try dsimp only at hSW
                    go_simp
                    try with_reducible rfl
                  try simp only [Act.put, List.setIfInBounds_toArray, List.set_cons_zero, List.set_cons_succ]
                  refine wpAnyH_take (i := 12) (oi := { dst := some 98, op := Op.move (Operand.tmp 14), type := 3, pos := "law.go:72", after := #[], guard := none }) (v := ?v12_1813) rfl (by kernel_rfl) (by kernel_rfl) (by kernel_rfl) (fun _ _ _ h => h) (Or.inl ⟨by rfl, ?h12_1813⟩) (by assumption) ?r12_1813
                  case h12_1813 =>
                    intro W hSW
                    try dsimp only at hSW
                    go_simp
                    try with_reducible rfl
                  try simp only [Act.put, List.setIfInBounds_toArray, List.set_cons_zero, List.set_cons_succ]
                  refine wpAnyH_take (i := 13) (oi := { dst := some 99, op := Op.indexAddr 22 (Operand.tmp 97) (Operand.tmp 98), type := 0, pos := "law.go:72", after := #[{ on := 11, ground := Ground.data }, { on := 12, ground := Ground.data }], guard := none }) (v := ?v13_1814) rfl (by kernel_rfl) (by kernel_rfl) (by kernel_rfl) (fun _ _ _ h => h) (Or.inl ⟨by rfl, ?h13_1814⟩) (by assumption) ?r13_1814
                  case h13_1814 =>
                    intro W hSW
                    try dsimp only at hSW
                    go_simp
                    try with_reducible rfl
                  try simp only [Act.put, List.setIfInBounds_toArray, List.set_cons_zero, List.set_cons_succ]
                  refine wpAnyH_take (i := 14) (oi := { dst := some 100, op := Op.fieldAddr 35 (Operand.tmp 99) 4, type := 0, pos := "law.go:72", after := #[{ on := 13, ground := Ground.data }], guard := none }) (v := ?v14_1815) rfl (by kernel_rfl) (by kernel_rfl) (by kernel_rfl) (fun _ _ _ h => h) (Or.inl ⟨by rfl, ?h14_1815⟩) (by assumption) ?r14_1815
                  case h14_1815 =>
                    intro W hSW
                    try dsimp only at hSW
                    go_simp
                    try with_reducible rfl
                  try simp only [Act.put, List.setIfInBounds_toArray, List.set_cons_zero, List.set_cons_succ]
                  refine wpAnyH_take (i := 15) (oi := { dst := some 101, op := Op.load 29 (Operand.tmp 100), type := 29, pos := "law.go:72", after := #[{ on := 14, ground := Ground.data }], guard := none }) (v := ?v15_1816) rfl (by kernel_rfl) (by kernel_rfl) (by kernel_rfl) (fun _ _ _ h => h) (Or.inl ⟨by rfl, ?h15_1816⟩) (by assumption) ?r15_1816
                  case h15_1816 =>
                    intro W hSW
                    try dsimp only at hSW
                    have hcc := (HSC.out W hSW).2.2
                    go_simp
                    try with_reducible rfl
                  try simp only [Act.put, List.setIfInBounds_toArray, List.set_cons_zero, List.set_cons_succ]
                  refine wpAnyH_ready (rs := [16, 20]) (by kernel_rfl) (by simp) ?_
                  refine AllReadyH.cons (o := { dst := some 102, op := Op.call { callee := Callee.value (Operand.func 19), args := #[Operand.tmp 86, Operand.tmp 91, Operand.tmp 96, Operand.tmp 101], argTypes := #[40, 3, 3, 29] }, type := 32, pos := "law.go:72", after := #[{ on := 0, ground := Ground.data }, { on := 5, ground := Ground.data }, { on := 10, ground := Ground.data }, { on := 15, ground := Ground.data }], guard := none }) rfl (fun K hK => ?_) ?_
                  · skip
                    go_simp
                    have hbw : Below w16.heap.size w16 wd := by first | exact hblA | exact hbl0
                    refine (HCL.out _ hbw).mono ?_
                    rintro e w100 ⟨v, ct', mt', rfl, hvb, hT', hkk, hcc', h66⟩
                    obtain ⟨Lb, rfl, lb6, lb1⟩ := hvb.rv.form
                    try rw [HER.out]
                    have HPT := Lib.hid (PIn.turnT (HP16.out.below hbw) hkk hT' hcc' h66)
                    have HVB := Lib.hid hvb
                    try have hz17 : cl' b17 = 0 ∧ ct' b17 = 0 ∧ cc b17 = 0 ∧ cd b17 = 0 := (by have hz := HP16.out.zero h17; refine ⟨hz.1, ?_, hz.2.2.1, hz.2.2.2⟩; rcases Nat.eq_zero_or_pos (ct' b17) with h0 | h0; (· exact h0); rcases hcc' b17 (by omega) with h1 | h1; (· omega); have := r17.lt; omega)
                    try have r17 := r17.keep (hkk.block b17 r17.lt (fun e => by have := (HP16.out.zero h17).2.1; omega))
                    have hv100 : Keep (fun q => ct q ≠ 0 ∧ ct q ≠ 6) w16 w100 := (Keep.of_below hbw).trans hkk
                    clear hvb hT' hkk hcc' h66 hbw
                    refine hK.out _ _ (hv100) (fun hHeld => ?_)
                    clear hK K
                    try simp only [Act.put, List.setIfInBounds_toArray, List.set_cons_zero, List.set_cons_succ]
                    refine wpAnyH_take (i := 17) (oi := { dst := some 85, op := Op.move (Operand.tmp 102), type := 32, pos := "law.go:72", after := #[{ on := 16, ground := Ground.data }], guard := none }) (v := ?v17_1817) rfl (by kernel_rfl) (by kernel_rfl) (by kernel_rfl) (fun _ _ _ h => h) (Or.inl ⟨by rfl, ?h17_1817⟩) (by assumption) ?r17_1817
                    case h17_1817 =>
                      intro W hSW
                      try dsimp only at hSW
                      go_simp
                      try with_reducible rfl
                    try simp only [Act.put, List.setIfInBounds_toArray, List.set_cons_zero, List.set_cons_succ]
                    refine wpAnyH_take (i := 18) (oi := { dst := some 103, op := Op.extract (Operand.tmp 85) 0, type := 31, pos := "law.go:72", after := #[{ on := 17, ground := Ground.data }], guard := none }) (v := ?v18_1818) rfl (by kernel_rfl) (by kernel_rfl) (by kernel_rfl) (fun _ _ _ h => h) (Or.inl ⟨by rfl, ?h18_1818⟩) (by assumption) ?r18_1818
                    case h18_1818 =>
                      intro W hSW
                      try dsimp only at hSW
                      go_simp
                      try with_reducible rfl
                    try simp only [Act.put, List.setIfInBounds_toArray, List.set_cons_zero, List.set_cons_succ]
                    refine wpAnyH_take (i := 19) (oi := { dst := some 104, op := Op.extract (Operand.tmp 85) 1, type := 26, pos := "law.go:72", after := #[{ on := 17, ground := Ground.data }, { on := 21, ground := Ground.gcOnly Departure.lateStores }], guard := none }) (v := ?v19_1819) rfl (by kernel_rfl) (by kernel_rfl) (by kernel_rfl) (fun _ _ _ h => h) (Or.inl ⟨by rfl, ?h19_1819⟩) (by assumption) ?r19_1819
                    case h19_1819 =>
                      intro W hSW
                      try dsimp only at hSW
                      go_simp
                      try with_reducible rfl
                    try simp only [Act.put, List.setIfInBounds_toArray, List.set_cons_zero, List.set_cons_succ]
                    refine wpAnyH_ready (rs := [20]) (by kernel_rfl) (by simp) ?_
                    refine AllReadyH.cons (o := { dst := some 17, op := Op.alloc 31, type := 0, pos := "law.go:72", after := #[], guard := none }) rfl (fun K hK => ?_) AllReadyH.nil
                    go_simp
                    obtain ⟨b17, hb17⟩ : ∃ x, w100.heap.size = x := ⟨_, rfl⟩
                    have r17 := IsRow.new w100 31 Z6
                    obtain ⟨w101, hw101⟩ : ∃ x, w100.alloc (.cells #[.int .i64 0, .int .i64 0, .int .i64 0, .slice none 0 0, .slice none 0 0, .slice none 0 0] 31) = x := ⟨_, rfl⟩
                    rw [show Z6.toArray = #[.int .i64 0, .int .i64 0, .int .i64 0, .slice none 0 0, .slice none 0 0, .slice none 0 0] from rfl, hw101, hb17] at r17
                    rw [hw101, hb17]
                    have bA : Below w100.heap.size w100 w101 := by rw [← hw101]; exact (Below.refl _ _).alloc (Nat.le_refl _) _
                    have h17 : w16.heap.size ≤ b17 := by rw [← hb17]; exact hv100.size
                    have hv101 : Keep (fun q => ct q ≠ 0 ∧ ct q ≠ 6) w16 w101 := (hv100).then_below bA
                    try have hz17 : cl' b17 = 0 ∧ ct' b17 = 0 ∧ cc b17 = 0 ∧ cd b17 = 0 := HPT.out.zero (Nat.le_of_eq hb17)
                    try have HVB := Lib.hid (HVB.out.keeps (S := fun _ => False) (Keep.of_below bA) (fun _ h => h.elim))
                    try have HPT := Lib.hid (HPT.out.below bA)
                    try have hblA : Below w16.heap.size w16 w101 := hbl0.trans (bA.mono hbl0.size)
                    clear hw101 hb17 bA
                    refine hK.out _ _ (hv101) (fun hHeld => ?_)
                    clear hK K
                    try simp only [Act.put, List.setIfInBounds_toArray, List.set_cons_zero, List.set_cons_succ]
                    refine wpAnyH_ready (rs := [21]) (by kernel_rfl) (by simp) ?_
                    refine AllReadyH.cons (o := { dst := none, op := Op.store 31 (Operand.tmp 17) (Operand.tmp 103), type := 0, pos := "law.go:72", after := #[{ on := 20, ground := Ground.data }, { on := 18, ground := Ground.data }, { on := 16, ground := Ground.chain }, { on := 0, ground := Ground.phase }, { on := 1, ground := Ground.phase }, { on := 2, ground := Ground.phase }, { on := 3, ground := Ground.phase }, { on := 4, ground := Ground.phase }, { on := 5, ground := Ground.phase }, { on := 6, ground := Ground.phase }, { on := 7, ground := Ground.phase }, { on := 8, ground := Ground.phase }, { on := 9, ground := Ground.phase }, { on := 10, ground := Ground.phase }, { on := 11, ground := Ground.phase }, { on := 12, ground := Ground.phase }, { on := 13, ground := Ground.phase }, { on := 14, ground := Ground.phase }, { on := 15, ground := Ground.phase }, { on := 16, ground := Ground.phase }, { on := 17, ground := Ground.phase }, { on := 18, ground := Ground.phase }, { on := 19, ground := Ground.textOnly Departure.lateStores }, { on := 20, ground := Ground.phase }], guard := none }) rfl (fun K hK => ?_) AllReadyH.nil
                    rw [if_pos (by rfl)]
                    refine wp_storeRow 31 (.tmp 17) (.tmp 103) rfl (l' := Lb) r17 rfl rfl (by rw [lb6]; exact size6) (by rw [lb6]; rfl) lb1 ?_
                    intro w102 r17b g17 z17
                    have hv102 : Keep (fun q => ct q ≠ 0 ∧ ct q ≠ 6) w16 w102 := (hv101).grown g17 (fun k e => .inr (by have := Option.some.inj e; omega))
                    refine hK.out _ _ (hv102) (fun hHeld => ?_)
                    clear hK K
                    try simp only [Act.put, List.setIfInBounds_toArray, List.set_cons_zero, List.set_cons_succ]
                    refine wpAnyH_take (i := 22) (oi := { dst := some 18, op := Op.assign (Operand.tmp 104), type := 26, pos := "law.go:72", after := #[{ on := 19, ground := Ground.data }, { on := 21, ground := Ground.chain }, { on := 0, ground := Ground.phase }, { on := 1, ground := Ground.phase }, { on := 2, ground := Ground.phase }, { on := 3, ground := Ground.phase }, { on := 4, ground := Ground.phase }, { on := 5, ground := Ground.phase }, { on := 6, ground := Ground.phase }, { on := 7, ground := Ground.phase }, { on := 8, ground := Ground.phase }, { on := 9, ground := Ground.phase }, { on := 10, ground := Ground.phase }, { on := 11, ground := Ground.phase }, { on := 12, ground := Ground.phase }, { on := 13, ground := Ground.phase }, { on := 14, ground := Ground.phase }, { on := 15, ground := Ground.phase }, { on := 16, ground := Ground.phase }, { on := 17, ground := Ground.phase }, { on := 18, ground := Ground.phase }, { on := 19, ground := Ground.phase }, { on := 20, ground := Ground.phase }, { on := 21, ground := Ground.phase }], guard := none }) (v := ?v22_1820) rfl (by kernel_rfl) (by kernel_rfl) (by kernel_rfl) (fun _ _ _ h => h) (Or.inl ⟨by rfl, ?h22_1820⟩) (by assumption) ?r22_1820
                    case h22_1820 =>
                      intro W hSW
                      try dsimp only at hSW
                      go_simp
                      try with_reducible rfl
                    try simp only [Act.put, List.setIfInBounds_toArray, List.set_cons_zero, List.set_cons_succ]
                    refine wpAnyH_done (by kernel_rfl) ?_ _
                    have hzz := HP16.out.b.size
                    have hpt := HPT.out.store hz17 (by omega) g17
                    have hvb := HVB.out.keeps (S := fun k => k = b17) (Keep.of_grown g17 fun k e => (Option.some.inj e).symm) (fun b e => by subst e; exact hz17.2.1)
                    have hctl : ∀ b, ct b ≠ 0 → b < w15.heap.size := HP.out.t.lt
                    have hr15 := H16.out.2.1.keep (hv102.block b15 H16.out.2.1.lt (fun e => by have := hctl b15 e.1; have := H16.out.2.2.2.2.1; omega))
                    have hpa := H16.out.2.2.2.1.keeps hv102 (fun b hb _ e => by have := hctl b e.1; omega)
                    have HFI := Lib.hid (And.intro hpt (And.intro hr15 (And.intro hpa.rv (And.intro r17b (And.intro lb6 hvb.rv)))))
                    clear hv102 hpt hvb hctl hr15 hpa r17b g17 z17 r17 h17 hz17 hzz
                    go_wp2_with fail
                    go_meet
                    exact ⟨b17, Lb, ct', mt', rfl, rfl, HFI⟩
                  · skip
                    refine AllReadyH.cons (o := { dst := some 17, op := Op.alloc 31, type := 0, pos := "law.go:72", after := #[], guard := none }) rfl (fun K hK => ?_) AllReadyH.nil
                    go_simp
                    obtain ⟨b17, hb17⟩ : ∃ x, wd.heap.size = x := ⟨_, rfl⟩
                    have r17 := IsRow.new wd 31 Z6
                    obtain ⟨w100, hw100⟩ : ∃ x, wd.alloc (.cells #[.int .i64 0, .int .i64 0, .int .i64 0, .slice none 0 0, .slice none 0 0, .slice none 0 0] 31) = x := ⟨_, rfl⟩
                    rw [show Z6.toArray = #[.int .i64 0, .int .i64 0, .int .i64 0, .slice none 0 0, .slice none 0 0, .slice none 0 0] from rfl, hw100, hb17] at r17
                    rw [hw100, hb17]
                    have bA : Below wd.heap.size wd w100 := by rw [← hw100]; exact (Below.refl _ _).alloc (Nat.le_refl _) _
                    have h17 : w16.heap.size ≤ b17 := by rw [← hb17]; exact hv0.size
                    have hv100 : Keep (fun q => ct q ≠ 0 ∧ ct q ≠ 6) w16 w100 := (hv0).then_below bA
                    try have hz17 : cl' b17 = 0 ∧ ct' b17 = 0 ∧ cc b17 = 0 ∧ cd b17 = 0 := HPT.out.zero (Nat.le_of_eq hb17)
                    try have HVB := Lib.hid (HVB.out.keeps (S := fun _ => False) (Keep.of_below bA) (fun _ h => h.elim))
                    try have HPT := Lib.hid (HPT.out.below bA)
                    try have hblA : Below w16.heap.size w16 w100 := hbl0.trans (bA.mono hbl0.size)
                    clear hw100 hb17 bA
                    refine hK.out _ _ (hv100) (fun hHeld => ?_)
                    clear hK K
                    try simp only [Act.put, List.setIfInBounds_toArray, List.set_cons_zero, List.set_cons_succ]
                    refine wpAnyH_ready (rs := [16]) (by kernel_rfl) (by simp) ?_
                    refine AllReadyH.cons (o := { dst := some 102, op := Op.call { callee := Callee.value (Operand.func 19), args := #[Operand.tmp 86, Operand.tmp 91, Operand.tmp 96, Operand.tmp 101], argTypes := #[40, 3, 3, 29] }, type := 32, pos := "law.go:72", after := #[{ on := 0, ground := Ground.data }, { on := 5, ground := Ground.data }, { on := 10, ground := Ground.data }, { on := 15, ground := Ground.data }], guard := none }) rfl (fun K hK => ?_) AllReadyH.nil
                    go_simp
                    have hbw : Below w16.heap.size w16 w100 := by first | exact hblA | exact hbl0
                    refine (HCL.out _ hbw).mono ?_
                    rintro e w101 ⟨v, ct', mt', rfl, hvb, hT', hkk, hcc', h66⟩
                    obtain ⟨Lb, rfl, lb6, lb1⟩ := hvb.rv.form
                    try rw [HER.out]
                    have HPT := Lib.hid (PIn.turnT (HP16.out.below hbw) hkk hT' hcc' h66)
                    have HVB := Lib.hid hvb
                    try have hz17 : cl' b17 = 0 ∧ ct' b17 = 0 ∧ cc b17 = 0 ∧ cd b17 = 0 := (by have hz := HP16.out.zero h17; refine ⟨hz.1, ?_, hz.2.2.1, hz.2.2.2⟩; rcases Nat.eq_zero_or_pos (ct' b17) with h0 | h0; (· exact h0); rcases hcc' b17 (by omega) with h1 | h1; (· omega); have := r17.lt; omega)
                    try have r17 := r17.keep (hkk.block b17 r17.lt (fun e => by have := (HP16.out.zero h17).2.1; omega))
                    have hv101 : Keep (fun q => ct q ≠ 0 ∧ ct q ≠ 6) w16 w101 := (Keep.of_below hbw).trans hkk
                    clear hvb hT' hkk hcc' h66 hbw
                    refine hK.out _ _ (hv101) (fun hHeld => ?_)
                    clear hK K
                    try simp only [Act.put, List.setIfInBounds_toArray, List.set_cons_zero, List.set_cons_succ]
                    refine wpAnyH_take (i := 17) (oi := { dst := some 85, op := Op.move (Operand.tmp 102), type := 32, pos := "law.go:72", after := #[{ on := 16, ground := Ground.data }], guard := none }) (v := ?v17_1821) rfl (by kernel_rfl) (by kernel_rfl) (by kernel_rfl) (fun _ _ _ h => h) (Or.inl ⟨by rfl, ?h17_1821⟩) (by assumption) ?r17_1821
                    case h17_1821 =>
                      intro W hSW
                      try dsimp only at hSW
                      go_simp
                      try with_reducible rfl
                    try simp only [Act.put, List.setIfInBounds_toArray, List.set_cons_zero, List.set_cons_succ]
                    refine wpAnyH_take (i := 18) (oi := { dst := some 103, op := Op.extract (Operand.tmp 85) 0, type := 31, pos := "law.go:72", after := #[{ on := 17, ground := Ground.data }], guard := none }) (v := ?v18_1822) rfl (by kernel_rfl) (by kernel_rfl) (by kernel_rfl) (fun _ _ _ h => h) (Or.inl ⟨by rfl, ?h18_1822⟩) (by assumption) ?r18_1822
                    case h18_1822 =>
                      intro W hSW
                      try dsimp only at hSW
                      go_simp
                      try with_reducible rfl
                    try simp only [Act.put, List.setIfInBounds_toArray, List.set_cons_zero, List.set_cons_succ]
                    refine wpAnyH_take (i := 19) (oi := { dst := some 104, op := Op.extract (Operand.tmp 85) 1, type := 26, pos := "law.go:72", after := #[{ on := 17, ground := Ground.data }, { on := 21, ground := Ground.gcOnly Departure.lateStores }], guard := none }) (v := ?v19_1823) rfl (by kernel_rfl) (by kernel_rfl) (by kernel_rfl) (fun _ _ _ h => h) (Or.inl ⟨by rfl, ?h19_1823⟩) (by assumption) ?r19_1823
                    case h19_1823 =>
                      intro W hSW
                      try dsimp only at hSW
                      go_simp
                      try with_reducible rfl
                    try simp only [Act.put, List.setIfInBounds_toArray, List.set_cons_zero, List.set_cons_succ]
                    refine wpAnyH_ready (rs := [21]) (by kernel_rfl) (by simp) ?_
                    refine AllReadyH.cons (o := { dst := none, op := Op.store 31 (Operand.tmp 17) (Operand.tmp 103), type := 0, pos := "law.go:72", after := #[{ on := 20, ground := Ground.data }, { on := 18, ground := Ground.data }, { on := 16, ground := Ground.chain }, { on := 0, ground := Ground.phase }, { on := 1, ground := Ground.phase }, { on := 2, ground := Ground.phase }, { on := 3, ground := Ground.phase }, { on := 4, ground := Ground.phase }, { on := 5, ground := Ground.phase }, { on := 6, ground := Ground.phase }, { on := 7, ground := Ground.phase }, { on := 8, ground := Ground.phase }, { on := 9, ground := Ground.phase }, { on := 10, ground := Ground.phase }, { on := 11, ground := Ground.phase }, { on := 12, ground := Ground.phase }, { on := 13, ground := Ground.phase }, { on := 14, ground := Ground.phase }, { on := 15, ground := Ground.phase }, { on := 16, ground := Ground.phase }, { on := 17, ground := Ground.phase }, { on := 18, ground := Ground.phase }, { on := 19, ground := Ground.textOnly Departure.lateStores }, { on := 20, ground := Ground.phase }], guard := none }) rfl (fun K hK => ?_) AllReadyH.nil
                    rw [if_pos (by rfl)]
                    refine wp_storeRow 31 (.tmp 17) (.tmp 103) rfl (l' := Lb) r17 rfl rfl (by rw [lb6]; exact size6) (by rw [lb6]; rfl) lb1 ?_
                    intro w102 r17b g17 z17
                    have hv102 : Keep (fun q => ct q ≠ 0 ∧ ct q ≠ 6) w16 w102 := (hv101).grown g17 (fun k e => .inr (by have := Option.some.inj e; omega))
                    refine hK.out _ _ (hv102) (fun hHeld => ?_)
                    clear hK K
                    try simp only [Act.put, List.setIfInBounds_toArray, List.set_cons_zero, List.set_cons_succ]
                    refine wpAnyH_take (i := 22) (oi := { dst := some 18, op := Op.assign (Operand.tmp 104), type := 26, pos := "law.go:72", after := #[{ on := 19, ground := Ground.data }, { on := 21, ground := Ground.chain }, { on := 0, ground := Ground.phase }, { on := 1, ground := Ground.phase }, { on := 2, ground := Ground.phase }, { on := 3, ground := Ground.phase }, { on := 4, ground := Ground.phase }, { on := 5, ground := Ground.phase }, { on := 6, ground := Ground.phase }, { on := 7, ground := Ground.phase }, { on := 8, ground := Ground.phase }, { on := 9, ground := Ground.phase }, { on := 10, ground := Ground.phase }, { on := 11, ground := Ground.phase }, { on := 12, ground := Ground.phase }, { on := 13, ground := Ground.phase }, { on := 14, ground := Ground.phase }, { on := 15, ground := Ground.phase }, { on := 16, ground := Ground.phase }, { on := 17, ground := Ground.phase }, { on := 18, ground := Ground.phase }, { on := 19, ground := Ground.phase }, { on := 20, ground := Ground.phase }, { on := 21, ground := Ground.phase }], guard := none }) (v := ?v22_1824) rfl (by kernel_rfl) (by kernel_rfl) (by kernel_rfl) (fun _ _ _ h => h) (Or.inl ⟨by rfl, ?h22_1824⟩) (by assumption) ?r22_1824
                    case h22_1824 =>
                      intro W hSW
                      try dsimp only at hSW
                      go_simp
                      try with_reducible rfl
                    try simp only [Act.put, List.setIfInBounds_toArray, List.set_cons_zero, List.set_cons_succ]
                    refine wpAnyH_done (by kernel_rfl) ?_ _
                    have hzz := HP16.out.b.size
                    have hpt := HPT.out.store hz17 (by omega) g17
                    have hvb := HVB.out.keeps (S := fun k => k = b17) (Keep.of_grown g17 fun k e => (Option.some.inj e).symm) (fun b e => by subst e; exact hz17.2.1)
                    have hctl : ∀ b, ct b ≠ 0 → b < w15.heap.size := HP.out.t.lt
                    have hr15 := H16.out.2.1.keep (hv102.block b15 H16.out.2.1.lt (fun e => by have := hctl b15 e.1; have := H16.out.2.2.2.2.1; omega))
                    have hpa := H16.out.2.2.2.1.keeps hv102 (fun b hb _ e => by have := hctl b e.1; omega)
                    have HFI := Lib.hid (And.intro hpt (And.intro hr15 (And.intro hpa.rv (And.intro r17b (And.intro lb6 hvb.rv)))))
                    clear hv102 hpt hvb hctl hr15 hpa r17b g17 z17 r17 h17 hz17 hzz
                    go_wp2_with fail
                    go_meet
                    exact ⟨b17, Lb, ct', mt', rfl, rfl, HFI⟩
                case rest =>
                  obtain ⟨b17, Lb, ct', mt', rfl, rfl, H18⟩ := hcut
                  obtain ⟨w18, hw18⟩ : ∃ x, wc = x := ⟨_, rfl⟩
                  try rw [hw18] at H18 ⊢
                  clear hw18 hkc HSC HCL
                  have HLL := Lib.hid (outB_len (l := l) (x := y.x) HP.out.l.lp (by have := HP.out.l.n2; omega))
                  obtain ⟨x0, x1, x2, x3, x4, x5, rfl⟩ := list6 La H16.out.2.2.1
                  obtain ⟨y0, y1, y2, y3, y4, y5, rfl⟩ := list6 Lb H18.out.2.2.2.2.1
                  have HSM := Lib.hid (show Calls Tryd.prog 20 #[.agg #[x0, x1, x2, x3, x4, x5], .agg #[y0, y1, y2, y3, y4, y5]] w18 (fun e w' => e = .returned (.bool true) ∧ Below w18.heap.size w18 w') from rsame_any _ HLL.out _ _ w18 H18.out.2.2.1 H18.out.2.2.2.2.2)
                  have qa0 : w18.cell? ⟨b15, 0, none⟩ = some x0 := H18.out.2.1.cell 0
                  have qb0 : w18.cell? ⟨b17, 0, none⟩ = some y0 := H18.out.2.2.2.1.cell 0
                  have qa1 : w18.cell? ⟨b15, 1, none⟩ = some x1 := H18.out.2.1.cell 1
                  have qb1 : w18.cell? ⟨b17, 1, none⟩ = some y1 := H18.out.2.2.2.1.cell 1
                  have qa2 : w18.cell? ⟨b15, 2, none⟩ = some x2 := H18.out.2.1.cell 2
                  have qb2 : w18.cell? ⟨b17, 2, none⟩ = some y2 := H18.out.2.2.2.1.cell 2
                  have qa3 : w18.cell? ⟨b15, 3, none⟩ = some x3 := H18.out.2.1.cell 3
                  have qb3 : w18.cell? ⟨b17, 3, none⟩ = some y3 := H18.out.2.2.2.1.cell 3
                  have qa4 : w18.cell? ⟨b15, 4, none⟩ = some x4 := H18.out.2.1.cell 4
                  have qb4 : w18.cell? ⟨b17, 4, none⟩ = some y4 := H18.out.2.2.2.1.cell 4
                  have qa5 : w18.cell? ⟨b15, 5, none⟩ = some x5 := H18.out.2.1.cell 5
                  have qb5 : w18.cell? ⟨b17, 5, none⟩ = some y5 := H18.out.2.2.2.1.cell 5
                  go_wp2_with (go_at_call 20; refine HSM.out.mono ?_; rintro e wD ⟨rfl, bD⟩; have HBD := Lib.hid bD; clear bD)
                  go_roundw
                  case rel => exact ⟨k + 1, bc, bd, HKN.out.2, rfl, rfl, by go_num, Lib.hid ⟨cl', ml', ct', mt', cc, mc, cd, md, _, C, H18.out.1.below HBD.out, HIS.out, HC.out⟩⟩
                  case measure => have hkn := HKN.out.2; simp [intOf]; omega
              · have hkd2 : (y.x.kind == 1) = false := by rw [beq_eq_false_iff_ne]; exact hkd
                have hrg : w16.rangeAt bS (offS + k * 5) (bkc y) := fun j v hv => (HP16.out.b.cell (p := ⟨bS, offS + k * 5 + j, none⟩) HBS.out).trans (HCY.out j v hv)
                have HCR := Lib.hid (rdo_cr bt ct mt l y hkd w.heap.size w16 HBO.out HP16.out.t HI.out.ok HIB.out.sm HRT16.out)
                have HEE : Hid (Bil.creditErr l y.x.a y.x.b y.x.c = er ∧ Bil.creditSt l y.x.a y.x.b y.x.c = Bil.doSt l y.x) := Lib.hid (by rw [← HER.out]; unfold Bil.doErr Bil.doSt; rw [if_neg hkd, if_neg hkd]; exact ⟨rfl, rfl⟩)
                clear hkd
                go_wp2_with (first
                  | (refine wpList_load_mid rfl _ (.tmp 118) rfl bS (offS + k * 5) rfl (bkc y) _ hrg Tryd.underlying35 rfl (by kernel_rfl) ?_)
                  | (go_at_call 21; refine HCR.out.mono ?_; rintro e w21 ⟨rfl, hk21, mt', ht21⟩; rw [HEE.out.1]; rw [HEE.out.2] at ht21; have HP21 := Lib.hid (HP16.out.turnT hk21 ht21 (fun b hb => .inl hb) (fun b hb => hb)); clear hk21 ht21))
                go_roundw
                case rel => exact ⟨k + 1, bc, bd, HKN.out.2, rfl, rfl, by go_num, Lib.hid ⟨cl', ml', ct, mt', cc, mc, cd, md, _, C, HP21.out, HIS.out, HC.out⟩⟩
                case measure => have hkn := HKN.out.2; simp [intOf]; omega
        · obtain rfl : k = n := by omega
          obtain ⟨cl, ml, ct, mt, cc, mc, cd, md, l, C, hP, hI, hC⟩ := HPL.out
          have hIb := inv_big hI HN60.out
          have HA1 := Lib.hid (alike_any bl cl ml bt ct mt l wr hP.l hP.t hI.ok (inv_enc hIb).1 (inv_enc hIb).2 hI.ke)
          have HA2 := Lib.hid (fun W (hW : Below wr.heap.size wr W) => alike_any bc cc mc bd cd md C W (hP.c.below hW) (hP.d.below hW) hC.ok (inv_enc hC).1 (inv_enc hC).2 hC.ke)
          have HB := Lib.hid hP.b
          clear hP hI hC hIb HPL
          go_wp2_with (first
            | (have hgd := ha1; go_at_call 22; refine (HA2.out _ HB6.out).mono ?_; rintro e w7 ⟨rfl, hb7⟩; have HB7 := Lib.hid hb7; clear hb7)
            | (go_at_call 22; refine HA1.out.mono ?_; rintro e w6 ⟨rfl, hb6⟩; have HB6 := Lib.hid hb6; clear hb6; have ha1 := Lib.hid True.intro))
          go_ret
          exact ⟨rfl, HB.out.trans ((HB6.out.trans (HB7.out.mono HB6.out.size)).mono HB.out.size)⟩
    · have HNW := Lib.hid (fun W => new_bad tn ht1 W)
      have HNR := Lib.hid (fun W => rNew_bad tn ht1 W)
      clear hL hnc hcc hok rd hT hR hfew ht1
      go_enter Tryd.func5, Tryd.ntmps5
      go_wp2_with (first
        | (go_at_call 9; refine HS.out.mono ?_; rintro e w1 ⟨rfl, b1⟩)
        | (go_at_call 10; refine (HF.out w1 b1).mono ?_; rintro e w2 ⟨rfl, hw2⟩; rw [hw2]; clear hw2 w2)
        | (go_at_call 11; refine (HNW.out _).mono ?_; rintro e w2 ⟨rfl, hw2⟩; rw [hw2]; clear hw2 w2)
        | (go_at_call 16; refine (HNR.out _).mono ?_; rintro e w2 ⟨rfl, hw2⟩; rw [hw2]; clear hw2 w2))
      go_ret
      exact ⟨rfl, b1⟩
  · have hf : fewB L = false := by simpa using hfew
    rw [hf] at HF
    clear hL hnc hcc hok rd hT hR hfew hf
    go_enter Tryd.func5, Tryd.ntmps5
    go_wp2_with (first
      | (go_at_call 9; refine HS.out.mono ?_; rintro e w1 ⟨rfl, b1⟩)
      | (go_at_call 10; refine (HF.out w1 b1).mono ?_; rintro e w2 ⟨rfl, hw2⟩; rw [hw2]; clear hw2 w2))
    go_ret
    exact ⟨rfl, b1⟩
end
end Go.Proofs.YtkjomnakolhdcaaDoor
