/- Layer 35's Credit. Conditions: the ledger keeps what it keeps (Ok), its numbers are at most 2^60; the tables of the digest are in memory. -/
import Derived.Test.YtkjomnakolhdcaaDoorBilL
namespace Go.Proofs.YtkjomnakolhdcaaDoor
set_option linter.unusedVariables false
set_option linter.unusedSimpArgs false
open Go.RowKit
/-- the ledger behind a credit -/
def Bil.creditSt (l : Bil.Lg) (p t u : Int) : Bil.Lg := if Bil.creditErr l p t u = 0 then Bil.creditOf (bookHead l.head ⟨(encCredit p t u).toArray⟩) l ((Bil.idx l p).getD 0) t.toNat u else l
/-- what Credit does -/
def CreditRes (w : World) (bl : Nat) (col : Nat → Nat) (l : Bil.Lg) (p t u : Int) (e : Ending) (w' : World) : Prop := e = .returned (.int .i64 (Bil.creditErr l p t u)) ∧ Keep (fun b => col b ≠ 0) w w' ∧ ∃ m', LAt w' bl col m' (Bil.creditSt l p t u)
theorem CreditRes.err {w w' : World} {bl : Nat} {col : Nat → Nat} {m : LM} {l : Bil.Lg} {p t u x : Int} (h : LAt w bl col m l) (hx : Bil.creditErr l p t u = x) (h0 : x ≠ 0) (hb : Below w.heap.size w w') : CreditRes w bl col l p t u (.returned (.int .i64 x)) w' :=
  ⟨by rw [hx], Keep.of_below hb, m, by unfold Bil.creditSt; rw [hx, if_neg h0]; exact h.below hb⟩
theorem encCredit_le (p t u : Int) : (encCredit p t u).length ≤ 36 := by
  have h1 := Wire.enc_length_le 2
  have h2 := Wire.enc_length_le p
  have h3 := Wire.enc_length_le t
  have h4 := Wire.enc_length_le u
  unfold encCredit
  simp only [List.length_append]
  omega
section
variable (bl : Nat) (col : Nat → Nat) (m : LM) (l : Bil.Lg) (p t u : Int) (w : World)
set_option maxHeartbeats 1600000 in
theorem credit_none (h : LAt w bl col m l) (p1 : -9223372036854775808 ≤ p) (p2 : p ≤ 9223372036854775807) (hi : Bil.idx l p = none) :
    Calls Tryd.prog 30 #[.pointer (some ⟨bl, 0, none⟩), .int .i64 p, .int .i64 t, .int .i64 u] w (CreditRes w bl col l p t u) := by
  have HA := Lib.hid (account_none bl col m l w h p p1 p2 hi)
  have hx : Bil.creditErr l p t u = 12 := by unfold Bil.creditErr; rw [hi]
  have HH := Lib.hid (And.intro h hx)
  clear h hi hx p1 p2
  go_enter Tryd.func30, Tryd.ntmps30
  go_wp2_with (go_at_call 70; refine HA.out.mono ?_; rintro e w1 ⟨rfl, b1⟩)
  go_ret
  exact CreditRes.err HH.out.1 HH.out.2 (by decide) b1
set_option maxHeartbeats 1600000 in
theorem credit_arg (h : LAt w bl col m l) (i : Nat) (hi : Bil.idx l p = some i) (hbad : t < 0 ∨ (l.n : Int) ≤ t ∨ u < 1) :
    Calls Tryd.prog 30 #[.pointer (some ⟨bl, 0, none⟩), .int .i64 p, .int .i64 t, .int .i64 u] w (CreditRes w bl col l p t u) := by
  have hx : Bil.creditErr l p t u = 1 := by unfold Bil.creditErr; rw [hi]; simp only; rw [if_pos hbad]
  have hk : i < m.ks.length := by have := Bil.idx_some hi; rw [h.klen] at this; exact this.2.2.1
  obtain ⟨g, off, hA, _⟩ := h.krow.form (by omega)
  have HA := Lib.hid (account_some bl col m l w h p i g off hi hA)
  obtain ⟨o, ho⟩ : ∃ x, off + i * 7 = x := ⟨_, rfl⟩
  rw [ho] at HA
  have HT := Lib.hid (fun W (hW : Below w.heap.size w W) => tenants_any bl col m l W (h.below hW))
  have HH := Lib.hid (And.intro h hx)
  generalize l.n = N at *
  clear h hi hx hA hk ho
  by_cases h1 : t < 0
  · clear hbad
    go_enter Tryd.func30, Tryd.ntmps30
    go_wp2_with (go_at_call 70; refine HA.out.mono ?_; rintro e w1 ⟨rfl, b1⟩)
    go_ret
    exact CreditRes.err HH.out.1 HH.out.2 (by decide) b1
  · by_cases h2 : (N : Int) ≤ t
    · clear hbad
      go_enter Tryd.func30, Tryd.ntmps30
      go_wp2_with (first
        | (go_at_call 70; refine HA.out.mono ?_; rintro e w1 ⟨rfl, b1⟩)
        | (go_at_call 43; refine (HT.out _ b1).mono ?_; rintro e w2 ⟨rfl, hw2⟩; rw [hw2]; clear hw2 w2))
      go_ret
      exact CreditRes.err HH.out.1 HH.out.2 (by decide) b1
    · have h3 : u < 1 := by omega
      clear hbad
      go_enter Tryd.func30, Tryd.ntmps30
      go_wp2_with (first
        | (go_at_call 70; refine HA.out.mono ?_; rintro e w1 ⟨rfl, b1⟩)
        | (go_at_call 43; refine (HT.out _ b1).mono ?_; rintro e w2 ⟨rfl, hw2⟩; rw [hw2]; clear hw2 w2))
      go_ret
      exact CreditRes.err HH.out.1 HH.out.2 (by decide) b1
set_option maxRecDepth 100000 in
set_option maxHeartbeats 3200000 in
theorem credit_in (h : LAt w bl col m l) (hO : Bil.Ok l) (hS : Bil.Sm l 1152921504606846976) (hT : Tabs w) (p1 : -9223372036854775808 ≤ p) (p2 : p ≤ 9223372036854775807) (u2 : u ≤ 9223372036854775807) (i tt : Nat) (ht : t = (tt : Int)) (htl : tt < l.n) (hu : 1 ≤ u) (hi : Bil.idx l p = some i) :
    Calls Tryd.prog 30 #[.pointer (some ⟨bl, 0, none⟩), .int .i64 p, .int .i64 t, .int .i64 u] w (CreditRes w bl col l p t u) := by
  subst ht
  have hk : i < m.ks.length := by have := Bil.idx_some hi; rw [h.klen] at this; exact this.2.2.1
  have hx : Bil.creditErr l p tt u = if (Bil.accAt l i).bill.charges.getD tt 0 - (Bil.accAt l i).granted.getD tt 0 < u then 2 else 0 := by
    unfold Bil.creditErr; rw [hi]; simp only; rw [if_neg (by omega), Int.toNat_natCast]
  have hok := (hO.a i (by rw [h.klen]; exact hk)).1
  have hb1 := Bil.charges_nonneg hok.f tt
  have hb2 := hok.d tt
  have hsm := hS tt
  rw [h.acc hk] at hx hb1 hb2
  obtain ⟨g, off, hA, _, hform⟩ := h.krow.form (by omega)
  have HA := Lib.hid (account_some bl col m l w h p i g off hi hA)
  obtain ⟨o, ho⟩ : ∃ x, off + i * 7 = x := ⟨_, rfl⟩
  rw [ho] at HA
  have k4 : w.cell? ⟨g, o + 3, none⟩ = some (.slice (some ⟨(m.ks[i]'hk).bc, 0, none⟩) l.n (m.ks[i]'hk).cc) := by have := hform i hk 3 _ rfl; rwa [ho] at this
  have k7 : w.cell? ⟨g, o + 6, none⟩ = some (.slice (some ⟨(m.ks[i]'hk).bg, 0, none⟩) l.n (m.ks[i]'hk).cg) := by have := hform i hk 6 _ rfl; rwa [ho] at this
  have hkat := h.kat _ (List.getElem_mem hk)
  have kc := hkat.c.cell tt htl
  have kg := hkat.g.cell tt htl
  have fg := hkat.g.free tt htl
  have lc := hkat.c.lt
  have lg := hkat.g.lt
  have gl : g < w.heap.size := h.krow.lt hA
  have HT := Lib.hid (fun W (hW : Below w.heap.size w W) => tenants_any bl col m l W (h.below hW))
  have HSG := Lib.hid (fun (W : World) (hW : LAt W bl col m l) (v : Int) => hW.setGrant hO hk htl v)
  have HGR := Lib.hid (show (m.grant i tt 0).bp = m.bp from rfl)
  have HQG := Lib.hid hkat.qg
  have hsx : (⟨(encCredit p tt u).toArray⟩ : ByteArray).size ≤ 1000000 := by have := encCredit_le p tt u; show (encCredit p tt u).toArray.size ≤ _; simp; omega
  have HSX := Lib.hid hsx
  have HSI := Lib.hid hi
  obtain ⟨bc, hbc⟩ : ∃ x, (m.ks[i]'hk).bc = x := ⟨_, rfl⟩
  obtain ⟨bg, hbg⟩ : ∃ x, (m.ks[i]'hk).bg = x := ⟨_, rfl⟩
  obtain ⟨cc, hcc⟩ : ∃ x, (m.ks[i]'hk).cc = x := ⟨_, rfl⟩
  obtain ⟨cg, hcg⟩ : ∃ x, (m.ks[i]'hk).cg = x := ⟨_, rfl⟩
  obtain ⟨x, hxx⟩ : ∃ x, (m.ks[i]'hk).a.bill.charges.getD tt 0 = x := ⟨_, rfl⟩
  obtain ⟨y, hyy⟩ : ∃ x, (m.ks[i]'hk).a.granted.getD tt 0 = x := ⟨_, rfl⟩
  rw [hbc, hcc] at k4
  rw [hbg, hcg] at k7
  rw [hbc] at kc lc
  rw [hbg] at kg fg lg HSG HQG
  rw [hxx] at kc hx hb1 hb2
  rw [hyy] at kg hx hb2
  have HACC := Lib.hid (show (Bil.accAt l i).granted.getD tt 0 = y from by rw [h.acc hk]; exact hyy)
  obtain ⟨z, hz⟩ : ∃ z, l.pending.getD tt 0 = z := ⟨_, rfl⟩
  rw [hz] at hsm
  have HZ := Lib.hid hz
  have hc1 := h.row.cell 2
  have kp := h.pend.cell tt htl
  have fp := h.pend.free tt htl
  rw [hz] at kp
  have HH := Lib.hid h
  have HTT := Lib.hid hT
  have hn16 := h.n2
  obtain ⟨d, hd⟩ : ∃ d, x - y = d := ⟨_, rfl⟩
  have m1 : IntKind.i64.wrap (x - y) = d := by rw [hd]; exact IntWalk.i64_in _ (by omega)
  rw [hd] at hx
  have n1 : ¬ ((tt : Int) < 0) := by omega
  have n2 : (tt : Int) < (l.n : Int) := by omega
  have n3 : ¬ ((l.n : Int) ≤ (tt : Int)) := by omega
  have n4 : ¬ (u < 1) := by omega
  have HN : Hid (tt < l.n) := Lib.hid htl
  have HP := Lib.hid (And.intro p1 (And.intro p2 (And.intro hu u2)))
  have HX := Lib.hid hx
  by_cases hlt : d < u
  · rw [if_pos hlt] at HX
    generalize l.n = N at *
    clear h hO hS hT hform hkat hA hi hx hbc hbg hcc hcg hxx hyy hz hd hb1 hb2 hsm p1 p2 hu u2 ho hok hsx htl hn16
    go_enter Tryd.func30, Tryd.ntmps30
    go_wp2_with (first
      | (go_at_call 70; refine HA.out.mono ?_; rintro e w1 ⟨rfl, b1⟩; have HB1 := Lib.hid b1; have k4' := (b1.cell (p := ⟨g, o + 3, none⟩) gl).trans k4; have k7' := (b1.cell (p := ⟨g, o + 6, none⟩) gl).trans k7; have kc' := (b1.cell (p := ⟨bc, tt, none⟩) lc).trans kc; have kg' := (b1.cell (p := ⟨bg, tt, none⟩) lg).trans kg; clear k4 k7 kc kg)
      | (go_at_call 43; refine (HT.out _ b1).mono ?_; rintro e w2 ⟨rfl, hw2⟩; rw [hw2]; clear hw2 w2 b1))
    go_quiet (fail)
    go_wp2
    go_ret
    exact CreditRes.err HH.out HX.out (by decide) (below_drewN HB1.out _)
  · rw [if_neg hlt] at HX
    obtain ⟨yu, hyu⟩ : ∃ d, y + u = d := ⟨_, rfl⟩
    obtain ⟨zu, hzu⟩ : ∃ d, z + u = d := ⟨_, rfl⟩
    have m2 : IntKind.i64.wrap (y + u) = yu := by rw [hyu]; exact IntWalk.i64_in _ (by omega)
    have m3 : IntKind.i64.wrap (z + u) = zu := by rw [hzu]; exact IntWalk.i64_in _ (by omega)
    have HYU := Lib.hid (And.intro hyu hzu)
    obtain ⟨N, hNN⟩ : ∃ x, l.n = x := ⟨_, rfl⟩
    rw [hNN] at n2 n3 k4 k7 HT
    have HNN := Lib.hid hNN
    clear h hO hS hT hform hkat hA hi hx hbc hbg hcc hcg hxx hyy hz hd hb1 hb2 hsm p1 p2 hu u2 ho hok hsx htl hn16 hyu hzu kp fp hc1 hNN
    go_enter Tryd.func30, Tryd.ntmps30
    go_wp2_with (first
      | (go_at_call 70; refine HA.out.mono ?_; rintro e w1 ⟨rfl, b1⟩; have HB1 := Lib.hid b1; have k4' := (b1.cell (p := ⟨g, o + 3, none⟩) gl).trans k4; have k7' := (b1.cell (p := ⟨g, o + 6, none⟩) gl).trans k7; have kc' := (b1.cell (p := ⟨bc, tt, none⟩) lc).trans kc; have kg' := (b1.cell (p := ⟨bg, tt, none⟩) lg).trans kg; have fg' := (b1.frozen (p := ⟨bg, tt, none⟩) lg).trans fg; clear k4 k7 kc kg fg)
      | (go_at_call 43; refine (HT.out _ b1).mono ?_; rintro e w2 ⟨rfl, hw2⟩; rw [hw2]; clear hw2 w2 b1))
    go_quiet (fail)
    go_upto_region 8 with fail
    go_cut [] (fun wx => LAt wx bl col (m.grant i tt yu) { l with kept := l.kept.set i ⟨(Bil.accAt l i).bill, (Bil.accAt l i).granted.set tt yu⟩ } ∧ Keep (fun b => col b ≠ 0) w wx)
    case first =>
      go_wp2_with fail
      go_meet
      exact ⟨HSG.out _ ((HH.out.below HB1.out).drewN _) _, (Keep.of_below (below_drewN HB1.out _)).setCell (.inl (by show col bg ≠ 0; rw [HQG.out]; omega)) _⟩
    case rest =>
      obtain ⟨hl2, hkp2⟩ := hcut
      obtain ⟨w2, hw2⟩ : ∃ x, wc = x := ⟨_, rfl⟩
      try rw [hw2] at hl2 hkp2 ⊢
      clear hw2 k4' k7' kc' kg' fg' HA HB1
      have c2 := hl2.row.cell 2
      have kp := hl2.pend.cell tt HN.out
      have fp := hl2.pend.free tt HN.out
      rw [show ({ l with kept := l.kept.set i ⟨(Bil.accAt l i).bill, (Bil.accAt l i).granted.set tt yu⟩ } : Bil.Lg).pending.getD tt 0 = z from HZ.out] at kp
      replace c2 : w2.cell? ⟨bl, 2, none⟩ = some (.slice (some ⟨m.bp, 0, none⟩) N m.cp) := by rw [c2, ← HNN.out]; rfl
      replace kp : w2.cell? ⟨m.bp, tt, none⟩ = some (.int .i64 z) := kp
      replace fp : w2.frozen? ⟨m.bp, tt, none⟩ = false := fp
      have HL2 := Lib.hid hl2
      have HK2 := Lib.hid hkp2
      clear hl2 hkp2
      go_upto_region 9 with fail
      go_cut [] (fun wx => LAt wx bl col (m.grant i tt yu) { l with kept := l.kept.set i ⟨(Bil.accAt l i).bill, (Bil.accAt l i).granted.set tt yu⟩, pending := l.pending.set tt zu } ∧ Keep (fun b => col b ≠ 0) w wx)
      case first =>
        go_wp2_with fail
        go_meet
        exact ⟨HL2.out.setPend HN.out zu, HK2.out.setCell (.inl (by show col m.bp ≠ 0; have := HH.out.cbp; omega)) _⟩
      case rest =>
        obtain ⟨hl3, hkp3⟩ := hcut
        obtain ⟨w3, hw3⟩ : ∃ x, wc = x := ⟨_, rfl⟩
        try rw [hw3] at hl3 hkp3 ⊢
        have HL3 := Lib.hid hl3
        have HK3 := Lib.hid hkp3
        have HE := Lib.hid (encodeCredit_any p tt u HP.out.1 HP.out.2.1 (by omega) (by have := HH.out.n2; have := HN.out; omega) (by have := HP.out.2.2.1; omega) HP.out.2.2.2 w3)
        clear hl3 hkp3 c2 kp fp hw3
        go_wp2_with (first
          | (go_at_call 51; refine HE.out.mono ?_; rintro e w4 ⟨rfl, b4⟩; have HB4 := Lib.hid b4; clear b4)
          | (go_at_call 69; refine (book_any bl col _ _ _ HSX.out w4 (HL3.out.below HB4.out) (HTT.out.keeps (HK3.out.then_below HB4.out) (by have := HH.out.tab.1; omega) (by have := HH.out.tab.2.1; omega))).mono ?_; rintro e w5 ⟨rfl, hl5, hk5⟩; have HL5 := Lib.hid hl5; have HK5 := Lib.hid hk5; clear hl5 hk5))
        go_ret
        refine ⟨by rw [HX.out]; rfl, (HK3.out.then_below HB4.out).trans (HK5.out.mono fun b hb e => by subst e; show col b ≠ 0; have := HH.out.cbl; omega), m.grant i tt yu, ?_⟩
        have e : Bil.creditSt l p tt u = { l with kept := l.kept.set i ⟨(Bil.accAt l i).bill, (Bil.accAt l i).granted.set tt yu⟩, pending := l.pending.set tt zu, head := bookHead l.head ⟨(encCredit p tt u).toArray⟩ } := by
          unfold Bil.creditSt
          rw [if_pos HX.out, HSI.out, Int.toNat_natCast, ← HYU.out.1, ← HYU.out.2, ← HACC.out, ← HZ.out]
          rfl
        rw [e]
        exact HL5.out
/-- Credit, at whatever arguments -/
theorem credit_any (h : LAt w bl col m l) (hO : Bil.Ok l) (hS : Bil.Sm l 1152921504606846976) (hT : Tabs w) (p1 : -9223372036854775808 ≤ p) (p2 : p ≤ 9223372036854775807) (u2 : u ≤ 9223372036854775807) :
    Calls Tryd.prog 30 #[.pointer (some ⟨bl, 0, none⟩), .int .i64 p, .int .i64 t, .int .i64 u] w (CreditRes w bl col l p t u) := by
  cases hi : Bil.idx l p with
  | none => exact credit_none bl col m l p t u w h p1 p2 hi
  | some i =>
    by_cases hbad : t < 0 ∨ (l.n : Int) ≤ t ∨ u < 1
    · exact credit_arg bl col m l p t u w h i hi hbad
    · exact credit_in bl col m l p t u w h hO hS hT p1 p2 u2 i t.toNat (by omega) (by omega) (by omega) hi
end
end Go.Proofs.YtkjomnakolhdcaaDoor
